/- Asd Flt Fdk Frn Fsl -/
import Derived.Test.YtifcdjmcoibblaaGreatDoorFq40
import Derived.Test.YtifcdjmcoibblaaGreatDoorFq11
import Derived.Test.YtifcdjmcoibblaaGreatDoorFq06
import Derived.Test.YtifcdjmcoibblaaGreatDoorFq34
import Derived.Test.YtifcdjmcoibblaaGreatDoorFq01
import Derived.Test.YtifcdjmcoibblaaGreatDoorFq38
import Derived.Test.YtifcdjmcoibblaaGreatDoorFq33
set_option linter.unusedVariables false
set_option linter.unusedSimpArgs false
set_option linter.unusedSectionVars false
set_option maxRecDepth 100000
set_option maxHeartbeats 80000000
namespace Go.Proofs.YtifcdjmcoibblaaGreatDoor
section
open Go.RowKit
theorem Tryz.infoSS:(Tryz.prog.info? 30).map (fun i=>(i.zero,i.size,i.bytes))=some (some (.slice none 0 0),1,24):=by kernel_rfl
section
variable {D L:Type} [Dg D]
theorem askedL_congr (props:List (Int×Msg D L)):∀(ks:List Int) (a b:List D),(∀d,d∈a↔d∈b)→askedL props ks a=askedL props ks b
 | [],_,_,_=>rfl
 | r :: ks,a,b,h=>by
  unfold askedL;rcases getA r props with _ | m
  ·exact askedL_congr props ks a b h
  simp only;by_cases hm:m.dig∈a
  ·rw [if_pos hm,if_pos ((h _).1 hm)];exact askedL_congr props ks a b h
  rw [if_neg hm,if_neg (fun q=>hm ((h _).2 q))];rw [askedL_congr props ks (m.dig :: a) (m.dig :: b) (fun d=>by simp [h d])]
end
def RowL (w W:World) (v:Value) (ls:List (List ByteArray)):Prop:=∃sls,All2 (fun u l=>LRow (New w W) W u l) sls ls∧W.ownsRow w.heap.size 30 1 v ls.length sls
theorem RowL.nil (w W:World):RowL w W (.slice none 0 0) []:=⟨[],.nil,World.ownsRow_nil _ _ _ _⟩
theorem RowL.later {w W W':World} {v:Value} {ls:List (List ByteArray)} (h:RowL w W v ls) (hb:Below W.heap.size W W'):RowL w W' v ls:=by
 obtain ⟨sls,h1,h2⟩:=h;exact ⟨sls,h1.mono (fun a b q=>(q.kept (fun g cur fr hr _=>hb.block g hr.2)).mono (fun k hk=>⟨hk.1,Nat.lt_of_lt_of_le hk.2 hb.size⟩)),ownsRow_blk h2 (fun g _ hl=>hb.block g hl)⟩
theorem rowL_slice {w W:World} {v:Value} {ls:List (List ByteArray)} (h:RowL w W v ls):∃ao cap,v = .slice ao ls.length cap:=by
 obtain ⟨sls,h1,h2⟩:=h;rcases h2.2 with ⟨e,h0⟩ | ⟨g,c,_,e,_⟩
 ·exact ⟨none,0,by rw [e,h0]⟩
 exact ⟨_,_,e⟩
theorem All2.same {α β:Type} {r:α→β→Prop} {l:List α} {m:List β} (h:All2 r l m):∀(q:Nat) a b,l[q]?=some a→m[q]?=some b→r a b:=by
 induction h with
 | nil=>intro q a b h1;simp at h1
 | cons h1 _ ih=>
  intro q a b e1 e2;cases q with
  | zero=>
   simp at e1 e2;subst e1 e2;exact h1
  | succ q=>exact ih q a b (by simpa using e1) (by simpa using e2)
theorem RowL.nth {w W:World} {ao:Option Addr} {n cap:Nat} {ls:List (List ByteArray)} (h:RowL w W (.slice ao n cap) ls) {q:Nat} {l:List ByteArray} (hq:ls[q]?=some l) :
  ∃g u,ao=some ⟨g,0,none⟩∧W.cell? ⟨g,q,none⟩=some u∧LRow (New w W) W u l∧w.heap.size≤g∧g<W.heap.size:=by
 obtain ⟨sls,h1,h2⟩:=h;have hl:=(List.getElem?_eq_some_iff.1 hq).1;have hs:q<sls.length:=by rw [h1.len];exact hl
 rcases h2.2 with ⟨e,h0⟩ | ⟨g,c2,cur,e,hb,hg,_,_,_,ht⟩
 ·omega
 injection e with e1 e2 e3
 refine ⟨g,sls[q],e1,?_,?_,hb,(gE hg).1⟩
 ·have h3:(cur.toList.take (ls.length * 1))[q]?=some sls[q]:=by rw [ht];exact List.getElem?_eq_getElem hs
  rw [List.getElem?_take_of_lt (by omega),Array.getElem?_toList] at h3;rw [cell_of_row W g q cur _ _ hg];exact h3
 exact h1.same q _ _ (List.getElem?_eq_getElem hs) hq
theorem memD_mem {d:ByteArray} {l:List ByteArray}:memD d l=true↔d∈l:=by unfold memD;simp
theorem rowL_push {w wr wb w5 wz w6:World} {v v5 v6:Value} {sb:Nat} {ls:List (List ByteArray)} {l:List ByteArray} {sls:List Value}
  (hA:All2 (fun u l=>LRow (New w wr) wr u l) sls ls) (hown:wr.ownsRow w.heap.size 30 1 v ls.length sls) (h5:LRow (New wb w5) w5 v5 l) (h0:w.heap.size≤wr.heap.size) (hb:wr.heap.size≤wb.heap.size) (hs5:wb.heap.size≤w5.heap.size) (hz:w5.heap.size≤wz.heap.size)
  (hsb:∃es clk,wr.heap[sb]?=some (.map es clk)) (hk:∀k,k<wr.heap.size→k≠sb→wz.heap[k]?=wr.heap[k]?) (hk5:∀k,k<w5.heap.size→wz.heap[k]?=w5.heap[k]?)
  (own6:w6.ownsRow w.heap.size 30 1 v6 (ls.length+1) (sls ++ [v5])) (gr:wz.grownBy w6 v.ownBlock):RowL w w6 v6 (ls ++ [l]):=by
 have hg6:=gr.size;have hvb:∀g,v.ownBlock=some g→g<wr.heap.size∧∃cur,wr.heap[g]?=some (.cells cur 30 (0,0)):=fun g hg=>by
  rcases hown.2 with ⟨e,_⟩ | ⟨g2,c2,cur,e,_,hg2,_⟩
  ·rw [e] at hg;simp [Value.ownBlock] at hg
  rw [e] at hg;have:g2=g:=by simpa [Value.ownBlock] using hg
  subst this;exact ⟨(gE hg2).1,cur,hg2⟩
 refine ⟨sls ++ [v5],All2.app (hA.mono (fun a b q=>(q.kept (fun g cur fr hr hc=>?_)).mono (fun k hk=>⟨hk.1,by have:=hk.2;omega⟩))) (.cons ((h5.kept (fun g cur fr hr hc=>?_)).mono (fun k hk=>⟨by have:=hk.1;omega,by have:=hk.2;omega⟩)) .nil),by simpa using own6⟩
 ·have hne:g≠sb:=fun e=>by
   obtain ⟨es,clk,hm⟩:=hsb;rw [e,hm] at hc;cases hc
  rw [gr.block g (by have:=hr.2;omega) (fun e=>by
   obtain ⟨_,cur2,h2⟩:=hvb g e.symm;rw [h2] at hc;injection hc with hc
   injection hc with _ hc _
   exact absurd hc (by decide))]
  exact hk g hr.2 hne
 rw [gr.block g (by have:=hr.2;omega) (fun e=>by
  have:=(hvb g e.symm).1;have:=hr.1;omega)]
 exact hk5 g hr.2
theorem asked_any {R:Nat→Prop} {w:World} {x:Nat} {p:Ptr} {s:StB} (h:NodeP R w x p s) (hpl:s.props.length≤1000) (hll:∀k m,getA k s.props=some m→m.list.length≤1000) :
  Calls Tryz.prog 38 #[pv x] w fun e w'=>(∃v,e = .returned v∧RowL w w' v s.asked)∧Below w.heap.size w w':=by
 have H:=Hd h;have HLL:=Hd hll;obtain ⟨dn,hdn⟩:∃dn,dn=s.isDec s.height:=⟨_,rfl⟩;have IS:=Hd (isDecided_any h s.height);rw [←hdn] at IS;have HDN:=Hd hdn;have c0:=h.nc.c0;have hfz:=h.nc.fz;unfold pv at IS;unfold iv at IS;obtain ⟨ks,hks⟩:∃ks,ks=sortI (s.props.map (·.1)):=⟨_,rfl⟩;have HKS:=Hd hks;obtain ⟨nk,hnk⟩:∃nk,nk=ks.length:=⟨_,rfl⟩;have HNK:=Hd hnk;have nk0:(0:Int)≤(nk:Int):=by omega
 have hkl:ks.length=s.props.length:=by rw [hks,sortI_len];simp
 have nk9:(nk:Int)≤1000:=by omega
 obtain ⟨L,hL,hA⟩:=h.maps.props;have HPL:=Hd hL;obtain ⟨lv,hlv,hlk⟩:∃lv:List (Int×Value),L=lv.map encIV∧lv.map (·.1)=s.props.map (·.1):=by
  clear hL HPL IS H HLL hnk hkl hks hpl hll h HKS HNK;generalize s.props=ps at hA;induction hA with
  | nil=>exact ⟨[],rfl,rfl⟩
  | cons h1 _ ih=>
   obtain ⟨lv,e1,e2⟩:=ih;rename_i a b la lb _
   exact ⟨(b.1,a.2) :: lv,by rw [List.map_cons,←e1];unfold encIV;rw [show (Value.int .i64 b.1)=a.1 from h1.1.symm],by rw [List.map_cons,List.map_cons,e2]⟩
 have HLV:=Hd hlk;rw [hlv] at HPL;have SRK:=Hd (fun W bx (hm:RawMap W p.props (lv.map encIV)) (hb:W.cell? ⟨bx,0,none⟩=some (.map (some p.props)))=>(callsIn_wide.1 (msorted_any 5 bx p.props lv W (by
   have:=congrArg List.length hlk;rw [List.length_map,List.length_map] at this;omega) hm hb)).mono (fun e w' q=>show ∃v,e = .returned v∧w'.ownsRow W.heap.size 3 1 v nk (ks.map (Value.int .i64))∧Below W.heap.size W w' from by
    have e1:lv.length=nk:=by
     have:=congrArg List.length hlk;rw [List.length_map,List.length_map] at this;omega
    rw [hks,←hlk,←e1];exact q))
 clear hL hA hlv hlk hks hnk hkl hpl hll h hdn;unfold pv;go_enter Tryz.func38,Tryz.ntmps38
 go_upto_region 1 with (fail)
 go_cut [17] (fun t wc=>t = .bool dn∧Below w.heap.size w wc)
 case first=>
  go_wp2_with (go_at_call 63;(with_reducible refine IS.out.mono ?_);rintro e w1 ⟨rfl,hb1⟩;have HB1:=Hd hb1;clear hb1)
  go_meet;exact ⟨rfl,HB1.out⟩
 case rest=>
 obtain ⟨rfl,hb1⟩:=hcut;obtain ⟨w1,rfl⟩:∃w1:World,w1=wc:=⟨_,rfl⟩;have HB1:=Hd hb1;clear hb1 IS c0;rcases dn with _ | _
 ·have HAS:=Hd (show s.asked=askedL s.props ks s.acc from by unfold NS.asked;rw [←HDN.out,HKS.out];rfl);have N1:=Hd (H.out.below HB1.out);have c8:=N1.out.nc.c8;have CL:=Hd (mclone_any N1.out.maps.acc);unfold pv at *;go_upto_region 4 with (go_at_call 82;(with_reducible refine CL.out.mono ?_);rintro e w2 ⟨rfl,hm2,hb2⟩;have HM2:=Hd hm2;have HB2':=Hd hb2;clear hm2 hb2)
  obtain ⟨sb,hsb⟩:∃sb,sb=w1.heap.size:=⟨_,rfl⟩;have HSB:=Hd (show w.heap.size≤sb from by rw [hsb];exact HB1.out.size);have HB2:=Hd (HB1.out.trans (HB2'.out.mono HB1.out.size));rw [←hsb] at HM2 ⊢;clear hsb c8 CL;have N2:=Hd (H.out.below HB2.out);have c9:=N2.out.nc.c9;have MM:=Hd (show RawMap (w2.alloc (.cells #[.map (some p.props)] 110)) p.props (lv.map encIV) from HPL.out.kept ((HB2.out.alloc HB2.out.size _).block p.props HPL.out.lt));go_upto_region 5 with (first
   | (go_at_call 84;refine (mkeys_any p.props _).mono ?_;rintro e w3 ⟨rfl,rfl⟩)
   | (go_at_call 83;go_loud (refine (SRK.out _ _ MM.out (cell_box _ _ _ _ _ rfl _ rfl)).mono ?_;rintro e w3 ⟨kv,rfl,hrow,hbl⟩;have HRW:=Hd hrow;have HBL:=Hd hbl;obtain ⟨kao,kcap,rfl,_,_⟩:=rowK_of_owns (enc:=encI1) (l:=ks) encI1_len (by decide) (by rw [flat_I1];exact hrow);rw [←HNK.out] at HRW ⊢;clear hrow hbl)))
  have HB3:=Hd (show Below w.heap.size w w3 from (HB2.out.alloc HB2.out.size _).trans (HBL.out.mono (by have:=HB2.out.size;simp;omega)));have HM3:=Hd (show RawMap w3 sb (s.acc.map encAcc) from (HM2.out.kept (Below.heap_alloc _ _ _ HM2.out.lt)).kept (HBL.out.block sb (by have:=HM2.out.lt;simp;omega)));have HS3:=Hd (show sb<w3.heap.size from HM3.out.lt);have HKC:=Hd (show ∀j k,ks[j]?=some k→∃g,kao=some ⟨g,0,none⟩∧g<w3.heap.size∧(∃cur,w3.heap[g]?=some (.cells cur 3 (0,0)))∧w3.cell? ⟨g,j,none⟩=some (.int .i64 k) from fun j k hj=>by
   have hl:=(List.getElem?_eq_some_iff.1 hj).1;rcases HRW.out.2 with ⟨e,h0⟩ | ⟨g,c2,cur,e,hb,hg,_,_,_,ht⟩
   ·rw [←HNK.out] at hl;omega
   injection e with e1 e2 e3
   refine ⟨g,e1,(gE hg).1,⟨cur,hg⟩,?_⟩;have h3:(cur.toList.take (nk * 1))[j]?=some (.int .i64 k):=by rw [ht,List.getElem?_map,hj];rfl
   rw [List.getElem?_take_of_lt (by rw [HNK.out];omega),Array.getElem?_toList] at h3;rw [cell_of_row w3 g j cur _ _ hg];exact h3)
  clear c9 MM HRW HBL SRK N2 HM2 N1 HB2' HB2;go_wp2_with fail
  go_loopw [32,2] (fun iv ov wr=>∃(j:Nat) (sd:List ByteArray) (outl:List (List ByteArray)),j≤nk∧iv = .int .i64 (j:Int)∧RawMap wr sb (sd.map encAcc)∧RowL w wr ov outl∧outl.length≤j∧Chg (fun k=>w.heap.size≤k) w3 wr∧(∀g,kao=some ⟨g,0,none⟩→wr.heap[g]?=w3.heap[g]?)∧(∀g,ov.ownBlock=some g→g≠sb)∧askedL s.props ks s.acc=outl ++ askedL s.props (ks.drop j) sd) (fun iv _ _=>nk - (intOf iv).toNat)
  case atStart=>exact ⟨0,s.acc,[],Nat.zero_le _,rfl,HM3.out,RowL.nil _ _,Nat.zero_le _,Chg.refl _ _,fun _ _=>rfl,fun g hg=>by simp [Value.ownBlock] at hg,rfl⟩
  case round=>
   obtain ⟨j,sd,outl,hj,rfl,hsd,hro,hol,hch,hkk,hob,heq⟩:=hrel;obtain ⟨oao,ocap,rfl⟩:=rowL_slice hro;have j0:(0:Int)≤(j:Int):=by omega
   have HBR:=Hd (HB3.out.trans (hch.below HB3.out.size (fun k hk=>hk)));have HSD:=Hd hsd;have HRO:=Hd hro;have HOL:=Hd hol;have HCH:=Hd hch;have HKK:=Hd hkk;have HOB:=Hd hob;have HEQ:=Hd heq;clear hsd hro hol hch hkk hob heq;by_cases hjn:j<nk
   ·have j1:(j:Int)<(nk:Int):=by omega
    obtain ⟨r,hr⟩:∃r,ks[j]?=some r:=⟨ks[j]'(by rw [←HNK.out];exact hjn),List.getElem?_eq_getElem _⟩;obtain ⟨g,rfl,hgl,⟨gcur,hgc⟩,hkc⟩:=HKC.out j r hr;have HDR:=Hd (show ks.drop j=r :: ks.drop (j+1) from by
     obtain ⟨h1,h2⟩:=List.getElem?_eq_some_iff.1 hr;rw [List.drop_eq_getElem_cons h1,h2])
    have HGW:=Hd (HKK.out g rfl);have HGI:=Hd hgc;rw [←World.cell?_of_block (w:=w3) (w':=wr) (a:=⟨g,j,none⟩) HGW.out] at hkc;have NR:=Hd (H.out.below HBR.out);obtain ⟨m,hgm⟩:∃m,getA r s.props=some m:=by
     rcases e:getA r s.props with _ | m
     ·rw [getA_none] at e;refine absurd (mem_sortI (l:=s.props.map (·.1)) ?_) e;rw [←HKS.out];exact List.mem_of_getElem? hr
     exact ⟨m,rfl⟩
    have HGM:=Hd hgm;obtain ⟨vm,hvm,hlk⟩:∃v,MsgV R wr v m∧(Instr.lookup 110 (.map (some p.props)) (.int .i64 r) false).run Tryz.prog wr = .ok v wr:=by
     rcases NR.out.maps.look_props r false with ⟨e,_⟩ | ⟨u,v,e,hv,hl⟩
     ·rw [hgm] at e;cases e
     rw [hgm] at e;cases e;exact ⟨v,hv,hl⟩
    obtain ⟨sl,rfl,mao,mcap,rfl,hcp,hrw⟩:=hvm;have HLR:=Hd (show LRow R wr (.slice mao m.list.length mcap) m.list from ⟨mao,mcap,rfl,hcp,hrw⟩);have c9:=NR.out.nc.c9;unfold encM iv at hlk;clear hr hgm hcp hrw hgc;go_upto_region 8 with (fail)
    obtain ⟨mb,hmb⟩:∃mb,mb=wr.heap.size:=⟨_,rfl⟩;obtain ⟨wa,hwa⟩:∃wa,wa=wr.alloc (.cells #[.int .i64 m.kind,.int .i64 m.frm,.int .i64 m.to,.int .i64 m.height,.int .i64 m.round,.int .i64 m.valid,.string m.dig,.slice mao m.list.length mcap] 36):=⟨_,rfl⟩;have HRA:=Hd (show wa.heap[mb]?=some (.cells #[.int .i64 m.kind,.int .i64 m.frm,.int .i64 m.to,.int .i64 m.height,.int .i64 m.round,.int .i64 m.valid,.string m.dig,.slice mao m.list.length mcap] 36 (0,0)) from by rw [hwa,hmb];exact World.alloc_heap_new wr _);have HBA:=Hd (show Below wr.heap.size wr wa from by rw [hwa];exact (Below.refl _ wr).alloc (Nat.le_refl _) _);have HMB:=Hd (show wr.heap.size≤mb∧mb<wa.heap.size from ⟨Nat.le_of_eq hmb.symm,(gE HRA.out).1⟩);rw [←hmb,←hwa];clear hmb hwa hkc hlk c9;obtain ⟨c0,c1,c2,c3,c4,c5,c6,c7,fz⟩:=MRow.of HRA.out;have HSL:=Hd (show sb<wr.heap.size from HSD.out.lt);have HSA:=Hd (show RawMap wa sb (sd.map encAcc) from HSD.out.kept (HBA.out.block sb HSL.out));have hls:(Instr.lookup 109 (.map (some sb)) (.string m.dig) false).run Tryz.prog wa = .ok (.bool (memD m.dig sd)) wa:=by
     have:=HSA.out.lookup (P:=Tryz.prog) keyS Tryz.underlying109 (good_acc wa _) ⟨m.dig,rfl⟩ (zB wa) false;refine this.trans ?_;rw [←getV_mem (ek:=.string) encAcc_eq str_inj];rfl
    obtain ⟨ts,hts⟩:∃ts,memD m.dig sd=ts:=⟨_,rfl⟩;rw [hts] at hls;have HTS:=Hd hts;clear hts;rcases ts with _ | _
    ·have HNM:=Hd (memD_false.1 HTS.out);have HE:=Hd (show askedL s.props ks s.acc=(outl ++ [m.list]) ++ askedL s.props (ks.drop (j+1)) (insA m.dig sd) from by
      rw [HEQ.out,HDR.out];conv=>lhs;arg 2;unfold askedL
      rw [HGM.out];simp only;rw [if_neg HNM.out,List.append_assoc,askedL_congr s.props _ (m.dig :: sd) (insA m.dig sd) (fun d=>by
       unfold insA;rw [if_neg HNM.out];simp [or_comm])]
      rfl)
     have HLL2:=Hd (HLL.out r m HGM.out);go_upto_region 10 with (refine wpList_mapUpdate_raw _ rfl (.tmp 48) (.tmp 50) (.const (.bool true)) 109 (by rfl) 9 4 Tryz.underlying109 keyS sb _ (by rfl) HSA.out (good_acc _ _) (.string m.dig) (.bool true) (by rfl) (by rfl) ⟨m.dig,rfl⟩ ?_;intro ob hob;have HO:=Hd hob;clear hob)
     obtain ⟨wb,hwb⟩:∃wb,wb=wa.putObj sb ob:=⟨_,rfl⟩;have HSB2:=Hd (show RawMap wb sb ((insA m.dig sd).map encAcc) from by
      have h3:=HO.out;rw [putV_set (ek:=.string) encAcc_eq str_inj] at h3;rw [hwb];exact h3)
     have HPB:=Hd (show (∀k,k≠sb→wb.heap[k]?=wa.heap[k]?)∧wb.heap.size=wa.heap.size from by
      rw [hwb];exact ⟨fun k hk=>World.putObj_heap_other hk,by simp [World.putObj]⟩)
     have HCB:=Hd (show Chg (fun k=>k=sb) wa wb from by rw [hwb];exact Chg.put wa sb ob rfl);rw [←hwb];clear hwb HO hls;have HMR:=Hd (show wb.heap[mb]?=some (.cells #[.int .i64 m.kind,.int .i64 m.frm,.int .i64 m.to,.int .i64 m.height,.int .i64 m.round,.int .i64 m.valid,.string m.dig,.slice mao m.list.length mcap] 36 (0,0)) from (HPB.out.1 mb (by have:=HMB.out.1;have:=HSL.out;omega)).trans HRA.out);clear c0 c1 c2 c3 c4 c5 c6 c7 fz;have c7:=(MRow.of HMR.out).c7;have HLB:=Hd (show LRow R wb (.slice mao m.list.length mcap) m.list from HLR.out.kept (w':=wb) (fun g cur fr hr _=>by
      have:=H.out.lt g hr;have:=HSB.out;rw [HPB.out.1 g (by omega)];exact HBA.out.block g (by have:=HBR.out.size;omega)))
     have CN:=Hd (clone_any HLB.out HLL2.out);obtain ⟨sls,hA,hown⟩:=HRO.out;have HAL:=Hd hA;have HOW:=Hd hown;have HVB:=Hd (show ∀g',(Value.slice oao outl.length ocap).ownBlock=some g'→w.heap.size≤g'∧g'<wr.heap.size∧∃cur,wr.heap[g']?=some (.cells cur 30 (0,0)) from fun g' hg=>by
      rcases hown.2 with ⟨e,_⟩ | ⟨g2,c2,cur,e,hb,hg2,_⟩
      ·rw [e] at hg;simp [Value.ownBlock] at hg
      rw [e] at hg;have:g2=g':=by simpa [Value.ownBlock] using hg
      subst this;exact ⟨hb,(gE hg2).1,cur,hg2⟩)
     have HKB:=Hd (show ∀k,k<wr.heap.size→k≠sb→wb.heap[k]?=wr.heap[k]? from fun k hk hne=>(HPB.out.1 k hne).trans (HBA.out.block k hk));have HWB:=Hd (show wr.heap.size≤wb.heap.size from by have:=HPB.out.2;have:=HBA.out.size;omega);obtain ⟨ti,hti,hz0,hz1,hz2⟩:=info_parts Tryz.infoSS;clear hA hown;go_wp2_with (first
      | (go_at_call 67;(with_reducible refine CN.out.mono ?_);rintro e w5 ⟨v5,rfl,hr5,hb5⟩;obtain ⟨ao5,cap5,rfl,_⟩:=id hr5;have HR5:=Hd hr5;have HB5:=Hd hb5;have HB6:=Hd ((Below.refl _ w5).alloc (Nat.le_refl _) (.cells #[.slice ao5 m.list.length cap5] 30));have OW5:=Hd (show (w5.alloc (.cells #[.slice ao5 m.list.length cap5] 30)).ownsRow w.heap.size 30 1 (.slice oao outl.length ocap) outl.length sls from ownsRow_blk HOW.out (fun g' hg hlt=>(HB6.out.block g' (by have:=HWB.out;have:=hb5.size;omega)).trans ((hb5.block g' (by have:=HWB.out;omega)).trans (HKB.out g' hlt (HOB.out g' hg)))));clear hr5 hb5)
      | (refine wpList_append_new rfl (.tmp 51) (.tmp 55) 31 (by rfl) w.heap.size 30 ti (.slice none 0 0) 1 24 Tryz.underlying31 hti hz0 hz1 hz2 (by rfl) (by decide) (.slice oao outl.length ocap) outl.length sls (by rfl) OW5.out ⟨w5.heap.size,0,none⟩ 1 1 [.slice ao5 m.list.length cap5] (by rfl) (by rfl) (cells_at w5 [.slice ao5 m.list.length cap5] _ _ rfl) (by intro u hu;simp at hu;subst hu;rfl) (by unfold maxLen;have:=HOL.out;omega) (by have:=HOL.out;omega) (by have:=HB6.out.size;have:=HB5.out.size;have:=HWB.out;have:=HBR.out.size;omega) (outl.length+1) rfl ?_;intro v6 w6 own6 gr6 loc6;have OWN6:=Hd own6;have GR6:=Hd gr6;have LOC6:=Hd loc6;clear own6 gr6 loc6))
     have HZ:=Hd (show ∀k,k<wr.heap.size→k≠sb→(w5.alloc (.cells #[.slice ao5 m.list.length cap5] 30)).heap[k]?=wr.heap[k]? from fun k hk hne=>(HB6.out.block k (by have:=HWB.out;have:=HB5.out.size;omega)).trans ((HB5.out.block k (by have:=HWB.out;omega)).trans (HKB.out k hk hne)));obtain ⟨es,clk,hsm,_⟩:=id HSD.out;have HRL:=Hd (rowL_push HAL.out HOW.out HR5.out HBR.out.size HWB.out HB5.out.size HB6.out.size ⟨es,clk,hsm⟩ HZ.out (fun k hk=>HB6.out.block k hk) OWN6.out GR6.out);have HS6:=Hd (show RawMap w6 sb ((insA m.dig sd).map encAcc) from ((HSB2.out.kept (HB5.out.block sb (by have:=HWB.out;have:=HSL.out;omega))).kept (HB6.out.block sb (by have:=HWB.out;have:=HB5.out.size;have:=HSL.out;omega))).kept (GR6.out.block sb (by have:=HB6.out.size;have:=HWB.out;have:=HB5.out.size;have:=HSL.out;omega) (fun e=>HOB.out sb e.symm rfl)));have HC6:=Hd (show Chg (fun k=>w.heap.size≤k) w3 w6 from
      HCH.out.trans (((Chg.of_below (C:=fun k=>w.heap.size≤k) HBA.out (fun k h1 h2=>absurd h1 (by omega))).trans ((HCB.out.mono (fun k _ h=>.inl (by rw [h];exact HSB.out))).trans (((Chg.of_below (C:=fun k=>w.heap.size≤k) HB5.out (fun k h1 h2=>absurd h1 (by omega))).trans (((Chg.of_below (C:=fun k=>w.heap.size≤k) HB6.out (fun k h1 h2=>absurd h1 (by omega))).trans (Chg.grown GR6.out (fun k e=>.inl (HVB.out k e).1))).mono (fun k _ h=>.inl h))).mono (fun k _ h=>.inl (.inl h))))).mono (fun k _ h=>.inl h)))
     have HG6:=Hd (show ∀g',some (⟨g,0,none⟩:Addr)=some ⟨g',0,none⟩→w6.heap[g']?=w3.heap[g']? from fun g' e=>by
      cases e;have hgw:=HGW.out.trans HGI.out;have hlt:=(gE hgw).1;rw [GR6.out.block g (by have:=HB6.out.size;have:=HWB.out;have:=HB5.out.size;omega) (fun e=>by
       obtain ⟨_,_,cur2,h2⟩:=HVB.out g e.symm;rw [hgw] at h2;injection h2 with h2
       injection h2 with _ h2 _
       exact absurd h2 (by decide))]
      rw [HZ.out g hlt (fun e=>by rw [←e,hgw] at hsm;cases hsm)];exact HGW.out)
     have HO6:=Hd (show ∀g',v6.ownBlock=some g'→g'≠sb from fun g' hg=>by
      rcases LOC6.out g' hg with q | q
      ·exact HOB.out g' q
      have:=HB6.out.size;have:=HWB.out;have:=HB5.out.size;have:=HSL.out;omega)
     clear hsm;go_roundw
     case rel=>exact ⟨j+1,insA m.dig sd,outl ++ [m.list],by omega,by go_num,HS6.out,HRL.out,by rw [List.length_append];have:=HOL.out;simp;omega,HC6.out,HG6.out,HO6.out,HE.out⟩
     case measure=>simp [intOf];omega
    have HE:=Hd (show askedL s.props ks s.acc=outl ++ askedL s.props (ks.drop (j+1)) sd from by
     rw [HEQ.out,HDR.out];conv=>lhs;arg 2;unfold askedL
     rw [HGM.out];simp only;rw [if_pos (memD_true.1 HTS.out)])
    go_wp2_with fail
    go_roundw
    case rel=>exact ⟨j+1,sd,outl,by omega,by go_num,HSA.out,HRO.out.later HBA.out,by have:=HOL.out;omega,HCH.out.trans ((Chg.of_below (C:=fun k=>w.heap.size≤k) HBA.out (fun k h1 h2=>absurd h1 (by omega))).mono (fun k _ h=>.inl h)),fun g' hg'=>(HBA.out.block g' (by
     have:=(HKK.out g' hg');cases hg';exact (gE (this.trans HGI.out)).1)).trans (HKK.out g' hg'),HOB.out,HE.out⟩
    case measure=>simp [intOf];omega
   have j1:¬(j:Int)<(nk:Int):=by omega
   have HE:=Hd (show outl=s.asked from by
    rw [HAS.out,HEQ.out,List.drop_of_length_le (by rw [←HNK.out];omega)];show outl=outl ++ [];rw [List.append_nil])
   go_wp2_with fail
   go_ret;exact ⟨⟨_,rfl,by rw [←HE.out];exact HRO.out⟩,HBR.out⟩
 have HAS:=Hd (show s.asked = [] from by unfold NS.asked;rw [←HDN.out];rfl);go_wp2_with fail
 go_ret;exact ⟨⟨_,rfl,by rw [HAS.out];exact RowL.nil _ _⟩,HB1.out⟩
end
section
open Go.RowKit
theorem Net.kept {G:ByteArray→List ByteArray→Prop} {base:Nat} {w w':World} {xs:List Nat} {ss:List StB} {Rs:Nat→Nat→Prop} (h:Net G base w xs ss Rs) (hk:∀k,AllR xs.length Rs k→w'.heap[k]?=w.heap[k]?) (hz:w.heap.size≤w'.heap.size):Net G base w' xs ss Rs:=
 ⟨h.len,fun i x s hx hs=>by
  obtain ⟨p,hp⟩:=h.node i x s hx hs;exact ⟨p,hp.later (fun k hr=>hk k ⟨i,(List.getElem?_eq_some_iff.1 hx).1,hr⟩) hz⟩,h.fit,h.dis,h.lo⟩
theorem cut_same {n:Nat} {W W':World} (h:Below n (cutW n W) W') (hn:n≤W.heap.size) (hs:W.heap.size≤W'.heap.size):Below n W W':=by
 have b:=cutW_below hn;exact ⟨h.os.trans b.os.symm,h.tape.trans b.tape.symm,h.output.trans b.output.symm,hs,fun k hk=>(h.block k hk).trans (b.block k hk).symm⟩
theorem OutR.sail {G:ByteArray→List ByteArray→Prop} {base:Nat} {wt W W':World} {xs:List Nat} {ss:List StB} {Rs Rs':Nat→Nat→Prop} {v:Value} {ms:List MsgB} (hO:OutR (AllR xs.length Rs) wt W v ms) (hs:Sail G base W xs Rs W' ss Rs'):OutR (AllR xs.length Rs') wt W' v ms:=
 (hO.other (fun k hk _ h2=>by
  rcases hs.grow k hk with q | q
  ·exact q
  omega)).kept hs.chg.size (fun k _ h2 hz=>hs.chg.block k h2 (fun q=>hz (hs.up k q)))
structure Fl (G:ByteArray→List ByteArray→Prop) (base:Nat) (w1:World) (gn:Nat) (cur:Array Value) (xs:List Nat) (ss:List StB) (Rs:Nat→Nat→Prop) (W:World):Prop where
 net:Net G base W xs ss Rs
 bel:Below base w1 W
 pos:0<base
 le:base≤w1.heap.size
 glob:Glob w1
 asd:Asd xs.length Rs W gn
 row:W.heap[gn]?=some (.cells cur 25 (0,0))
 ptr:∀(i x:Nat),xs[i]?=some x→cur[i]?=some (pv x)
section
variable {G:ByteArray→List ByteArray→Prop} {base:Nat} {w1 W W':World} {gn:Nat} {cur:Array Value} {xs:List Nat} {ss ss':List StB} {Rs Rs':Nat→Nat→Prop}
theorem Fl.size (h:Fl G base w1 gn cur xs ss Rs W):base≤W.heap.size:=Nat.le_trans h.le h.bel.size
theorem Fl.gl (h:Fl G base w1 gn cur xs ss Rs W):Glob W:=by
 obtain ⟨t,ht⟩:=h.glob;exact ⟨t,(h.bel.block 0 h.pos).trans ht⟩
theorem Fl.sail (h:Fl G base w1 gn cur xs ss Rs W) (s:Sail G base W xs Rs W' ss' Rs'):Fl G base w1 gn cur xs ss' Rs' W':=
 ⟨s.net,h.bel.trans (s.chg.below h.size (fun k hk=>h.net.low hk)),h.pos,h.le,h.glob,s.asd h.asd,(s.blk h.asd).trans h.row,h.ptr⟩
theorem Fl.kept (h:Fl G base w1 gn cur xs ss Rs W) (hb:Below base W W') (hk:∀k,AllR xs.length Rs k→W'.heap[k]?=W.heap[k]?) (hg:W'.heap[gn]?=W.heap[gn]?):Fl G base w1 gn cur xs ss Rs W':=
 ⟨h.net.kept hk hb.size,h.bel.trans hb,h.pos,h.le,h.glob,h.asd.later hb.size,hg.trans h.row,h.ptr⟩
theorem Fl.later (h:Fl G base w1 gn cur xs ss Rs W) (hb:Below W.heap.size W W'):Fl G base w1 gn cur xs ss Rs W':=
 h.kept (hb.mono h.size) (fun k hk=>hb.block k (h.net.lt hk)) (hb.block gn h.asd.1)
theorem Fl.cell (h:Fl G base w1 gn cur xs ss Rs W) {i x:Nat} (hx:xs[i]?=some x):W.cell? ⟨gn,i,none⟩=some (pv x):=by
 rw [cell_of_row W gn i _ _ _ h.row];exact h.ptr i x hx
theorem wpList_flpush {wt wx:World} {v v3:Value} {ms nw:List MsgB} {o:Oper} {a:Act} {Q:Exit→Act→World→Prop} {ops:Array Oper} {rest:List Oper} (hgd:o.guard=none) (s x:Operand)
  (ho:o.op = .call {callee:=.builtin .append,args:=#[s,x],argTypes:=#[33,33]})
  (hs:a.eval s=v) (hx:a.eval x=v3) (F:Fl G base w1 gn cur xs ss Rs W) (hO:OutR (AllR xs.length Rs) wt W v ms) (hO3:OutR (AllR xs.length Rs) wx W v3 nw) (h1:wt.heap.size≤wx.heap.size) (h2:base≤wt.heap.size) (h3:gn<wt.heap.size) (hwt:wt.heap.size≤W.heap.size)
  (hlen:ms.length+nw.length≤100000000) (h:∀v' W',OutR (AllR xs.length Rs) wt W' v' (ms ++ nw)→Fl G base w1 gn cur xs ss Rs W'→wt.heap.size≤W'.heap.size→wpList Tryz.prog ops Q rest (a.put o.dst v') W'):wpList Tryz.prog ops Q (o :: rest) a W:=by
 have hcs:=cutW_size hwt;refine wpList_push_row (w:=cutW wt.heap.size W) hgd s x ho hs (hO.rebase hcs) (by rw [hcs];exact cutW_below hwt) (fun k hk=>F.net.lt hk) hx hO3 (fun k hk=>⟨⟨by rw [hcs];exact Nat.le_trans h1 hk.1.1,hk.1.2⟩,hk.2⟩) hlen ?_;intro v' W' o1 k1 b1 z1;rw [hcs] at b1;have b2:=cut_same b1 hwt k1.size;exact h v' W' (o1.rebase hcs.symm) (F.kept (b2.mono h2) z1 (b2.block gn h3)) (Nat.le_trans hwt k1.size)
end
end
section
open Go.RowKit
theorem Tryz.infoPtrS:(Tryz.prog.info? 25).map (fun i=>(i.zero,i.size,i.bytes))=some (some (.pointer none),1,8):=by kernel_rfl
def begF (ls:Nat→List ByteArray) (i:Nat) (s:StB):StB:=(s.begin 0 true (digV (ls i)) (ls i)).1
def begR (ls:Nat→List ByteArray) (N i:Nat):List StB:=(List.range i).map fun (i:Nat)=>begF ls i (newS (i:Int) (N:Int))
theorem begR_all (ls:Nat→List ByteArray) (N:Nat):begR ls N N=startR N ls:=rfl
theorem begR_next (ls:Nat→List ByteArray) (N i:Nat):begR ls N (i+1)=begR ls N i ++ [begF ls i (newS (i:Int) (N:Int))]:=by
 unfold begR;rw [List.range_succ,List.map_append];rfl
theorem begR_len (ls:Nat→List ByteArray) (N i:Nat):(begR ls N i).length=i:=by simp [begR]
def DockF (ls:Nat→List ByteArray) (X:Nat→Prop) (base:Nat) (w1:World) (N i:Nat) (v:Value) (W:World):Prop:=
 ∃xs Rs,xs.length=i∧Net (GO (ls 0)) base W xs (begR ls N i) Rs∧W.ownsRow base 25 1 v i (xs.map pv)∧(∀g,v.ownBlock=some g→¬AllR i Rs g)∧Below base w1 W∧0<base∧base≤w1.heap.size∧Glob w1∧∀k,X k→k<W.heap.size∧¬AllR i Rs k∧v.ownBlock≠some k
def DockG (ls:Nat→List ByteArray) (X:Nat→Prop) (base:Nat) (w1:World) (N i:Nat) (v:Value) (x:Nat) (s:StB) (W:World):Prop:=
 ∃xs Rs,xs.length=i∧Net (GO (ls 0)) base W (xs ++ [x]) (begR ls N i ++ [s]) Rs∧W.ownsRow base 25 1 v i (xs.map pv)∧(∀g,v.ownBlock=some g→¬AllR (xs ++ [x]).length Rs g)∧Below base w1 W∧0<base∧base≤w1.heap.size∧Glob w1∧∀k,X k→k<W.heap.size∧¬AllR (xs ++ [x]).length Rs k∧v.ownBlock≠some k
section
variable {ls:Nat→List ByteArray} {X:Nat→Prop} {base:Nat} {w1 W W':World} {N i x:Nat} {v:Value} {s:StB}
theorem rowS_lt {e:TypeId} {b k n:Nat} {xs:List Value} (h:W.ownsRow b e k v n xs) (g:Nat) (hg:v.ownBlock=some g):b≤g∧g<W.heap.size:=by
 rcases h.2 with ⟨rfl,_⟩ | ⟨g0,cap,cur,rfl,h1,h2,_⟩
 ·simp [Value.ownBlock] at hg
 have:g0=g:=by simpa [Value.ownBlock] using hg
 subst this;exact ⟨h1,(gE h2).1⟩
theorem dockf_new (h:DockF ls X base w1 N i v W) (hi:i<N) (h7:N≤7):Calls Tryz.prog 15 #[.int .i64 (i:Int),.int .i64 (N:Int)] W fun e w'=>∃x,e = .returned (.tuple #[pv x,.int .i64 0])∧DockG ls X base w1 N i v x (newS (i:Int) (N:Int)) w'∧Below W.heap.size W w':=by
 obtain ⟨xs,Rs,hl,hn,ho,hz,hb,hp,hle,hG,hX⟩:=h;have hs:=Nat.le_trans hle hb.size;refine (nnew hn hs (id:=(i:Int)) (n:=(N:Int)) (by omega) (by omega) (by omega) (by omega)).mono ?_;rintro e w' ⟨x,Rs',rfl,h1,h2,h3⟩;refine ⟨x,rfl,⟨xs,Rs',hl,h1,ownsRow_blk ho (fun g _ hlt=>h2.block g hlt),fun g hg hr=>?_,hb.trans (h2.mono hs),hp,hle,hG,fun k hk=>⟨Nat.lt_of_lt_of_le (hX k hk).1 h2.size,fun hr=>(h3 k hr).elim (fun q=>(hX k hk).2.1 (by rw [hl] at q;exact q)) (fun q=>by have:=(hX k hk).1;omega),(hX k hk).2.2⟩⟩,h2⟩;rcases h3 g hr with q | q
 ·rw [hl] at q;exact hz g hg q
 have:=(rowS_lt ho g hg).2;omega
theorem DockG.later (h:DockG ls X base w1 N i v x s W) (hb:Below W.heap.size W W'):DockG ls X base w1 N i v x s W':=by
 obtain ⟨xs,Rs,hl,hn,ho,hz,hb1,hp,hle,hG,hX⟩:=h;have hs:=Nat.le_trans hle hb1.size;exact ⟨xs,Rs,hl,hn.later hb,ownsRow_blk ho (fun g _ hlt=>hb.block g hlt),hz,hb1.trans (hb.mono hs),hp,hle,hG,fun k hk=>⟨Nat.lt_of_lt_of_le (hX k hk).1 hb.size,(hX k hk).2⟩⟩
theorem DockF.later (h:DockF ls X base w1 N i v W) (hb:Below W.heap.size W W'):DockF ls X base w1 N i v W':=by
 obtain ⟨xs,Rs,hl,hn,ho,hz,hb1,hp,hle,hG,hX⟩:=h;have hs:=Nat.le_trans hle hb1.size;exact ⟨xs,Rs,hl,hn.later hb,ownsRow_blk ho (fun g _ hlt=>hb.block g hlt),hz,hb1.trans (hb.mono hs),hp,hle,hG,fun k hk=>⟨Nat.lt_of_lt_of_le (hX k hk).1 hb.size,(hX k hk).2⟩⟩
theorem dockf_begin {R0:Nat→Prop} {vl:Value} (h:DockG ls X base w1 N i v x (newS (i:Int) (N:Int)) W) (ha0:ascS (ls 0)=true) (hl0:(ls 0).length≤60) (hai:ascS (ls i)=true) (hli:(ls i).length≤60) (hr:LRow R0 W vl (ls i)) (h0:∀k,R0 k→k<W.heap.size):Calls Tryz.prog 16 #[pv x,iv 0,vl] W fun e w'=>e = .returned (.int .i64 0)∧DockG ls X base w1 N i v x (begF ls i (newS (i:Int) (N:Int))) w'∧∀k,X k→w'.heap[k]?=W.heap[k]?:=by
 obtain ⟨xs,Rs,hl,hn,ho,hz,hb1,hp,hle,hG,hX⟩:=h;have hs:=Nat.le_trans hle hb1.size;have hx:(xs ++ [x])[i]?=some x:=by rw [List.getElem?_append_right (by omega),hl,Nat.sub_self];rfl
 have hss:(begR ls N i ++ [(newS (i:Int) (N:Int):StB)])[i]?=some (newS (i:Int) (N:Int)):=by rw [List.getElem?_append_right (by rw [begR_len];exact Nat.le_refl _),begR_len,Nat.sub_self];rfl
 refine (nbegin (GO.gf ha0 hl0) hn hs hx hss hr h0 hli ⟨hG.choose,(hb1.block 0 hp).trans hG.choose_spec⟩ (fun _ hs=>by
  by_cases h0:i=0
  ·subst h0;exact ⟨rfl,rfl⟩
  exact absurd (GO.shy (by show ((i:Nat):Int)≠0;omega)) hs) 0).mono ?_
 rintro e w' ⟨rfl,Rs',h2⟩;refine ⟨?_,⟨xs,Rs',hl,?_,ownsRow_blk ho (fun g hg hlt=>h2.chg.block g hlt (hz g hg)),fun g hg hr=>?_,hb1.trans (h2.chg.below hs (fun k hk=>hn.low hk)),hp,hle,hG,fun k hk=>⟨Nat.lt_of_lt_of_le (hX k hk).1 h2.chg.size,fun hr=>(h2.grow k hr).elim (fun q=>(hX k hk).2.1 q) (fun q=>by have:=(hX k hk).1;omega),(hX k hk).2.2⟩⟩,fun k hk=>h2.chg.block k (hX k hk).1 (hX k hk).2.1⟩
 ·have:((newS (i:Int) (N:Int):StB).begin 0 (ascS (ls i)) (digV (ls i)) (ls i)).2=true:=by
   rw [hai];unfold NS.begin;simp [newS,NS.isDec,getA]
  rw [this];rfl
 ·have e:(begR ls N i ++ [(newS (i:Int) (N:Int):StB)]).set i (begF ls i (newS (i:Int) (N:Int)))=begR ls N i ++ [begF ls i (newS (i:Int) (N:Int))]:=by
   rw [List.set_append_right _ _ (by rw [begR_len];exact Nat.le_refl _),begR_len,Nat.sub_self];rfl
  rw [←e];have h3:=h2.net;rw [hai] at h3;exact h3
 rcases h2.grow g hr with q | q
 ·exact hz g hg q
 have:=(rowS_lt ho g hg).2;omega
theorem wpList_dockf {o:Oper} {a:Act} {Q:Exit→Act→World→Prop} {ops:Array Oper} {rest:List Oper} (hgd:o.guard=none) (s2 x2:Operand)
  (ho:o.op = .call {callee:=.builtin .append,args:=#[s2,x2],argTypes:=#[24,24]})
  (hs:a.eval s2=v) (h:DockG ls X base w1 N i v x (begF ls i (newS (i:Int) (N:Int))) W) (hi:i<7)
  (hx:a.eval x2 = .slice (some ⟨W.heap.size,0,none⟩) 1 1)
  (hk:∀v' W',DockF ls X base w1 N (i+1) v' W'→(∀k,X k→W'.heap[k]?=W.heap[k]?)→wpList Tryz.prog ops Q rest (a.put o.dst v') W'):wpList Tryz.prog ops Q (o :: rest) a (W.alloc (.cells #[pv x] 25)):=by
 obtain ⟨xs,Rs,hl,hn,hown,hz,hb1,hp,hle,hG,hX⟩:=h;have hbs:=Nat.le_trans hle hb1.size;obtain ⟨ti,hti,hz0,hz1,hz2⟩:=info_parts Tryz.infoPtrS;have hba:=(Below.refl _ W).alloc (Nat.le_refl _) (.cells #[pv x] 25);refine wpList_append_new hgd s2 x2 24 ho base 25 ti (.pointer none) 1 8 Tryz.underlying24 hti hz0 hz1 hz2 (by rfl) (by decide) v i (xs.map pv) hs (ownsRow_blk hown (fun g _ hlt=>hba.block g hlt)) ⟨W.heap.size,0,none⟩ 1 1 [pv x] hx (by rfl) (cells_at W [pv x] _ _ rfl) (by intro u hu;simp at hu;subst hu;rfl) (by unfold maxLen;omega) (by omega) (by simp;omega) (i+1) rfl ?_;intro v' W' o2 gr hloc;have hkeep:∀k,AllR (xs ++ [x]).length Rs k→W'.heap[k]?=W.heap[k]?:=fun k hk=>by
  have hlt:=hn.lt hk;rw [gr.block k (by simp;omega) (fun e=>hz k e.symm hk)];exact hba.block k hlt
 have hsz:W.heap.size≤W'.heap.size:=Nat.le_trans hba.size gr.size;have hbel:Below base W W':=grown_own (hba.mono hbs) hbs (ownsRow_blk hown (fun g _ hlt=>hba.block g hlt)) gr;refine hk v' W' (⟨xs ++ [x],Rs,by rw [List.length_append,hl];rfl,?_,?_,fun g hg hr=>?_,hb1.trans hbel,hp,hle,hG,fun k hk=>⟨Nat.lt_of_lt_of_le (hX k hk).1 hsz,fun hr=>(hX k hk).2.1 (by rw [List.length_append,hl];exact hr),fun e=>(hloc k e).elim (hX k hk).2.2 (fun q=>by have:=(hX k hk).1;have:=hba.size;omega)⟩⟩:DockF ls X base w1 N (i+1) v' W') (fun k hk=>(gr.block k (Nat.lt_of_lt_of_le (hX k hk).1 hba.size) (fun e=>(hX k hk).2.2 e.symm)).trans (hba.block k (hX k hk).1))
 ·rw [begR_next ls];exact hn.kept hkeep hsz
 ·rw [List.map_append];exact o2
 have hr:AllR (xs ++ [x]).length Rs g:=by rw [List.length_append,hl];exact hr
 rcases hloc g hg with q | q
 ·exact hz g q hr
 have:=hn.lt hr;have:W.heap.size≤(W.alloc (.cells #[pv x] 25)).heap.size:=hba.size;omega
theorem DockF.fleet (h:DockF ls X base w1 N N v W) (h1:1≤N):∃gn cap cur xs Rs,v = .slice (some ⟨gn,0,none⟩) N cap∧xs.length=N∧Fl (GO (ls 0)) base w1 gn cur xs (startR N ls) Rs W∧∀k,X k→¬AllR N Rs k:=by
 obtain ⟨xs,Rs,hl,hn,hown,hz,hb1,hp,hle,hG,hX⟩:=h;rcases hown.2 with ⟨_,h0⟩ | ⟨g,cap,cur,rfl,hbg,hg,h3,h4,h5⟩
 ·omega
 refine ⟨g,cap,cur,xs,Rs,rfl,hl,⟨hn,hb1,hp,hle,hG,⟨(gE hg).1,fun hr=>hz g rfl (hl ▸ hr)⟩,hg,fun i x hx=>?_⟩,fun k hk=>(hX k hk).2.1⟩;have hi:=(List.getElem?_eq_some_iff.1 hx).1;have:=hown.cells (g:=g) rfl i (pv x) (by rw [List.getElem?_map,hx];rfl);simp [Addr.add] at this;have e2:=cell_of_row W g i _ _ _ hg;split at this
 ·rename_i q
  subst q;rw [e2] at this;exact this
 rw [e2] at this;exact this
end
end
section
open Go.RowKit
theorem bl_nil (b:ByteArray) (h:1≤b.size):Op.bytesLess (ByteArray.mk #[]).toList b.toList=true:=by
 have e:b.toList=b.data.toList:=by first | exact ByteArray.toList_eq b | simp
 have e0:(ByteArray.mk #[]).toList = []:=by first | rfl | simp
 rw [e,e0];have hl:1≤b.data.toList.length:=by simpa using h
 rcases hb:b.data.toList with _ | ⟨x,xs⟩
 ·rw [hb] at hl;simp at hl
 rfl
theorem bl_lo (b:ByteArray) (h:2≤b.size):Op.bytesLess (ByteArray.mk #[0]).toList b.toList=true:=by
 have e:b.toList=b.data.toList:=by first | exact ByteArray.toList_eq b | simp
 have e0:(ByteArray.mk #[0]).toList = [0]:=by first | rfl | simp
 rw [e,e0];have hl:2≤b.data.toList.length:=by simpa using h
 rcases hb:b.data.toList with _ | ⟨x,_ | ⟨y,xs⟩⟩
 ·rw [hb] at hl;simp at hl
 ·rw [hb] at hl;simp at hl
 unfold Op.bytesLess;by_cases hx:x=0
 ·subst hx;simp [Op.bytesLess]
 have:(0:UInt8)<x:=by
  have h1:x.toNat≠0:=fun q=>hx (by apply UInt8.toNat_inj.1;simpa using q);rw [UInt8.lt_iff_toNat_lt];simpa using Nat.pos_of_ne_zero h1
 simp [this]
theorem bl_hi:∀(l:List UInt8),Op.bytesLess l (l ++ [0])=true
 | []=>rfl
 | x :: l=>by
  show Op.bytesLess (x :: l) (x :: (l ++ [0]))=true;unfold Op.bytesLess;simp [bl_hi l]
theorem facts_run {N:Nat} (h1:1≤N) (h7:N≤7) {ls:Nat→List ByteArray} (ha:ascS (ls 0)=true) (hl:(ls 0).length≤60) :
  (∀i,i<N→∃s v,(sRnds digV noS 8 (startR N ls))[i]?=some s∧getA 0 s.decs=some v∧v.list=ls 0) ∧
  ∀t,t<8→∀(i:Nat) (s:StB),(sRnds digV noS t (startR N ls))[i]?=some s→(∀l∈s.asked,l=ls 0)∧((accAll digV s).tick.1.height=0∧(accAll digV s).tick.1.round=0):=by
 obtain ⟨a,b⟩:=run_facts (E:=ByteArray) (M:=List ByteArray) (n:=N) h1 h7 (lo:=ByteArray.mk #[0]) (hi:=ByteArray.mk ((digV (ls 0)).data.toList ++ [0]).toArray) (dg:=digV) (ls:=ls)
  (by show Op.bytesLess _ _=true;exact bl_nil _ (by decide))
  (by show Op.bytesLess _ _=true;exact bl_lo _ (by rw [digV_size];decide))
  (by
   show Op.bytesLess _ _=true;have e:∀b:ByteArray,b.toList=b.data.toList:=fun b=>by first | exact ByteArray.toList_eq b | simp
   rw [e,e];exact bl_hi _)
  (fun i hi=>by show Op.bytesLess _ _=true;exact bl_nil _ (by rw [digV_size];decide))
 exact ⟨fun i hi=>by obtain ⟨s,v,p,q,_,r⟩:=a i hi;exact ⟨s,v,p,q,r⟩,b⟩
theorem facts_crew {N:Nat} (h1:1≤N) (h7:N≤7) {ls:Nat→List ByteArray} (ha:ascS (ls 0)=true) (hl:(ls 0).length≤60) :
  ∀t:Nat,t≤8→CrewF (GO (ls 0)) N t (sRnds digV noS t (startR N ls))∧(t<8→∀s∈sRnds digV noS t (startR N ls),MeekT (GO (ls 0)) (accAll digV s)):=by
 have hm:∀t:Nat,t<8→CrewF (GO (ls 0)) N t (sRnds digV noS t (startR N ls))→∀s∈sRnds digV noS t (startR N ls),MeekT (GO (ls 0)) (accAll digV s):=fun t ht hc s hs=>by
  obtain ⟨i,hi⟩:=List.getElem?_of_mem hs;obtain ⟨_,h2,h3⟩:=(facts_run h1 h7 ha hl).2 t ht i s hi;exact meekT_of (hc.fit s hs).accAll.ok.inv h2 h3
 intro t;induction t with
 | zero=>exact fun _=>⟨startR_crew h7,fun h=>hm 0 h (startR_crew h7)⟩
 | succ t ih=>
  intro ht;obtain ⟨hc,hk⟩:=ih (by omega);have hc2:CrewF (GO (ls 0)) N (t+1:Nat) (sRnds digV noS (t+1) (startR N ls)):=hc.rnd (GO.gf ha hl) (hk (by omega)) noS;exact ⟨hc2,fun h=>hm (t+1) h hc2⟩
end
section
open Go.RowKit
theorem props_len {G:ByteArray→List ByteArray→Prop} {s:StB} (hf:Fit G s):s.props.length≤100:=by
 have hb:=hf.ok.inv.box;have hn:((s.props.map (·.1)).map Int.toNat).Nodup:=by
  refine List.pairwise_map.2 (List.Pairwise.imp_of_mem (fun {a b} ha hb' hab e=>hab ?_) hb.pk);obtain ⟨p,hp,rfl⟩:=List.mem_map.1 ha;obtain ⟨q,hq,rfl⟩:=List.mem_map.1 hb';have h1:=(hb.pr p hp).1;have h2:=(hb.pr q hq).1;omega
 have:=nodup_len 100 _ hn (fun x hx=>by
  obtain ⟨a,ha,rfl⟩:=List.mem_map.1 hx;obtain ⟨p,hp,rfl⟩:=List.mem_map.1 ha;have h1:=hb.pr p hp;omega)
 rw [List.length_map,List.length_map] at this;exact this
theorem askedL_len {props:List (Int×MsgB)}:∀(ks:List Int) (seen:List ByteArray),(askedL props ks seen).length≤ks.length
 | [],_=>Nat.le_refl _
 | r :: ks,seen=>by
  unfold askedL;rw [List.length_cons];rcases getA r props with _ | m
  ·have:=askedL_len (props:=props) ks seen;simp only;omega
  simp only;split
  ·have:=askedL_len (props:=props) ks seen;omega
  have:=askedL_len (props:=props) ks (m.dig :: seen);rw [List.length_cons];omega
theorem asked_len {G:ByteArray→List ByteArray→Prop} {s:StB} (hf:Fit G s):s.asked.length≤100:=by
 unfold NS.asked;split
 ·exact Nat.zero_le _
 refine Nat.le_trans (askedL_len _ _) ?_;rw [sortI_len,List.length_map];exact props_len hf
theorem nasked {G:ByteArray→List ByteArray→Prop} {base:Nat} {w:World} {xs:List Nat} {ss:List StB} {Rs:Nat→Nat→Prop} {i x:Nat} {s:StB} (gf:GFam G) (hN:Net G base w xs ss Rs) (hx:xs[i]?=some x) (hs:ss[i]?=some s) :
  Calls Tryz.prog 38 #[pv x] w fun e w'=>(∃v,e = .returned v∧RowL w w' v s.asked)∧Below w.heap.size w w':=by
 obtain ⟨p,hp⟩:=hN.node i x s hx hs;have hf:=hN.idx hx hs;refine asked_any hp ?_ (fun k m hm=>?_)
 ·have:=props_len hf;omega
 have:=gf.law.len _ _ (hf.ok.gi.pg _ (getA_mem hm));show m.list.length≤1000;have h2:m.list.length≤60:=this;omega
def midS (sil:Nat→Bool) (i:Nat) (ns:List StB):List StB:=sMid digV sil 0 (ns.take i) ++ ns.drop i
theorem midS_zero (sil:Nat→Bool) (ns:List StB):midS sil 0 ns=ns:=by simp [midS,sMid]
theorem midS_all {sil:Nat→Bool} {i:Nat} {ns:List StB} (h:ns.length≤i):midS sil i ns=sMid digV sil 0 ns:=by
 unfold midS;rw [List.take_of_length_le h,List.drop_of_length_le h,List.append_nil]
theorem midS_len (sil:Nat→Bool) (i:Nat) (ns:List StB):(midS sil i ns).length=ns.length:=by
 unfold midS;rw [List.length_append,sMid_len,List.length_take,List.length_drop];omega
theorem midS_at {sil:Nat→Bool} {i:Nat} {ns:List StB} (h:i<ns.length):(midS sil i ns)[i]?=some ns[i]:=by
 unfold midS;rw [List.getElem?_append_right (by rw [sMid_len,List.length_take];omega),sMid_len,List.length_take,Nat.min_eq_left (Nat.le_of_lt h),Nat.sub_self,List.getElem?_drop];simp [h]
theorem midS_next {sil:Nat→Bool} {i:Nat} {ns:List StB} (h:i<ns.length):(midS sil i ns).set i (if sil i then accAll digV ns[i] else (accAll digV ns[i]).tick.1)=midS sil (i+1) ns:=by
 unfold midS;have e:(sMid digV sil 0 (ns.take i)).length=i:=by rw [sMid_len,List.length_take,Nat.min_eq_left (Nat.le_of_lt h)]
 rw [List.take_succ_eq_append_getElem h,sMid_app,List.drop_eq_getElem_cons h,List.set_append_right _ _ (by rw [e];exact Nat.le_refl _),e,Nat.sub_self,List.append_assoc,List.length_take,Nat.min_eq_left (Nat.le_of_lt h),Nat.zero_add];rfl
theorem sOut_next {sil:Nat→Bool} {i:Nat} {ns:List StB} (h:i<ns.length):sOut digV sil 0 (ns.take (i+1))=sOut digV sil 0 (ns.take i) ++ (if sil i then [] else (accAll digV ns[i]).tick.2):=by
 rw [List.take_succ_eq_append_getElem h,sOut_app,List.length_take,Nat.min_eq_left (Nat.le_of_lt h),Nat.zero_add];simp [sOut]
def accN (j:Nat) (s:StB):StB:=(s.asked.take j).foldl (fun t l=>t.accept (digV l)) s
theorem accN_zero (s:StB):accN 0 s=s:=rfl
theorem accN_all {j:Nat} {s:StB} (h:s.asked.length≤j):accN j s=accAll digV s:=by
 unfold accN accAll;rw [List.take_of_length_le h]
theorem accN_next {j:Nat} {s:StB} {l:List ByteArray} (h:s.asked[j]?=some l):accN (j+1) s=(accN j s).accept (digV l):=by
 unfold accN;obtain ⟨h1,h2⟩:=List.getElem?_eq_some_iff.1 h;rw [List.take_succ_eq_append_getElem h1,h2,List.foldl_append];rfl
theorem tick_lenS {G:ByteArray→List ByteArray→Prop} {s:StB} (hf:Fit G s):s.tick.2.length≤4000:=by
 have ha:s.answers.length≤728:=by
  rw [answers_at];have h1:=flat_len hf.qi.q (sortI (s.ques.map (·.1)));have h2:=hf.qi.q.len;rw [sortI_len,List.length_map] at h1;omega
 by_cases hd:s.isDec s.height=true
 ·rw [tick_done hd];show s.answers.length≤_;omega
 rw [tick_open (by simpa using hd)];show (s.answers ++ _).length≤_;rw [List.length_append];have h1:=sends_len s.tk2 (s.tk2.mine.drop s.tkFrom);have h2:=(tk2_inv hf.ok.inv).num.n7;have h3:=(tk2_inv hf.ok.inv).mine_len;have h4:(s.tk2.mine.drop s.tkFrom).length≤400:=by rw [List.length_drop];omega
 have h5:s.tk2.n.toNat * (s.tk2.mine.drop s.tkFrom).length≤7 * 400:=Nat.mul_le_mul (by omega) h4;omega
theorem sOut_le {G:ByteArray→List ByteArray→Prop} (sil:Nat→Bool):∀(ns:List StB) (k:Nat),(∀s∈ns,Fit G s)→(sOut digV sil k ns).length≤4000 * ns.length
 | [],_,_=>by simp [sOut]
 | s :: ns,k,h=>by
  have ih:=sOut_le sil ns (k+1) (fun x hx=>h x (by simp [hx]));unfold sOut;rw [List.length_append,List.length_cons];have h1:(if sil k then [] else (accAll digV s).tick.2).length≤4000:=by
   split
   ·simp
   exact tick_lenS (h s (by simp)).accAll
  omega
theorem digest_asc {R:Nat→Prop} {W:World} {u:Value} {l:List ByteArray} (ha:ascS l=true) (hl:l.length≤60) (hr:LRow R W u l):Calls Tryz.prog 26 #[u] W fun e w'=>e = .returned (.string (digV l))∧Below W.heap.size W w':=by
 obtain ⟨a3,c3,rfl,_,hrow3⟩:=hr.row;rw [digV_asc ha];exact rdigest_any a3 _ c3 l W rfl hl hrow3 ha
theorem set_same {α:Type} {l:List α} {i:Nat} {a:α} (h:l[i]?=some a):l.set i a=l:=by
 apply List.ext_getElem?;intro j;rw [List.getElem?_set];by_cases e:i=j
 ·subst e;rw [if_pos rfl,if_pos (List.getElem?_eq_some_iff.1 h).1,h]
 rw [if_neg e]
end
end Go.Proofs.YtifcdjmcoibblaaGreatDoor
