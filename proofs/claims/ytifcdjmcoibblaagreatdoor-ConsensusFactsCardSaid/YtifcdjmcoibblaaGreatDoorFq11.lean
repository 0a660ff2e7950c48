/- Knw Mrw Cln Op2 Apn RngO RawI Kys -/
import Derived.Test.YtifcdjmcoibblaaGreatDoorFq09
import Derived.Test.YtifcdjmcoibblaaGreatDoorFq10
import Derived.Laws.ResultCell
import Derived.Laws.Rows
import Derived.Test.YtifcdjmcoibblaaGreatDoorFq01
import Derived.Test.YtifcdjmcoibblaaGreatDoorFq06
import Derived.Test.YtifcdjmcoibblaaGreatDoorFq04
import Derived.Deep.RegionLaw
import Derived.Test.YtifcdjmcoibblaaGreatDoorFq02
import Derived.Test.YtifcdjmcoibblaaGreatDoorFq03
import Derived.Maps.OwnIn
import Derived.OwnWalkIn
set_option linter.unusedVariables false
set_option linter.unusedSimpArgs false
set_option linter.unusedSectionVars false
set_option maxRecDepth 100000
set_option maxHeartbeats 80000000
namespace Go.Proofs.YtifcdjmcoibblaaGreatDoor
section
open Go.RowKit
theorem listOf_coh {D L:Type} [Dg D] [Inhabited L] {x:List (Int×Msg D L)} (h:∀a∈x,∀b∈x,a.2.dig=b.2.dig→a.2.list=b.2.list) {p:Int×Msg D L} (hp:p∈x) {d:D} (hd:p.2.dig=d):listOf d x=some p.2.list:=by
 rcases hl:listOf d x with _ | l
 ·exact absurd hd (listOf_none.1 hl p hp)
 obtain ⟨q,h1,h2,h3⟩:=listOf_mem hl;rw [←h3,h q h1 p hp (h2.trans hd.symm)]
section
variable {D L:Type} [Dg D] [Inhabited L] {s:NS D L} {d:D}
theorem known_l0 (h1:listOf d s.props=none) (h2:listOf d s.claims=none) (h3:s.lock=none):s.known d=none:=by unfold NS.known;simp only [h1,h2,h3]
theorem known_l1 (h1:listOf d s.props=none) (h2:listOf d s.claims=none) {v:Val D L} (h3:s.lock=some v) (h4:v.dig=d):s.known d=some v.list:=by unfold NS.known;simp only [h1,h2,h3,h4,if_true]
theorem known_l2 (h1:listOf d s.props=none) (h2:listOf d s.claims=none) {v:Val D L} (h3:s.lock=some v) (h4:v.dig≠d):s.known d=none:=by unfold NS.known;simp only [h1,h2,h3,h4,if_false]
theorem known_p (h:∀a∈s.props,∀b∈s.props,a.2.dig=b.2.dig→a.2.list=b.2.list) {p:Int×Msg D L} (hp:p∈s.props) (hd:p.2.dig=d):s.known d=some p.2.list:=by unfold NS.known;rw [listOf_coh h hp hd]
theorem known_c (h1:listOf d s.props=none) (h:∀a∈s.claims,∀b∈s.claims,a.2.dig=b.2.dig→a.2.list=b.2.list) {p:Int×Msg D L} (hp:p∈s.claims) (hd:p.2.dig=d):s.known d=some p.2.list:=by unfold NS.known;simp only [h1,listOf_coh h hp hd]
end
theorem beq_ne {a b:ByteArray} (h:a≠b):(a.toList == b.toList)=false:=by
 rw [Bool.eq_false_iff];intro q;exact h ((Lib.bytes_beq_iff _ _).1 q)
def Oth (d:ByteArray) (e:Value×Value):Prop:=∃m:MsgB,∃sl,e.2 = .agg (encM m sl)∧m.dig≠d
theorem listOf_oth {R:Nat→Prop} {w:World} {d:ByteArray} {L:List (Value×Value)} {x:List (Int×MsgB)} (h:All2 (RMsg R w) L x) (ho:∀e∈L,Oth d e):listOf d x=none:=by
 rw [listOf_none];induction h with
 | nil=>intro p hp;cases hp
 | @cons e p L x h1 _ ih=>
  intro q hq;rcases List.mem_cons.1 hq with rfl | hq
  ·obtain ⟨m,sl,e1,e2⟩:=ho e (by simp);obtain ⟨_,sl2,e3,_⟩:=h1;rw [e1] at e3;simp [encM] at e3;rw [←e3.2.2.2.2.2.2.1];exact e2
  exact ih (fun e he=>ho e (by simp [he])) q hq
structure KnI (w:World) (mb it:Nat) (d:ByteArray) (L left:List (Value×Value)) (wr:World):Prop where
 rng:RawRange wr mb it L left
 oth:∀e∈L,e∈left∨Oth d e
 bel:Below w.heap.size w wr
 ge:w.heap.size≤it
theorem RawRange.later {w w':World} {b r:Nat} {L left:List (Value×Value)} (h:RawRange w b r L left) (hb:Below w.heap.size w w'):RawRange w' b r L left:=
 h.kept (hb.block _ h.map.lt) (hb.block _ (by obtain ⟨es,clk,since,seen,c0,_,_,_,_,q5,_⟩:=h;exact (gE q5).1))
theorem KnI.next {w wr w3 w':World} {mb it:Nat} {d:ByteArray} {L left pre post:List (Value×Value)} {k v:Value} (h:KnI w mb it d L left wr) (hl:left=pre ++ (k,v) :: post) (hr:RawRange w3 mb it L (pre ++ post)) (hg:wr.grownBy w3 (some it)) (hb:Below w3.heap.size w3 w') (ho:Oth d (k,v)):KnI w mb it d L (pre ++ post) w':=by
 have hb2:=h.bel.grown hg (by have:=h.bel.size;exact this) (fun k e=>by cases e;exact h.ge);refine ⟨hr.later hb,fun e he=>?_,hb2.trans (hb.mono hb2.size),h.ge⟩;rcases h.oth e he with q | q
 ·rw [hl] at q;rcases List.mem_append.1 q with q | q
  ·exact .inl (by simp [q])
  rcases List.mem_cons.1 q with q | q
  ·rw [q];exact .inr ho
  exact .inl (by simp [q])
 exact .inr q
def KnownE (R:Nat→Prop) (s:StB) (d:ByteArray) (e:Ending) (w':World):Prop:=
 match s.known d with
 | some l=>∃v,e = .returned (.tuple #[v,.bool true])∧LRow R w' v l
 | none=>e = .returned (.tuple #[.slice none 0 0,.bool false])
section
variable {R:Nat→Prop} {w:World} {x:Nat} {p:Ptr} {s:StB}
theorem LRow.below {w':World} {v:Value} {l:List ByteArray} (h:LRow R w v l) (hl:∀k,R k→k<w.heap.size) (hb:Below w.heap.size w w'):LRow R w' v l:=h.kept (fun g _ _ hr _=>hb.block g (hl g hr))
theorem known_any (h:NodeP R w x p s) (hc:CohS s) (d:ByteArray):Calls Tryz.prog 220 #[pv x,.string d] w fun e w'=>KnownE R s d e w'∧Below w.heap.size w w':=by
 have c5:=h.nc.c5;have c9:=h.nc.c9;have c10:=h.nc.c10;have hfz:=h.nc.fz;have H:=Hd h;clear h;unfold pv;go_enter Tryz.func220,Tryz.ntmps220
 go_upto_region 1 with (fail)
 go_region
 obtain ⟨bk,hbk⟩:∃bk,bk=w.heap.size:=⟨_,rfl⟩;have HBK:=Hd hbk;obtain ⟨w2,hw2⟩:∃w2,w2=(w.alloc (Obj.cells #[Value.map (some p.props),Value.map (some p.claims)] 110)).drew:=⟨_,rfl⟩;have HB:=Hd (show Below w.heap.size w w2 from by rw [hw2];exact ((Below.refl _ w).alloc (Nat.le_refl _) _).drew);have HROW:=Hd (show w2.heap[bk]?=some (Obj.cells #[Value.map (some p.props),Value.map (some p.claims)] 110 (0,0)) from by rw [hw2,hbk];exact World.alloc_heap_new w _);have HLT:=Hd (show bk<w2.heap.size from (gE HROW.out).1);have H2:=Hd (H.out.below HB.out);rw [←hbk,←hw2];have HC:=Hd hc;clear c5 c9 c10 hfz hw2 hbk hc;go_wp2_with fail
 go_loopw [22] (fun i wr=>∃k:Nat,k≤2∧i = .int .i64 (k:Int)∧Below w2.heap.size w2 wr∧(1≤k→listOf d s.props=none)∧(2≤k→listOf d s.claims=none)) (fun i _=>2 - (intOf i).toNat)
 case atStart=>exact ⟨0,by omega,rfl,Below.refl _ _,by omega,by omega⟩
 case round=>
  obtain ⟨k,hk,rfl,hb,hp1,hp2⟩:=hrel;have HBR:=Hd hb;have HN:=Hd (H2.out.below hb);have HRW:=Hd ((hb.block bk HLT.out).trans HROW.out);have HP1:=Hd hp1;have HP2:=Hd hp2;have hfz:=frozen_of_row wr bk k _ _ HRW.out;clear hb hp1 hp2;by_cases hlt:k<2
  ·have IN:∃mb ml L,wr.cell? ⟨bk,k,none⟩=some (.map (some mb))∧RawMap wr mb L∧All2 (RMsg R wr) L ml∧(∀q∈ml,q.2.dig=d→s.known d=some q.2.list)∧(listOf d ml=none→(1≤k+1→listOf d s.props=none)∧(2≤k+1→listOf d s.claims=none)):=by
    rcases Nat.lt_or_ge k 1 with q | q
    ·have:k=0:=by omega
     subst this;obtain ⟨L,l1,l2⟩:=HN.out.maps.props;refine ⟨p.props,s.props,L,by rw [cell_of_row wr bk 0 _ _ _ HRW.out];rfl,l1,l2,fun q hq hd=>?_,fun hn=>⟨fun _=>hn,by omega⟩⟩;exact known_p HC.out.p hq hd
    have:k=1:=by omega
    subst this;obtain ⟨L,l1,l2⟩:=HN.out.maps.claims;refine ⟨p.claims,s.claims,L,by rw [cell_of_row wr bk 1 _ _ _ HRW.out];rfl,l1,l2,fun q hq hd=>?_,fun hn=>⟨fun _=>HP1.out (by omega),fun _=>hn⟩⟩;exact known_c (HP1.out (by omega)) HC.out.c hq hd
   obtain ⟨mb,ml,L,ic,im,ia,ih,inn⟩:=IN;have HM:=Hd im;have HA:=Hd ia;have HH:=Hd ih;have HNN:=Hd inn;have k0:(0:Int)≤(k:Int):=by omega
   have k2:(k:Int)<2:=by omega
   clear im ia ih inn;obtain ⟨wk,rfl⟩:∃wk:World,wk=wr:=⟨_,rfl⟩;go_wp2_with (at_range;refine wpList_range_raw _ rfl (.tmp 26) 110 (by rfl) 3 36 Tryz.underlying110 mb L (by rfl) HM.out ?_;intro ob hob;have S0:=Hd (show KnI wk mb wk.heap.size d L L (wk.alloc ob) from ⟨hob,fun e he=>.inl he,(Below.refl _ _).alloc (Nat.le_refl _) _,Nat.le_refl _⟩);clear hob)
   obtain ⟨it,hit⟩:∃it,wk.heap.size=it:=⟨_,rfl⟩;rw [hit] at S0 ⊢;clear hit ic hfz;go_frame
   go_loopw [] (fun wi=>∃left,KnI wk mb it d L left wi) (fun wi=>wi.rangeLeft mb it)
   case atStart=>exact ⟨_,S0.out⟩
   case round=>
    obtain ⟨left,hr⟩:=hrel;have RR:=Hd hr;have RNG:=Hd hr.rng;have LEN:=Hd hr.rng.left_len;clear hr;go_wp2_with (at_next;refine wpList_next_raw _ rfl (.tmp 27) (by rfl) mb it L left (by rfl) RNG.out ?_ ?_)
    ·intro hl;subst hl;have HO:=Hd (HNN.out (listOf_oth HA.out (fun e he=>by rcases RR.out.oth e he with q | q;cases q;exact q)));go_wp2
     go_roundw
     case rel=>exact ⟨k+1,by omega,by go_num,HBR.out.trans (RR.out.bel.mono HBR.out.size),HO.out.1,HO.out.2⟩
     case measure=>simp [intOf];omega
    intro ke v pre post w3 hl hm hr2 hg2 hs2 hen2;obtain ⟨⟨i,m⟩,hmem,hi,sl,hv,hrow⟩:=HA.out.mem_left hm;obtain ⟨ao,cap,hsl,hcap,hrw⟩:=hrow;simp only at hi hv hsl;subst hsl;subst hv;have W3:=Hd (show Below wk.heap.size wk w3 from (RR.out.bel.grown hg2 (by have:=RR.out.bel.size;exact this) (fun k e=>by cases e;exact RR.out.ge)));have HL:=Hd (show LRow R wk (.slice ao m.list.length cap) m.list from ⟨ao,cap,rfl,hcap,hrw⟩);have HR3:=Hd hr2;have HG3:=Hd hg2;have HS3:=Hd hs2;have HLL:=Hd hl;have HMM:=Hd (HH.out _ hmem);obtain ⟨kd,fr,tt,hh,rr,vv,dg,ls⟩:=m;unfold encM iv at hen2 HLL;simp only at hen2 HMM HL HLL;clear hl hm hmem hr2 hg2 hs2 hcap hrw;by_cases hd:dg=d
    ·subst hd;have HE:=Hd (HMM.out rfl);go_wp2
     go_ret2
     have WA:=W3.out.alloc W3.out.size (Obj.cells #[.int .i64 kd,.int .i64 fr,.int .i64 tt,.int .i64 hh,.int .i64 rr,.int .i64 vv,.string dg,.slice ao ls.length cap] 36);exact ⟨by unfold KnownE;rw [HE.out];exact ⟨_,rfl,HL.out.below HN.out.lt WA⟩,HB.out.trans ((HBR.out.trans (WA.mono HBR.out.size)).mono HB.out.size)⟩
    have hne:=beq_ne hd;have NX:=Hd (RR.out.next HLL.out HR3.out HG3.out (w':=w3.alloc (Obj.cells #[.int .i64 kd,.int .i64 fr,.int .i64 tt,.int .i64 hh,.int .i64 rr,.int .i64 vv,.string dg,.slice ao ls.length cap] 36)) ((Below.refl _ _).alloc (Nat.le_refl _) _) ⟨⟨kd,fr,tt,hh,rr,vv,dg,ls⟩,.slice ao ls.length cap,rfl,hd⟩);clear hd;go_wp2
    go_roundw
    case rel=>exact ⟨_,NX.out⟩
    case measure=>rw [NX.out.rng.left_len,LEN.out,HLL.out];simp
  have hk2:k=2:=by omega
  subst hk2;have hl1:=HP1.out (by omega);have hl2:=HP2.out (by omega);have HK1:=Hd hl1;have HK2:=Hd hl2;have HBW:=Hd (HB.out.trans (HBR.out.mono HB.out.size));have c5:=HN.out.nc.c5;have xfz:=HN.out.nc.fz;have hlk:=HN.out.rest.lock;clear hl1 hl2 hfz;rcases hpl:p.lock with _ | g
  ·rcases hsl:s.lock with _ | v
   ·have HE:=Hd (show s.known d=none from known_l0 HK1.out HK2.out hsl);rw [hpl] at c5;unfold po at c5;clear hlk hpl hsl;go_wp2
    go_ret2
    exact ⟨by unfold KnownE;rw [HE.out];rfl,HBW.out⟩
   rw [hpl,hsl] at hlk;exact hlk.elim
  rcases hsl:s.lock with _ | v
  ·rw [hpl,hsl] at hlk;exact hlk.elim
  rw [hpl,hsl] at hlk;obtain ⟨hg,sl,hcell,hrow⟩:=hlk;obtain ⟨ao,cap,rfl,hcap,hrw⟩:=hrow;rw [hpl] at c5;have v1:=cell_of_row wr g 1 _ _ _ hcell;have v2:=cell_of_row wr g 2 _ _ _ hcell;have vf1:=frozen_of_row wr g 1 _ _ hcell;have vf2:=frozen_of_row wr g 2 _ _ hcell;unfold po pv at c5;simp [iv] at v1 v2;have HL:=Hd (show LRow R wr (.slice ao v.list.length cap) v.list from ⟨ao,cap,rfl,hcap,hrw⟩);have HV:=Hd hsl;clear hcell hrw hpl hsl hcap hg;obtain ⟨vr,vd,vl⟩:=v;simp only at v1 v2 HL;by_cases hd:vd=d
  ·subst hd;have HE:=Hd (show s.known vd=some vl from known_l1 HK1.out HK2.out HV.out rfl);go_wp2
   go_ret2
   exact ⟨by unfold KnownE;rw [HE.out];exact ⟨_,rfl,HL.out⟩,HBW.out⟩
  have HE:=Hd (show s.known d=none from known_l2 HK1.out HK2.out HV.out hd);have hne:=beq_ne hd;clear hd;go_wp2
  go_ret2
  exact ⟨by unfold KnownE;rw [HE.out];rfl,HBW.out⟩
theorem results_row_tmp {P:Program} {fn:Func} {p u:Tmp} {ty:TypeId} (h:fn.results = #[.cell p ty,.tmp u]) (tmps:Array Value) (w:World) (g:Nat) (t:TypeId) (cs:Array Value) (fr:Nat×Nat) (d:TypeDesc)
  (hp:tmps.getD p undef = .pointer (some ⟨g,0,none⟩)) (hg:w.heap[g]?=some (.cells cs t fr))
  (hu:P.underlying ty=some d) (hd:(match d with | .struct _ | .array _ _=>true | _=>false)=true) (hi:(P.info? ty).map (·.size)=some cs.size) :
  (results fn tmps).run P w = .ok (.tuple #[.agg cs,tmps.getD u undef]) w:=by
 rw [results_cell_tmp h,hp];simp [asAddr,run_loadVar_row w g t ty cs fr d hg hu hd hi,Result.andThen]
theorem set3 {w:World} {g:Nat} {t:TypeId} {a b c a' b' c':Value} (h:w.heap[g]?=some (.cells #[a,b,c] t (0,0))):(((w.setCell ⟨g,0,none⟩ a').setCell ⟨g,1,none⟩ b').setCell ⟨g,2,none⟩ c').heap[g]?=some (.cells #[a',b',c'] t (0,0)):=
 heap_setC (heap_setC (heap_setC h a') b') c'
theorem below3 {B:Nat} {a w:World} (h:Below B a w) {g:Nat} (hg:B≤g) (a' b' c':Value):Below B a (((w.setCell ⟨g,0,none⟩ a').setCell ⟨g,1,none⟩ b').setCell ⟨g,2,none⟩ c'):=((h.setCell hg a').setCell hg b').setCell hg c'
def ChosenLE (R:Nat→Prop) (s:StB) (kind round:Int) (e:Ending) (w':World):Prop:=
 match s.chosenList kind round with
 | some v=>∃u,e = .returned (.tuple #[u,.bool true])∧ValV R w' u v
 | none=>∃a b ao n cap,e = .returned (.tuple #[.agg #[.int .i64 a,.string b,.slice ao n cap],.bool false])
theorem chosen_most {D L:Type} [Dg D] [Inhabited L] {s:NS D L} {kind round:Int} {d:D} (h:s.chosen kind round=some d):(s.most kind round).1=d:=by
 unfold NS.chosen at h;simp only at h;split at h
 ·cases h;rfl
 cases h
theorem chosenList_none {D L:Type} [Dg D] [Inhabited L] {s:NS D L} {kind round:Int} (h:s.chosen kind round=none):s.chosenList kind round=none:=by unfold NS.chosenList;rw [h]
theorem chosenList_nk {D L:Type} [Dg D] [Inhabited L] {s:NS D L} {kind round:Int} {d:D} (h:s.chosen kind round=some d) (h2:s.known d=none):s.chosenList kind round=none:=by unfold NS.chosenList;simp only [h,h2]
theorem chosenList_some {D L:Type} [Dg D] [Inhabited L] {s:NS D L} {kind round:Int} {d:D} {l:L} (h:s.chosen kind round=some d) (h2:s.known d=some l):s.chosenList kind round=some ⟨round,d,l⟩:=by unfold NS.chosenList;simp only [h,h2]
theorem chosenList_any (h:NodeP R w x p s) (h1:1≤s.n) (h7:s.n≤7) (hc:CohS s) (kind round:Int):Calls Tryz.prog 171 #[pv x,iv kind,iv round] w fun e w'=>ChosenLE R s kind round e w'∧Below w.heap.size w w':=by
 have C:=Hd (chosen_any (h.up (.cells #[.int .i64 0,.string (ByteArray.mk #[]),.slice none 0 0] 120)) h1 h7 kind round);have H:=Hd (h.up (.cells #[.int .i64 0,.string (ByteArray.mk #[]),.slice none 0 0] 120));have HB0:=Hd ((Below.refl _ w).alloc (Nat.le_refl _) (.cells #[.int .i64 0,.string (ByteArray.mk #[]),.slice none 0 0] 120));have HR0:=Hd (World.alloc_heap_new w (.cells #[.int .i64 0,.string (ByteArray.mk #[]),.slice none 0 0] 120));have hR:=h.lt;have HS0:=Hd (show (w.alloc (.cells #[.int .i64 0,.string (ByteArray.mk #[]),.slice none 0 0] 120)).heap.size=w.heap.size+1 from by simp);clear h;unfold pv iv chosenE at *;go_enter Tryz.func171,Tryz.ntmps171
 go_wp2_with fail
 obtain ⟨wa,hwa⟩:∃wa,wa=w.alloc (.cells #[.int .i64 0,.string (ByteArray.mk #[]),.slice none 0 0] 120):=⟨_,rfl⟩;rw [←hwa] at C H HB0 HR0 HS0 ⊢;obtain ⟨vb,hvb⟩:∃vb,vb=w.heap.size:=⟨_,rfl⟩;rw [←hvb] at HR0 HS0 ⊢;have HVB:=Hd hvb;clear hwa hvb;refine C.out.mono ?_;rintro e w1 ⟨rfl,hb⟩;have HB:=Hd hb;have H1:=Hd (H.out.below hb);have HR1:=Hd ((hb.block vb (by have:=HS0.out;omega)).trans HR0.out);have HBW:=Hd (show Below w.heap.size w w1 from HB0.out.trans (hb.mono HB0.out.size));have v0:=cell_of_row w1 vb 0 _ _ _ HR1.out;have v1:=cell_of_row w1 vb 1 _ _ _ HR1.out;have v2:=cell_of_row w1 vb 2 _ _ _ HR1.out;have vf0:=frozen_of_row w1 vb 0 _ _ HR1.out;have vf1:=frozen_of_row w1 vb 1 _ _ HR1.out;have vf2:=frozen_of_row w1 vb 2 _ _ HR1.out;simp at v0 v1 v2;clear hb;rcases hch:s.chosen kind round with _ | d
 ·have HE:=Hd (chosenList_none hch);obtain ⟨md,hmd⟩:∃md,md=(s.most kind round).1:=⟨_,rfl⟩;rw [←hmd];clear hmd hch;go_wp2
  refine bodyPost_ret (results_row_tmp rfl _ _ vb _ _ _ _ rfl (set3 HR1.out) Tryz.underlying120 rfl (by kernel_rfl)) rfl ⟨?_,below3 HBW.out (by rw [HVB.out];exact Nat.le_refl _) _ _ _⟩;unfold ChosenLE;rw [HE.out];exact ⟨_,_,_,_,_,rfl⟩
 have HM:=Hd (chosen_most hch);have K:=Hd (known_any H1.out hc d);obtain ⟨md,hmd⟩:∃md,md=(s.most kind round).1:=⟨_,rfl⟩;rw [←hmd] at HM ⊢;have hmd2:=HM.out;subst hmd2;have HCH:=Hd hch;clear hmd hch;unfold pv at K;go_wp2_with fail
 refine K.out.mono ?_;rintro e w2 ⟨hk,hb⟩;have HB2:=Hd hb;have HR2:=Hd ((hb.block vb (gE HR1.out).1).trans HR1.out);have HBW2:=Hd (HBW.out.trans (hb.mono HBW.out.size));have v0:=cell_of_row w2 vb 0 _ _ _ HR2.out;have v1:=cell_of_row w2 vb 1 _ _ _ HR2.out;have v2:=cell_of_row w2 vb 2 _ _ _ HR2.out;have vf0:=frozen_of_row w2 vb 0 _ _ HR2.out;have vf1:=frozen_of_row w2 vb 1 _ _ HR2.out;have vf2:=frozen_of_row w2 vb 2 _ _ HR2.out;simp at v0 v1 v2;clear hb;unfold KnownE at hk;rcases hkn:s.known md with _ | l
 ·rw [hkn] at hk;simp only at hk;subst hk;have HE:=Hd (chosenList_nk HCH.out hkn);clear hkn;go_wp2
  refine bodyPost_ret (results_row_tmp rfl _ _ vb _ _ _ _ rfl (set3 HR2.out) Tryz.underlying120 rfl (by kernel_rfl)) rfl ⟨?_,below3 HBW2.out (by rw [HVB.out];exact Nat.le_refl _) _ _ _⟩;unfold ChosenLE;rw [HE.out];exact ⟨_,_,_,_,_,rfl⟩
 rw [hkn] at hk;obtain ⟨v,rfl,hrow⟩:=hk;obtain ⟨ao,cap,rfl,hcap,hrw⟩:=hrow;have HL:=Hd (show LRow R w2 (.slice ao l.length cap) l from ⟨ao,cap,rfl,hcap,hrw⟩);have HE:=Hd (chosenList_some HCH.out hkn);have HN2:=Hd (H1.out.below HB2.out);clear hkn hrw hcap;go_wp2
 have BB:=below3 (a:=w2) (Below.refl vb w2) (g:=vb) (Nat.le_refl _) (.int .i64 round) (.string md) (.slice ao l.length cap);refine bodyPost_ret (results_row_tmp rfl _ _ vb _ _ _ _ rfl (set3 HR2.out) Tryz.underlying120 rfl (by kernel_rfl)) rfl ⟨?_,below3 HBW2.out (by rw [HVB.out];exact Nat.le_refl _) _ _ _⟩;unfold ChosenLE;rw [HE.out];exact ⟨_,rfl,_,rfl,HL.out.kept (fun g cur fr hr hg=>((below3 (Below.refl w.heap.size w2) (g:=vb) (by rw [HVB.out];exact Nat.le_refl _) _ _ _).block g (hR g hr)))⟩
end
end
section
open Go.RowKit
structure MRow (w:World) (b:Nat) (m:MsgB) (ao:Option Addr) (cap:Nat):Prop where
 c0:w.cell? ⟨b,0,none⟩=some (.int .i64 m.kind)
 c1:w.cell? ⟨b,1,none⟩=some (.int .i64 m.frm)
 c2:w.cell? ⟨b,2,none⟩=some (.int .i64 m.to)
 c3:w.cell? ⟨b,3,none⟩=some (.int .i64 m.height)
 c4:w.cell? ⟨b,4,none⟩=some (.int .i64 m.round)
 c5:w.cell? ⟨b,5,none⟩=some (.int .i64 m.valid)
 c6:w.cell? ⟨b,6,none⟩=some (.string m.dig)
 c7:w.cell? ⟨b,7,none⟩=some (.slice ao m.list.length cap)
 fz:∀o,w.frozen? ⟨b,o,none⟩=false
theorem MRow.of {w:World} {b:Nat} {m:MsgB} {ao:Option Addr} {cap:Nat} (h:w.heap[b]?=some (.cells (encM m (.slice ao m.list.length cap)) 36 (0,0))):MRow w b m ao cap:=by
 refine ⟨?_,?_,?_,?_,?_,?_,?_,?_,fun o=>frozen_of_row w b o _ _ h⟩ <;> (rw [cell_of_row w b _ _ _ _ h];rfl)
end
section
open Go.RowKit
def New (w w':World) (k:Nat):Prop:=w.heap.size≤k∧k<w'.heap.size
theorem clone_any {R:Nat→Prop} {w:World} {v:Value} {l:List ByteArray} (h:LRow R w v l) (hl:l.length≤1000) :
  Calls Tryz.prog 67 #[v] w fun e w'=>∃v',e = .returned v'∧LRow (New w w') w' v' l∧Below w.heap.size w w':=by
 obtain ⟨ao,cap,rfl,⟨hc0,hc⟩,h3⟩:=h;rcases h3 with rfl | ⟨g,o,cur,fr,rfl,hr,hg,hcur⟩
 ·rcases ao with _ | a
  ·refine (Tryz.slices_Clone_string_nil 0 cap w).mono ?_;rintro e w' ⟨rfl,rfl⟩;exact ⟨_,rfl,LRow.nil _ _,Below.refl _ _⟩
  refine (Tryz.slices_Clone_string_zero a cap w).mono ?_;rintro e w' ⟨v',rfl,ho,_,hb⟩;exact ⟨_,rfl,LRow.of_owns (l:=[]) ho (fun g h1 h2=>⟨h1,h2⟩),hb⟩
 refine (Tryz.slices_Clone_string g o l.length cap l w (Nat.le_refl _) (by omega) (fun j hj=>?_)).mono ?_
 ·rw [cell_of_row w g _ cur _ _ hg,hcur j l[j] (List.getElem?_eq_getElem hj),List.getD_eq_getElem?_getD,List.getElem?_eq_getElem hj];rfl
 rintro e w' ⟨v',rfl,ho,_,hb⟩;rw [List.take_length] at ho;exact ⟨_,rfl,LRow.of_owns ho (fun g h1 h2=>⟨h1,h2⟩),hb⟩
def keepP (R:Nat→Prop) (w:World) (mb:Nat) (ml:List (Int×MsgB)) (key:Int) (m:MsgB) (e:Ending) (w':World):Prop:=
 e = .returned (.bool (getA key ml).isNone)∧(∃L',RawMap w' mb L'∧All2 (RMsg (fun k=>R k∨New w w' k) w') L' (keepA ml key m))∧Chg (fun k=>k=mb) w w'
theorem keepA_some {D L:Type} [Dg D] [Inhabited L] {l:List (Int×Msg D L)} {k:Int} {m x:Msg D L} (h:getA k l=some x):keepA l k m=l:=by unfold keepA;rw [h]
theorem keepA_none {D L:Type} [Dg D] [Inhabited L] {l:List (Int×Msg D L)} {k:Int} {m:Msg D L} (h:getA k l=none):keepA l k m=putA k m l:=by unfold keepA;rw [h]
theorem RMsg.both {R R':Nat→Prop} {w w':World} {e:Value×Value} {p:Int×MsgB} (h:RMsg R w e p) (hr:∀k,R k→R' k) (hk:∀g cur fr,R g→w.heap[g]?=some (.cells cur 9 fr)→w'.heap[g]?=w.heap[g]?):RMsg R' w' e p:=⟨h.1,(h.2.kept hk).mono hr⟩
theorem keep_any {R R0:Nat→Prop} {w:World} {mb:Nat} {L:List (Value×Value)} {ml:List (Int×MsgB)} {v:Value} {m:MsgB} (hM:RawMap w mb L) (hA:All2 (RMsg R w) L ml) (hm:MsgV R0 w v m) (h0:∀k,R0 k→k<w.heap.size) (hl:m.list.length≤1000) (key:Int) :
  Calls Tryz.prog 77 #[.map (some mb),iv key,v] w (keepP R w mb ml key m):=by
 obtain ⟨sl,rfl,ao,cap,rfl,hcap,hrow⟩:=hm;obtain ⟨b1,hb1⟩:∃b1,b1=w.heap.size:=⟨_,rfl⟩;have HB1:=Hd hb1;have HB0:=Hd ((Below.refl _ w).alloc (Nat.le_refl _) (.cells (encM m (.slice ao m.list.length cap)) 36));have HR0:=Hd (World.alloc_heap_new w (.cells (encM m (.slice ao m.list.length cap)) 36));have HL:=Hd (show LRow R0 w (.slice ao m.list.length cap) m.list from ⟨ao,cap,rfl,hcap,hrow⟩);have H0:=Hd h0;have HM:=Hd hM;have HA:=Hd hA;clear hrow hcap hb1 h0 hM hA;unfold encM iv at *;go_enter Tryz.func77,Tryz.ntmps77
 go_upto_region 1 with (fail)
 obtain ⟨wa,hwa⟩:∃wa,wa=w.alloc (.cells #[.int .i64 m.kind,.int .i64 m.frm,.int .i64 m.to,.int .i64 m.height,.int .i64 m.round,.int .i64 m.valid,.string m.dig,.slice ao m.list.length cap] 36):=⟨_,rfl⟩;rw [←HB1.out] at HR0 ⊢;rw [←hwa] at HB0 HR0 ⊢;clear hwa;have HMA:=Hd (HM.out.kept (HB0.out.block mb HM.out.lt));have HAA:=Hd (show All2 (RMsg R wa) L ml from HA.out.mono (fun a b q=>q.kept (fun g cur fr _ hg=>HB0.out.block g (gE hg).1)));rcases look_rel (r:=MsgV R wa) Tryz.underlying110 ⟨L,HMA.out,HAA.out⟩ (zMsg wa) key true with ⟨hg,hlk⟩ | ⟨m2,u,hg,hu,hlk⟩
 ·unfold zM iv at hlk;have HG:=Hd hg;clear hg;obtain ⟨zc,hzc⟩:∃zc,zc=Obj.cells #[.int .i64 0,.int .i64 0,.int .i64 0,.int .i64 0,.int .i64 0,.int .i64 0,.string (ByteArray.mk #[]),.slice none 0 0] 36:=⟨_,rfl⟩;obtain ⟨wb,hwb⟩:∃wb,wb=wa.alloc zc:=⟨_,rfl⟩;have HBB:=Hd (show Below w.heap.size w wb from by rw [hwb];exact HB0.out.alloc HB0.out.size _);have HBA:=Hd (show Below wa.heap.size wa wb from by rw [hwb];exact (Below.refl _ wa).alloc (Nat.le_refl _) _);have hb1l:b1<wa.heap.size:=(gE HR0.out).1;have HRB:=Hd ((HBA.out.block b1 hb1l).trans HR0.out);obtain ⟨c0,c1,c2,c3,c4,c5,c6,c7,fz⟩:=MRow.of HRB.out;have CL:=Hd (clone_any (HL.out.below H0.out HBB.out) hl);clear hb1l;go_upto_region 4 with (fail)
  rw [←hzc,←hwb];have HWB:=Hd hwb;clear hwb hzc;go_wp2_with fail
  refine CL.out.mono ?_;rintro e w3 ⟨v',rfl,hrow,hb⟩;obtain ⟨ao2,cap2,rfl,hcap2,hrow2⟩:=hrow;have HL3:=Hd (show LRow (New wb w3) w3 (.slice ao2 m.list.length cap2) m.list from ⟨ao2,cap2,rfl,hcap2,hrow2⟩);have HB3:=Hd hb;have HR3:=Hd ((hb.block b1 (gE HRB.out).1).trans HRB.out);clear c0 c1 c2 c3 c4 c5 c6 c7 fz hrow2 hcap2 hb;obtain ⟨c0,c1,c2,c3,c4,c5,c6,c7,fz⟩:=MRow.of HR3.out;have hk4:∀k,k≠b1→(w3.setCell ⟨b1,7,none⟩ (.slice ao2 m.list.length cap2)).heap[k]?=w3.heap[k]?:=fun k hk=>Below.heap_setCell w3 ⟨b1,7,none⟩ _ k hk;have hs4:(w3.setCell ⟨b1,7,none⟩ (.slice ao2 m.list.length cap2)).heap.size=w3.heap.size:=by simp [World.setCell]
  have hmb1:mb≠b1:=by have:=HM.out.lt;have:=HB1.out;omega
  have HM4:=Hd (show RawMap (w3.setCell ⟨b1,7,none⟩ (.slice ao2 m.list.length cap2)) mb L from (HMA.out.kept (((HBA.out.trans (HB3.out.mono HBA.out.size)).block mb HMA.out.lt))).kept (hk4 mb hmb1));have HK4:=Hd hk4;have HS4:=Hd hs4;have HN:=Hd hmb1;clear hk4 hs4 hmb1;go_wp2_with (refine wpList_mapUpdate_raw _ rfl (.tmp 20) (.tmp 21) (.tmp 22) 110 (by rfl) 3 36 Tryz.underlying110 keyI mb L (by rfl) HM4.out (good_rel (r:=MsgV R wa) _ HAA.out) (.int .i64 key) (.agg #[.int .i64 m.kind,.int .i64 m.frm,.int .i64 m.to,.int .i64 m.height,.int .i64 m.round,.int .i64 m.valid,.string m.dig,.slice ao2 m.list.length cap2]) (by rfl) (by rfl) ⟨key,rfl⟩ ?_;intro ob hob;have HO:=Hd hob;clear hob)
  go_ret;have hb2:wb.heap.size≤w3.heap.size:=HB3.out.size;have hwb:w.heap.size≤wb.heap.size:=HBB.out.size;have hsz:((w3.setCell ⟨b1,7,none⟩ (.slice ao2 m.list.length cap2)).putObj mb ob).heap.size=w3.heap.size:=by rw [←HS4.out];simp [World.putObj]
  have hblk:∀k,k≠b1→k≠mb→((w3.setCell ⟨b1,7,none⟩ (.slice ao2 m.list.length cap2)).putObj mb ob).heap[k]?=w3.heap[k]?:=fun k h1 h2=>(World.putObj_heap_other h2).trans (HK4.out k h1);have hold:∀k,k<w.heap.size→k≠mb→((w3.setCell ⟨b1,7,none⟩ (.slice ao2 m.list.length cap2)).putObj mb ob).heap[k]?=w.heap[k]?:=fun k h1 h2=>(hblk k (by have:=HB1.out;omega) h2).trans ((HB3.out.block k (Nat.lt_of_lt_of_le h1 hwb)).trans (HBB.out.block k h1));have hsl:∀(g:Nat) cur fr,w.heap[g]?=some (Obj.cells cur 9 fr)→((w3.setCell ⟨b1,7,none⟩ (.slice ao2 m.list.length cap2)).putObj mb ob).heap[g]?=w.heap[g]?:=fun g cur fr hg=>hold g (gE hg).1 (fun e=>by
   obtain ⟨es,c,h1,_⟩:=HM.out;rw [e,h1] at hg;cases hg)
  refine ⟨by rw [HG.out];rfl,⟨_,HO.out,?_⟩,?_⟩
  ·rw [keepA_none HG.out];refine putV_rel (r:=MsgV _ _) key ?_ (HA.out.mono (fun a b q=>q.both (fun k hk=>.inl hk) (fun g cur fr _ hg=>hsl g cur fr hg)));refine ⟨_,rfl,(HL3.out.kept (fun g cur fr hr hg=>hblk g (fun e=>?_) (fun e=>?_))).mono (fun k hk=>.inr ⟨Nat.le_trans hwb hk.1,by rw [hsz];exact hk.2⟩)⟩
   ·have h1:=hr.1;have:=HBB.out.size;have h2:b1<wb.heap.size:=(gE HRB.out).1;omega
   have h1:=hr.1;have:=HM.out.lt;omega
  exact ⟨HB3.out.os.trans HBB.out.os,HB3.out.tape.trans HBB.out.tape,HB3.out.output.trans HBB.out.output,by rw [hsz];omega,fun k h1 h2=>hold k h1 h2⟩
 obtain ⟨sl2,rfl,ao2,cap2,rfl,hcap2,hrow2⟩:=hu;unfold encM iv at hlk;have HG:=Hd hg;clear hg hcap2 hrow2;go_wp2
 go_ret;refine ⟨by rw [HG.out];rfl,⟨L,?_,?_⟩,?_⟩
 ·exact HMA.out.kept (((Below.refl _ wa).alloc (Nat.le_refl _) _).block mb HMA.out.lt)
 ·rw [keepA_some HG.out];exact HAA.out.mono (fun a b q=>q.both (fun k hk=>.inl hk) (fun g cur fr _ hg=>((Below.refl _ wa).alloc (Nat.le_refl _) _).block g (gE hg).1))
 exact Chg.of_below (HB0.out.alloc HB0.out.size _) (fun k h1 h2=>by omega)
end
section
open Go.RowKit
section
variable {R:Nat→Prop} {w:World} {x:Nat} {p:Ptr} {s:StB}
theorem height_any (h:NodeP R w x p s):Calls Tryz.prog 24 #[pv x] w fun e w'=>e = .returned (.int .i64 s.height)∧w'=w:=by
 have c0:=h.nc.c0;clear h;unfold pv;go_enter Tryz.func24,Tryz.ntmps24
 go_wp2
 go_ret;exact ⟨rfl,rfl⟩
theorem height_nil (w:World):Calls Tryz.prog 24 #[.pointer none] w fun e w'=>e = .returned (.int .i64 0)∧w'=w:=by
 go_enter Tryz.func24,Tryz.ntmps24
 go_wp2
 go_ret;exact ⟨rfl,rfl⟩
theorem round_any (h:NodeP R w x p s):Calls Tryz.prog 23 #[pv x] w fun e w'=>e = .returned (.int .i64 s.round)∧w'=w:=by
 have c1:=h.nc.c1;clear h;unfold pv;go_enter Tryz.func23,Tryz.ntmps23
 go_wp2
 go_ret;exact ⟨rfl,rfl⟩
theorem round_nil (w:World):Calls Tryz.prog 23 #[.pointer none] w fun e w'=>e = .returned (.int .i64 0)∧w'=w:=by
 go_enter Tryz.func23,Tryz.ntmps23
 go_wp2
 go_ret;exact ⟨rfl,rfl⟩
theorem insA_eq (d:ByteArray) (s:StB):(s.accept d).acc=insA d s.acc:=rfl
theorem accept_any (h:NodeP R w x p s) (d:ByteArray):Calls Tryz.prog 25 #[pv x,.string d] w fun e w'=>e = .returned (.tuple #[])∧Turned R w x (s.accept d) w':=by
 have c8:=h.nc.c8;have H:=Hd h;have HM:=Hd h.maps.acc;clear h;unfold pv;obtain ⟨L,hL⟩:∃L,L=s.acc.map encAcc:=⟨_,rfl⟩;rw [←hL] at HM;have HL:=Hd hL;have HG:=Hd (show KeysGood goodS w L from by rw [hL];exact good_acc w _);clear hL;go_enter Tryz.func25,Tryz.ntmps25
 go_wp2_with (refine wpList_mapUpdate_raw _ rfl (.tmp 10) (.tmp 11) (.const (.bool true)) 109 (by rfl) 9 4 Tryz.underlying109 keyS p.acc L (by rfl) HM.out HG.out (.string d) (.bool true) (by rfl) (by rfl) ⟨d,rfl⟩ ?_;intro ob hob;have HO:=Hd hob;clear hob)
 refine bodyPost_end (results_none rfl _ _ _) rfl ?_;have h3:=HO.out;rw [HL.out,putV_set (ek:=.string) encAcc_eq str_inj] at h3;refine ⟨rfl,.of (p:=p) (H.out.put_acc (s':=s.accept d) (fun k _ hk=>World.putObj_heap_other hk) (by simp [World.putObj]) ?_) (Chg.put w p.acc ob (H.out.maps.own _ (by simp [Ptr.maps])))⟩;exact h3
theorem accept_nil (d:ByteArray) (w:World):Calls Tryz.prog 25 #[.pointer none,.string d] w fun e w'=>e = .returned (.tuple #[])∧w'=w:=by
 go_enter Tryz.func25,Tryz.ntmps25
 go_wp2
 refine bodyPost_end (results_none rfl _ _ _) rfl ?_;exact ⟨rfl,rfl⟩
end
end
section
open Go.RowKit
theorem run_append_new {P:Program} (w:World) (base:Nat) (t ty e:TypeId) (i:TypeInfo) (z:Value) (size bytes:Nat) (ht:P.underlying t=some (.slice e)) (hi:P.info? e=some i) (hz:i.zero=some z)
  (hsize:i.size=size) (hby:i.bytes=bytes) (hzs:z.cells.size=size) (hsz:0<size)
  (v:Value) (n:Nat) (xs:List Value) (hown:w.ownsRow base e size v n xs)
  (a:Addr) (m c:Nat) (news:List Value) (hl:news.length=m * size) (hnews:∀j u,news[j]?=some u→w.cell? (a.add j)=some u) (h1:∀u∈news,u.oneCell'=true)
  (h63:n+m≤maxLen) (hbytes:(n+m) * bytes≤140737488355328) (hbase:base≤w.heap.size) :
  ∃v' w',(Builtin.append_ #[t,t] ty #[v,.slice (some a) m c]).run P w = .ok v' w'∧w'.ownsRow base e size v' (n+m) (xs ++ news)∧w.grownBy w' v.ownBlock∧(∀g,v'.ownBlock=some g→v.ownBlock=some g∨w.heap.size≤g):=by
 obtain ⟨v',w',hr,h2,h3,_⟩:=run_append_own (P:=P) w base t ty e i z size bytes ht hi hz hsize hby hzs hsz v n xs hown a m c news hl hnews h1 h63 hbytes hbase;refine ⟨v',w',hr,h2,h3,fun g hg=>?_⟩;rcases hown.2 with ⟨rfl,rfl⟩ | ⟨g0,cap,cur,rfl,hbg,hg0,hnc,hcm,hcs,htake⟩
 ·have hx:xs = []:=List.eq_nil_of_length_eq_zero (by simpa using hown.1);subst hx;obtain ⟨v2,w2,hr2,h22,_⟩:=run_append_own (P:=P) w w.heap.size t ty e i z size bytes ht hi hz hsize hby hzs hsz (.slice none 0 0) 0 [] (World.ownsRow_nil w w.heap.size e size) a m c news hl hnews h1 h63 hbytes (Nat.le_refl _);rw [hr] at hr2;injection hr2 with hv _
  subst hv;rcases h22.2 with ⟨q,_⟩ | ⟨g2,cap2,cur2,q,hb2,_⟩
  ·rw [q] at hg;cases hg
  rw [q] at hg;have:g2=g:=by simpa [Value.ownBlock] using hg
  exact .inr (this ▸ hb2)
 subst hsize;subst hby;by_cases hroom:n+m≤cap
 ·have hfit:n * i.size+news.length≤cur.size:=by rw [hl,hcs,←Nat.add_mul];exact Nat.mul_le_mul_right _ hroom
  have hr2:=run_append_room (P:=P) w t ty e i ht hi g0 n cap cur hg0 a m c news hl hnews h1 hroom hfit;rw [hr] at hr2;injection hr2 with hv _
  rw [hv] at hg;exact .inl hg
 have holds:∀j u,xs[j]?=some u→w.cell? ((⟨g0,0,none⟩:Addr).add j)=some u:=hown.cells (g:=g0) rfl;have hr2:=run_append_grow (P:=P) w t ty e i z ht hi hz ⟨g0,0,none⟩ n cap xs hown.1 holds a m c news hl hnews (by omega) (by simp only [maxLen] at h63;omega) (growslice_fits (by omega) hbytes);rw [hr] at hr2;injection hr2 with hv _
 rw [hv] at hg;have:w.heap.size=g:=by simpa [Value.ownBlock] using hg
 exact .inr (by omega)
theorem wp_append_new {P:Program} {w:World} {o:Oper} {a:Act} {K:Act→World→Prop} {Q:Exit→Act→World→Prop} (s x:Operand) (t:TypeId)
  (ho:o.op = .call {callee:=.builtin .append,args:=#[s,x],argTypes:=#[t,t]})
  (base:Nat) (e:TypeId) (i:TypeInfo) (z:Value) (size bytes:Nat) (ht:P.underlying t=some (.slice e)) (hi:P.info? e=some i) (hz:i.zero=some z)
  (hsize:i.size=size) (hby:i.bytes=bytes) (hzs:z.cells.size=size) (hsz:0<size)
  (v:Value) (n:Nat) (xs:List Value) (hs:a.eval s=v) (hown:w.ownsRow base e size v n xs)
  (ad:Addr) (m c:Nat) (news:List Value) (hx:a.eval x = .slice (some ad) m c) (hl:news.length=m * size) (hnews:∀j u,news[j]?=some u→w.cell? (ad.add j)=some u) (h1:∀u∈news,u.oneCell'=true)
  (h63:n+m≤maxLen) (hbytes:(n+m) * bytes≤140737488355328) (hbase:base≤w.heap.size)
  (h:∀v' w',w'.ownsRow base e size v' (n+m) (xs ++ news)→w.grownBy w' v.ownBlock→(∀g,v'.ownBlock=some g→v.ownBlock=some g∨w.heap.size≤g)→K (a.put o.dst v') w'):o.wp P a w K Q:=by
 obtain ⟨v',w',hr,h2,h3,h4⟩:=run_append_new (P:=P) w base t o.type e i z size bytes ht hi hz hsize hby hzs hsz v n xs hown ad m c news hl hnews h1 h63 hbytes hbase;unfold Oper.wp execOp;simp only [ho,resolve,invoke,builtin,Sem.run_bind,Sem.run_pure,Result.andThen_ok,List.map_toArray,List.map_cons,List.map_nil,hs,hx,hr];exact h v' w' h2 h3 h4
theorem step_new {P:Program} {w:World} {ops:Array Oper} {o:Oper} {a:Act} {K:Act→World→Prop} {Q:Exit→Act→World→Prop} {F:Prop} (hw:Region.wanted o (yielded ops a.tmps)=true) (s x:Operand) (t:TypeId)
  (ho:o.op = .call {callee:=.builtin .append,args:=#[s,x],argTypes:=#[t,t]})
  (base:Nat) (e:TypeId) (i:TypeInfo) (z:Value) (size bytes:Nat) (ht:P.underlying t=some (.slice e)) (hi:P.info? e=some i) (hz:i.zero=some z)
  (hsize:i.size=size) (hby:i.bytes=bytes) (hzs:z.cells.size=size) (hsz:0<size)
  (v:Value) (n:Nat) (xs:List Value) (hs:a.eval s=v) (hown:w.ownsRow base e size v n xs)
  (ad:Addr) (m c:Nat) (news:List Value) (hx:a.eval x = .slice (some ad) m c) (hl:news.length=m * size) (hnews:∀j u,news[j]?=some u→w.cell? (ad.add j)=some u) (h1:∀u∈news,u.oneCell'=true)
  (h63:n+m≤maxLen) (hbytes:(n+m) * bytes≤140737488355328) (hbase:base≤w.heap.size)
  (h:∀v' w',w'.ownsRow base e size v' (n+m) (xs ++ news)→w.grownBy w' v.ownBlock→(∀g,v'.ownBlock=some g→v.ownBlock=some g∨w.heap.size≤g)→K (a.put o.dst v') w') :
  if Region.wanted o (yielded ops a.tmps)=true then Oper.wp P o a w K Q else F:=by
 rw [if_pos hw];exact wp_append_new s x t ho base e i z size bytes ht hi hz hsize hby hzs hsz v n xs hs hown ad m c news hx hl hnews h1 h63 hbytes hbase h
theorem wpList_append_new {P:Program} {w:World} {ops:Array Oper} {rest:List Oper} {o:Oper} {a:Act} {Q:Exit→Act→World→Prop} (hgd:o.guard=none) (s x:Operand) (t:TypeId)
  (ho:o.op = .call {callee:=.builtin .append,args:=#[s,x],argTypes:=#[t,t]})
  (base:Nat) (e:TypeId) (i:TypeInfo) (z:Value) (size bytes:Nat) (ht:P.underlying t=some (.slice e)) (hi:P.info? e=some i) (hz:i.zero=some z)
  (hsize:i.size=size) (hby:i.bytes=bytes) (hzs:z.cells.size=size) (hsz:0<size)
  (v:Value) (n:Nat) (xs:List Value) (hs:a.eval s=v) (hown:w.ownsRow base e size v n xs)
  (ad:Addr) (m c:Nat) (news:List Value) (hx:a.eval x = .slice (some ad) m c) (hl:news.length=m * size) (hnews:∀j u,news[j]?=some u→w.cell? (ad.add j)=some u) (h1:∀u∈news,u.oneCell'=true)
  (h63:n+m≤maxLen) (hbytes:(n+m) * bytes≤140737488355328) (hbase:base≤w.heap.size) (q:Nat) (hq:n+m=q)
  (h:∀v' w',w'.ownsRow base e size v' q (xs ++ news)→w.grownBy w' v.ownBlock→(∀g,v'.ownBlock=some g→v.ownBlock=some g∨w.heap.size≤g)→wpList P ops Q rest (a.put o.dst v') w'):wpList P ops Q (o :: rest) a w:=
 wpList_plain hgd fun _ hK=>wp_append_new s x t ho base e i z size bytes ht hi hz hsize hby hzs hsz v n xs hs hown ad m c news hx hl hnews h1 h63 hbytes hbase fun v' w' h2 h3 h4=>hK _ _ (h v' w' (hq ▸ h2) h3 h4)
theorem encM_one (m:MsgB) (ao:Option Addr) (n cap:Nat):∀u∈(encM m (.slice ao n cap)).toList,u.oneCell'=true:=by
 intro u hu;simp [encM,iv] at hu;rcases hu with rfl | rfl | rfl | rfl | rfl | rfl | rfl | rfl <;> rfl
end
section
open Go.RowKit
def SeqOwn {α:Type} (n:Nat) (P:Program) (g:Nat) (lb:Array Value) (encs:α→Array Value) (ok:List α→α→Prop) (X:Nat→Prop) (S:List α→Prop) (w:World):Prop:=
 ∀(l:Nat) (J:List α→(Nat→Prop)→World→Prop) (O:Nat→Prop) (W:World),Below w.heap.size w W→(∀k,O k→k<w.heap.size∧¬X k) →
  (∀s O A B C,J s O A→Chg C A B→(∀k,C k→W.heap.size≤k∧¬O k)→J s O B) →
  (∀pre x O1 W1,ok pre x→J pre O1 W1→YieldAt Fence.wide (n - 1) P l (encs x) W1 fun e W'=>
   e = .returned (.bool true)∧∃O2,J (pre ++ [x]) O2 W'∧Chg O1 W1 W'∧∀k,O2 k→O1 k∨W1.heap.size≤k) →
  J [] O W →
  CallsIn Fence.wide n P g (#[.func (.yield l) #[] #[]] ++ lb) W fun e W'=>(∃v,e = .returned v)∧∃xs O',S xs∧J xs O' W'
theorem wpIn_range_own {α:Type} {n:Nat} {P:Program} {g:Operand} {ps:Array Tmp} {assign body:Code} {Q:Exit→Act→World→Prop} {a:Act} {w:World}
  {gf:Nat} {lb:Array Value} (hg:a.eval g = .func (.func gf) #[] lb) (eg:∀args w,(callFunc gf args).run P w = .ok (.enter gf args) w)
  {encs:α→Array Value} {ok:List α→α→Prop} {X:Nat→Prop} {S:List α→Prop} (hseq:SeqOwn (n - 1) P gf lb encs ok X S w) (hps:∀x,(encs x).size=ps.size)
  (I:List α→(Nat→Prop)→World→Prop) (O0:Nat→Prop) (hO0:∀k,O0 k→k<w.heap.size∧¬X k)
  (hI:∀s O A B C,I s O A→Chg C A B→(∀k,C k→w.heap.size≤k∧¬O k)→I s O B) (h0:I [] O0 w)
  (M:List α→α→Act→(Nat→Prop)→World→Prop) (hM:∀s x a' O A B C,M s x a' O A→Chg C A B→(∀k,C k→w.heap.size≤k∧¬O k)→M s x a' O B)
  (hassign:∀(l:Nat) (pre:List α) (x:α) (O:Nat→Prop) (W:World) (K:Act→World→Prop),ok pre x→I pre O W→(∀a' O' W',M pre x a' O' W'→Chg O W W'→(∀k,O' k→O k∨W.heap.size≤k)→K a' W') →
   assign.wpIn (Fence.wide.inRound l) (n - 1 - 1) P (Exit.then K (fun _ _ _=>False)) {tmps:=(ps.zip (encs x)).foldl (fun t (p,v)=>t.setIfInBounds p v) a.tmps,defers:=[]} W)
  (hbody:∀(l:Nat) (pre:List α) (x:α) (a':Act) (O:Nat→Prop) (W:World),ok pre x→M pre x a' O W→body.wpIn (Fence.wide.inRound l) (n - 1 - 1) P (roundEnd I (pre ++ [x]) O W) a' W)
  (hdone:∀(D:Nat) (xs:List α) (O:Nat→Prop) (W:World),w.heap.size≤D→¬O D→S xs→I xs O W→W.heap[D]?=some (.deferred (some []))→Q .normal {a with defers:={target:=.collected D,args:=#[]} :: a.defers} W) :
  (Code.rangeFunc g ps assign body).wpIn Fence.wide n P Q a w:=by
 refine wpIn_rangeFunc ?_;intro fn hfn;rw [show Fence.wide.round=none from rfl];obtain ⟨rc,hrc⟩:∃rc:LoopState→Loop,rc=fun st=>{state:=st,pending:=none,fn,tmps:=a.tmps,params:=ps,assign,body,defers:=w.heap.size}:=⟨_,rfl⟩;obtain ⟨V,hV⟩:∃V,(w.alloc (.deferred (some []))).alloc (.loop (rc .ready))=V:=⟨_,rfl⟩;have hVs:V.heap.size=w.heap.size+2:=by rw [←hV];simp
 have hVl:V.heap[w.heap.size+1]?=some (.loop (rc .ready)):=by
  rw [←hV];have:=World.alloc_heap_new (w.alloc (.deferred (some []))) (.loop (rc .ready));rwa [World.size_alloc] at this
 have hVd:V.heap[w.heap.size]?=some (.deferred (some [])):=by
  rw [←hV,Below.heap_alloc _ _ _ (by simp)];exact World.alloc_heap_new w _
 have hcV:Chg (fun _=>False) w V:=by rw [←hV];exact (Chg.alloc _ _ _).trans (Chg.alloc _ _ _)
 have hIV:I [] O0 V:=hI _ _ _ _ _ h0 hcV (fun k h=>h.elim);refine ⟨w.heap.size+1,[{target:=.collected w.heap.size,args:=#[]}],V,{target:=.fn (.func gf) lb,args:=#[.func (.yield (w.heap.size+1)) #[] #[]]},V,gf,
  #[.func (.yield (w.heap.size+1)) #[] #[]] ++ lb,V,?_,?_,fun _ _=>trivial,?_,fun h=>by simp [Fence.wide] at h,?_⟩
 ·rw [←hV,hrc];exact run_enterLoop_outer _ _ _ _ _
 ·simp only [resolve,hg];simp [go_sem]
 ·simp [invoke,go_sem,eg]
 refine (hseq (w.heap.size+1)
  (fun pre O W=>I pre O W∧W.heap[w.heap.size+1]?=some (.loop (rc .ready))∧W.heap[w.heap.size]?=some (.deferred (some []))∧¬O (w.heap.size+1)∧¬O w.heap.size)
  O0 V (hcV.below (Nat.le_refl _) (fun k h=>h.elim)) hO0 ?_ ?_ ⟨hIV,hVl,hVd,fun h=>by have:=(hO0 _ h).1;omega,fun h=>by have:=(hO0 _ h).1;omega⟩).mono ?_
 ·rintro s O A B C ⟨h1,h2,h3,h4,h5⟩ hc hC;refine ⟨hI _ _ _ _ _ h1 hc (fun k hk=>⟨by have:=(hC k hk).1;omega,(hC k hk).2⟩),?_,?_,h4,h5⟩
  ·rw [hc.block _ (gE h2).1 (fun h=>by have:=(hC _ h).1;omega)];exact h2
  rw [hc.block _ (gE h3).1 (fun h=>by have:=(hC _ h).1;omega)];exact h3
 ·rintro pre x O W hok ⟨hi,hl,hd,nl,nd⟩;have hlt:w.heap.size+1<W.heap.size:=(gE hl).1;have hy:=run_yield (P:=P) (args:=encs x) hl (by rw [hrc];exact hps x);rw [hrc] at hy;refine ⟨fn,_,assign,body,hy,roundIn_of_wpIn hfn (hassign _ pre x O W _ hok hi ?_)⟩;intro a' Oa Wa hm hca hoa;have hla:Wa.heap[w.heap.size+1]?=some (.loop (rc .ready)):=by rw [hca.block _ hlt nl];exact hl
  have hda:Wa.heap[w.heap.size]?=some (.deferred (some [])):=by rw [hca.block _ (by omega) nd];exact hd
  have hlta:=(gE hla).1;have nla:¬Oa (w.heap.size+1):=fun h=>by rcases hoa _ h with h | h;exact nl h;omega
  have nda:¬Oa w.heap.size:=fun h=>by rcases hoa _ h with h | h;exact nd h;omega
  refine ⟨_,run_beginRound hla (by rw [hrc]),?_⟩;obtain ⟨V2,hV2⟩:∃V2,Wa.putObj (w.heap.size+1) (.loop {rc .ready with state:=.busy})=V2:=⟨_,rfl⟩;have hl2:V2.heap[w.heap.size+1]?=some (.loop (rc .busy)):=by rw [←hV2,World.putObj_heap_same hlta,hrc]
  have hd2:V2.heap[w.heap.size]?=some (.deferred (some [])):=by rw [←hV2,World.putObj_heap_other (by omega)];exact hda
  have hc2:Chg (fun k=>k=w.heap.size+1) Wa V2:=by rw [←hV2];exact Chg.put _ _ _ rfl
  have hs2:V2.heap.size=Wa.heap.size:=by rw [←hV2];simp
  rw [hV2];have hm2:=hM _ _ _ _ _ _ _ hm hc2 (fun k hk=>by subst hk;exact ⟨by omega,nla⟩);refine wpIn_mono (hbody _ pre x a' Oa V2 hok hm2) ?_;rintro e a3 W3 hp;have hsa:=hca.size;cases e with
  | normal=>
   obtain ⟨O',hi3,hc3,ho3⟩:=hp;have hl3:W3.heap[w.heap.size+1]?=some (.loop (rc .busy)):=by rw [hc3.block _ (by omega) nla];exact hl2
   have hd3:W3.heap[w.heap.size]?=some (.deferred (some [])):=by rw [hc3.block _ (by omega) nda];exact hd2
   have hlt3:=(gE hl3).1;have nl':¬O' (w.heap.size+1):=fun h=>by rcases ho3 _ h with h | h;exact nla h;omega
   have nd':¬O' w.heap.size:=fun h=>by rcases ho3 _ h with h | h;exact nda h;omega
   have her:({rc .busy with state:=if (none:Option Code).isNone then .ready else .done,pending:=none}:Loop)=rc .ready:=by rw [hrc];rfl
   have hre:=run_endRound (P:=P) none hl3;rw [her] at hre;refine ⟨_,_,hre,rfl,O',⟨hI _ _ _ _ (fun k=>k=w.heap.size+1) hi3 (Chg.put _ _ _ rfl) (fun k hk=>by subst hk;exact ⟨by omega,nl'⟩),World.putObj_heap_same hlt3,by rw [World.putObj_heap_other (by omega)];exact hd3,nl',nd'⟩,?_,fun k hk=>?_⟩
   ·refine ⟨hc3.os.trans (hc2.os.trans hca.os),hc3.tape.trans (hc2.tape.trans hca.tape),hc3.output.trans (hc2.output.trans hca.output),by rw [World.putObj_size];have:=hc3.size;omega,fun k hk hn=>?_⟩;by_cases e:k=w.heap.size+1
    ·subst e;rw [World.putObj_heap_same hlt3];exact hl.symm
    rw [World.putObj_heap_other e,hc3.block k (by omega) (fun h=>by rcases hoa k h with h | h;exact hn h;omega),hc2.block k (by omega) e,hca.block k hk hn]
   ·rcases ho3 k hk with h | h
    ·exact hoa k h
    ·exact .inr (by omega)
  | ret=>exact hp.elim
  | exit id=>exact hp.elim
  | goto t=>exact hp.elim
  | panic ch=>exact hp.elim
  | outgrown=>exact hp.elim
 rintro e W2 ⟨⟨v,rfl⟩,xs,O',hS,hi,hl,hd,nl,nd⟩;have hre:=run_endLoop (P:=P) hl (by rw [hrc];simp);rw [show (rc .ready).pending=none by rw [hrc]] at hre;refine ⟨none,_,hre,hdone _ xs O' _ (Nat.le_refl _) nd hS (hI _ _ _ _ (fun k=>k=w.heap.size+1) hi (Chg.put _ _ _ rfl) (fun k hk=>by subst hk;exact ⟨by omega,nl⟩)) ?_⟩;rw [World.putObj_heap_other (by omega)];exact hd
end
section
variable {F:Fence} {nF:Nat} {P:Program} (w:World) {ops:Array Oper} {rest:List Oper} {o:Oper} {a:Act} {Q:Exit→Act→World→Prop}
theorem wpListIn_next_raw (hg:o.guard=none) (it:Operand) (hop:o.op=Op.next it false) (b r:Nat) (L left:List (Value×Value))
  (hit:a.eval it = .pointer (some ⟨r,0,none⟩)) (h:RawRange w b r L left)
  (hDone:left = []→wpListIn F nF P ops Q rest (a.put o.dst (.tuple #[.bool false])) w)
  (hMore:∀k v pre post w',left=pre ++ (k,v) :: post→(k,v)∈L→RawRange w' b r L (pre ++ post)→w.grownBy w' (some r)→w'.heap.size=w.heap.size→(Instr.entry (.pointer (some ⟨r,0,none⟩))).run P w' = .ok (.tuple #[k,v]) w'→wpListIn F nF P ops Q rest (a.put o.dst (.tuple #[.bool true,k,v])) w') :
  wpListIn F nF P ops Q (o :: rest) a w:=by
 refine wpListIn_plain hg fun K' hK'=>?_;unfold Oper.wpIn;refine ⟨by simp [Oper.about,hop],?_⟩;rw [Oper.semAt_plain F _ _ (by rw [hop];intro c hc';cases hc')];rcases h.next (P:=P) o.type with ⟨h0,hrun⟩ | ⟨k,v,pre,post,w',hl,hm,hrun,hrg,hgr,hsz,hen⟩
 ·simp [execOp,hop,hit,hrun,Result.andThen];exact hK' _ _ (hDone h0)
 simp [execOp,hop,hit,hrun,Result.andThen];exact hK' _ _ (hMore k v pre post w' hl hm hrg hgr hsz hen)
theorem wpListIn_mapUpdate_raw (hg:o.guard=none) (m x v:Operand) (t:TypeId) (hop:o.op=Op.mapUpdate t m x v) (k e:TypeId) (ht:P.underlying t=some (.map k e)) {good:World→Value→Prop} (R:RawKey P k good) (b:Nat) (L:List (Value×Value)) (hm:a.eval m = .map (some b)) (h:RawMap w b L) (hgd:KeysGood good w L)
  (key val:Value) (hx:a.eval x=key) (hv:a.eval v=val) (hkey:good w key)
  (hK:∀ob,RawMap (w.putObj b ob) b (putV key val L)→wpListIn F nF P ops Q rest (a.put o.dst undef) (w.putObj b ob)):wpListIn F nF P ops Q (o :: rest) a w:=by
 refine wpListIn_plain hg fun K' hK'=>?_;obtain ⟨ob,hrun,hr⟩:=h.update R ht hgd hkey val;unfold Oper.wpIn;refine ⟨by simp [Oper.about,hop],?_⟩;rw [Oper.semAt_plain F _ _ (by rw [hop];intro c hc';cases hc')];simp [execOp,hop,hm,hx,hv,hrun,Result.andThen];exact hK' _ _ (hK ob (hr _ (World.putObj_heap_same h.lt)))
theorem wpListIn_range_raw (hg:o.guard=none) (m:Operand) (t:TypeId) (hop:o.op=Op.range t m) (k e:TypeId) (ht:P.underlying t=some (.map k e)) (b:Nat) (L:List (Value×Value)) (hm:a.eval m = .map (some b)) (h:RawMap w b L)
  (hK:∀ob,RawRange (w.alloc ob) b w.heap.size L L→wpListIn F nF P ops Q rest (a.put o.dst (.pointer (some ⟨w.heap.size,0,none⟩))) (w.alloc ob)):wpListIn F nF P ops Q (o :: rest) a w:=by
 refine wpListIn_plain hg fun K' hK'=>?_;obtain ⟨ob,hrun,hr⟩:=h.range (P:=P) ht;unfold Oper.wpIn;refine ⟨by simp [Oper.about,hop],?_⟩;rw [Oper.semAt_plain F _ _ (by rw [hop];intro c hc';cases hc')];simp [execOp,hop,hm,hrun,Result.andThen];exact hK' _ _ (hK ob hr)
end
section
open Go.RowKit
attribute [local go_sem] Oper.semAt_some
def encKI (k:Int):Array Value:=#[.int .i64 k]
theorem lt_of_blk {w:World} {b:Nat} {o:Obj} (h:w.heap[b]?=some o):b<w.heap.size:=(gE h).1
def PartK (l:List (Int×(Int×Int))) (pre:List Int) (left:List (Value×Value)):Prop:=
 ∃lf:List (Int×(Int×Int)),left=lf.map encSt∧(pre ++ lf.map (·.1)).Perm (l.map (·.1))
theorem PartK.step {l:List (Int×(Int×Int))} {pre:List Int} {left p post:List (Value×Value)} {k v:Value} (h:PartK l pre left) (hl:left=p ++ (k,v) :: post) :
  ∃i a b,k = .int .i64 i∧v = .agg #[.int .i64 a,.int .i64 b]∧i∈l.map (·.1)∧pre.length<l.length∧PartK l (pre ++ [i]) (p ++ post):=by
 obtain ⟨lf,rfl,hp⟩:=h;obtain ⟨lp,⟨i,a,b⟩,lq,rfl,e2,rfl,rfl⟩:=map_split hl;cases e2;have hm:i∈l.map (·.1):=hp.mem_iff.1 (by simp);refine ⟨i,a,b,rfl,rfl,hm,by have:=hp.length_eq;simp at this;omega,lp ++ lq,by rw [List.map_append],?_⟩;refine List.Perm.trans ?_ hp;rw [List.append_assoc];refine List.Perm.append_left _ ?_;simpa using (List.perm_middle (a:=i) (l₁:=lp.map (·.1)) (l₂:=lq.map (·.1))).symm
theorem PartK.fin {l:List (Int×(Int×Int))} {pre:List Int} (h:PartK l pre []):pre.Perm (l.map (·.1)):=by
 obtain ⟨lf,e,hp⟩:=h;have:lf = []:=by simpa using e.symm
 subst this;simpa using hp
theorem qkeys_any (M:Nat) (w:World) :
  Calls Tryz.prog 110 #[.map (some M)] w fun e w'=>e = .returned (.func (.func 166) #[] #[.pointer (some ⟨w.heap.size,0,none⟩)])∧w'=w.alloc (.cells #[.map (some M)] 106):=by
 go_enter Tryz.func110,Tryz.ntmps110
 go_wp2
 go_ret;exact ⟨rfl,rfl⟩
theorem qkeys_seq {w:World} {M:Nat} {l:List (Int×(Int×Int))} (n:Nat) (h:RawMap w M (l.map encSt)) (bx:Nat) (hbx:w.cell? ⟨bx,0,none⟩=some (.map (some M))) :
  SeqOwn n Tryz.prog 166 #[.pointer (some ⟨bx,0,none⟩)] encKI (fun pre x=>x∈l.map (·.1)∧pre.length<l.length) (fun k=>k=M) (fun xs=>xs.Perm (l.map (·.1))) w:=by
 intro lp J O W hW hO hJ hY h0;obtain ⟨L,hLL⟩:∃L,L=l.map encSt:=⟨_,rfl⟩;have HP:=Hd (show PartK l [] L from ⟨l,hLL,by simp⟩);rw [←hLL] at h;have hL:RawMap W M L:=h.kept (hW.block M h.lt);have hbc:W.cell? ⟨bx,0,none⟩=some (.map (some M)):=by rw [hW.cell (p:=⟨bx,0,none⟩) (World.block_lt_of_cell? _ _ hbx)];exact hbx
 have HJ:=Hd hJ;have HY:=Hd hY;have HL:=Hd hL;have HOM:=Hd (show ¬O M from fun q=>(hO M q).2 rfl);have HOB:=Hd (show ¬O W.heap.size from fun q=>by have:=(hO _ q).1;have:=hW.size;omega);have H0:=Hd h0;have HMS:=Hd (show M<W.heap.size from hL.lt);clear hJ hY hLL hL hbx hO h0 hW h;refine callsIn_of_wp Tryz.func166 rfl trivial ?_ rfl;simp only [Tryz.ntmps166,List.size_toArray,List.length_cons,List.length_nil,Nat.reduceAdd,Nat.reduceSub,Array.replicate_succ,Array.replicate_zero,List.push_toArray,List.append_toArray,List.nil_append,List.cons_append];gi_wp2_with (gi_at_range;refine wpListIn_range_raw _ rfl _ 106 (by rfl) 3 165 Tryz.underlying106 M L (by rfl) HL.out ?_;intro ob hob;have RG0:=Hd hob;have JJ0:=Hd (HJ.out _ _ _ _ _ H0.out (Chg.alloc (fun _=>False) W ob) (fun k h=>h.elim));clear hob)
 obtain ⟨it,hit⟩:∃it,W.heap.size=it:=⟨_,rfl⟩;rw [hit] at RG0 HOB ⊢;have HIT:=Hd hit;clear hit;try go_frame
 gi_loopw [] (fun wr=>∃(pre:List Int) (left:List (Value×Value)) (O1:Nat→Prop),J pre O1 wr∧RawRange wr M it L left∧PartK l pre left∧¬O1 M∧¬O1 it) (fun wr=>wr.rangeLeft M it)
 case atStart=>exact ⟨[],L,O,JJ0.out,RG0.out,HP.out,HOM.out,HOB.out⟩
 case round=>
  obtain ⟨pre,left,O1,hj,hrg,hpt,hom,hoi⟩:=hrel;have JJ:=Hd hj;have RG:=Hd hrg;have LEN:=Hd hrg.left_len;have PT:=Hd hpt;have OM:=Hd hom;have OI:=Hd hoi;clear hj hrg hpt hom hoi;gi_wp2_with (gi_at_next;refine wpListIn_next_raw _ rfl _ (by rfl) M it L left (by rfl) RG.out ?_ ?_)
  ·intro hl;subst hl;gi_wp2
   go_end0
   exact ⟨⟨_,rfl⟩,_,_,PT.out.fin,JJ.out⟩
  intro k x p post w2 hl hm hr2 hg2 hs2 hen2;obtain ⟨i,qa,qb,rfl,rfl,he,hpl,hpt2⟩:=PT.out.step hl;have HLL:=Hd hl;have PT2:=Hd hpt2;have RG2:=Hd hr2;have J2:=Hd (HJ.out _ _ _ _ _ JJ.out (Chg.grown (C:=fun k=>k=it) hg2 (fun k e=>by cases e;rfl)) (fun k hk=>by subst hk;exact ⟨by rw [HIT.out];exact Nat.le_refl _,OI.out⟩));obtain ⟨fn,tmps,assign,body,hy,hR⟩:=HY.out _ _ _ _ ⟨he,hpl⟩ J2.out;dsimp only [encKI] at hy;have HRD:=Hd hR;clear hl hm hr2 hg2 hs2 hpt2 hR;gi_wp2
  refine ⟨fun h=>absurd h (by simp [Fence.wide]),HRD.out.mono ?_⟩;rintro e3 W3 ⟨rfl,O2,hj3,hc3,ho3⟩;have RR:=Hd (show RawRange W3 M it L (p ++ post)∧¬O2 M∧¬O2 it from ⟨RG2.out.kept (hc3.block _ RG2.out.map.lt OM.out) (hc3.block _ (by obtain ⟨_,_,_,_,_,_,_,_,_,q,_⟩:=RG2.out;exact lt_of_blk q) OI.out),(fun q=>by rcases ho3 _ q with q | q;exact OM.out q;have:=RG2.out.map.lt;omega),(fun q=>by rcases ho3 _ q with q | q;exact OI.out q;obtain ⟨_,_,_,_,_,_,_,_,_,q2,_⟩:=RG2.out;have:=lt_of_blk q2;omega)⟩);have J3:=Hd hj3;clear hj3 hc3 ho3;gi_wp2
  go_roundw
  case rel=>exact ⟨_,_,O2,J3.out,RR.out.1,PT2.out,RR.out.2.1,RR.out.2.2⟩
  case measure=>rw [RR.out.1.left_len,LEN.out,HLL.out];simp
end
end Go.Proofs.YtifcdjmcoibblaaGreatDoor
