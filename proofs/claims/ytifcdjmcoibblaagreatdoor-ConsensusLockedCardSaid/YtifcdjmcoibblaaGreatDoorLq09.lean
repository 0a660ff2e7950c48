/- Sit Knw Wai ConO -/
import Derived.Test.YtifcdjmcoibblaaGreatDoorLq08
import Derived.Test.YtifcdjmcoibblaaGreatDoorLq01
import Derived.Test.YtifcdjmcoibblaaGreatDoorLq04
import Derived.Laws.ResultCell
import Derived.Laws.Rows
set_option linter.unusedVariables false
set_option linter.unusedSimpArgs false
set_option linter.unusedSectionVars false
set_option maxRecDepth 100000
set_option maxHeartbeats 80000000
namespace Go.Proofs.YtifcdjmcoibblaaGreatDoor
section
open Go.RowKit
def clo (f:FuncId) (b:Nat):Value:=.func (.func f) #[] #[.pointer (some ⟨b,0,none⟩)]
def siteN (s:StB) (f:Int×Int→Bool):Int:=((s.stand.filter fun p=>f p.2).length:Int)
structure SiteI (R:Nat→Prop) (w:World) (x:Nat) (p:Ptr) (s:StB) (f:Int×Int→Bool) (it:Nat) (c:Int) (lf:List (Int×(Int×Int))) (wr:World):Prop where
 rng:RawRange wr p.stand it (s.stand.map encSt) (lf.map encSt)
 dn:∃dn,(dn ++ lf).Perm s.stand∧c=((dn.filter fun p=>f p.2).length:Int)
 bel:Below w.heap.size w wr
 it:w.heap.size≤it
theorem SiteI.le {R:Nat→Prop} {w wr:World} {x:Nat} {p:Ptr} {s:StB} {f:Int×Int→Bool} {it:Nat} {c:Int} {lf:List (Int×(Int×Int))} (h:SiteI R w x p s f it c lf wr):0≤c∧c≤s.stand.length:=by
 obtain ⟨dn,h1,h2⟩:=h.dn;have:=h1.length_eq;have h3:=List.length_filter_le (fun p=>f p.2) dn;simp at this;omega
theorem SiteI.next {R:Nat→Prop} {w wr w2:World} {x:Nat} {p:Ptr} {s:StB} {f:Int×Int→Bool} {it:Nat} {c:Int} {lf:List (Int×(Int×Int))} (h:SiteI R w x p s f it c lf wr) {k v:Value} {pre post:List (Value×Value)} (hl:lf.map encSt=pre ++ (k,v) :: post) (hr:RawRange w2 p.stand it (s.stand.map encSt) (pre ++ post)) (hg:wr.grownBy w2 (some it)) :
  ∃(a b i:Int) (lf':List (Int×(Int×Int))),k = .int .i64 i∧v = .agg #[.int .i64 a,.int .i64 b]∧lf.length=lf'.length+1∧∀w3,Below w2.heap.size w2 w3→SiteI R w x p s f it (if f (a,b)=true then c+1 else c) lf' w3:=by
 obtain ⟨lp,⟨i,a,b⟩,lq,rfl,e2,rfl,rfl⟩:=map_split hl;obtain ⟨dn,h1,h2⟩:=h.dn;cases e2;have hlt:p.stand<w2.heap.size∧it<w2.heap.size:=⟨hr.map.lt,by obtain ⟨es,clk,since,seen,c0,_,_,_,_,q5,_⟩:=hr;exact (gE q5).1⟩;have hb2:=h.bel.grown hg (by have:=h.bel.size;exact this) (fun k e=>by cases e;exact h.it);refine ⟨a,b,i,lp ++ lq,rfl,rfl,by simp;omega,fun w3 hb=>⟨by rw [List.map_append];exact hr.kept (hb.block _ hlt.1) (hb.block _ hlt.2),⟨dn ++ [(i,(a,b))],?_,?_⟩,hb2.trans (hb.mono hb2.size),h.it⟩⟩
 ·refine List.Perm.trans ?_ h1;rw [List.append_assoc];exact List.Perm.append_left dn (by simpa using (List.perm_middle (a:=(i,(a,b))) (l₁:=lp) (l₂:=lq)).symm)
 rw [List.filter_append,List.length_append,h2];by_cases q:f (a,b)=true <;> simp [q]
section
variable {R:Nat→Prop} {w:World} {x:Nat} {p:Ptr} {s:StB}
theorem sites_any (h:NodeP R w x p s) (fid:FuncId) (bv:Nat) (f:Int×Int→Bool) (eg:∀args w,(callFunc fid args).run Tryz.prog w = .ok (.enter fid args) w) (hst:s.stand.length≤1000)
  (hstep:∀W a b,Below w.heap.size w W→Calls Tryz.prog fid #[.agg #[.int .i64 a,.int .i64 b],.pointer (some ⟨bv,0,none⟩)] W fun e W'=>e = .returned (.bool (f (a,b)))∧Below W.heap.size W W') :
  Calls Tryz.prog 168 #[pv x,clo fid bv] w fun e w'=>e = .returned (.int .i64 (siteN s f))∧Below w.heap.size w w':=by
 have c13:=h.nc.c13;have hfz:=h.nc.fz;have HM:=Hd h.maps.stand;have HS:=Hd hstep;have H:=Hd h;clear h hstep;obtain ⟨LS,hLS⟩:∃LS,LS=s.stand.map encSt:=⟨_,rfl⟩;rw [←hLS] at HM;have HLS:=Hd hLS;clear hLS;unfold pv clo;go_enter Tryz.func168,Tryz.ntmps168
 go_wp2_with (at_range;refine wpList_range_raw _ rfl (.tmp 11) 112 (by rfl) 3 179 Tryz.underlying112 p.stand LS (by rfl) HM.out ?_;intro ob hob;have S0:=Hd (show SiteI R w x p s f w.heap.size 0 s.stand (w.alloc ob) from ⟨HLS.out ▸ hob,⟨[],List.Perm.refl _,rfl⟩,(Below.refl _ _).alloc (Nat.le_refl _) _,Nat.le_refl _⟩);clear hob)
 obtain ⟨it,hit⟩:∃it,w.heap.size=it:=⟨_,rfl⟩;have HIT:=Hd hit;rw [hit] at S0 ⊢;clear hit;go_frame
 go_loopw [4,6] (fun c _ wr=>∃bc lf,c = .int .i64 bc∧SiteI R w x p s f it bc lf wr) (fun _ _ wr=>wr.rangeLeft p.stand it)
 case atStart=>exact ⟨_,_,rfl,S0.out⟩
 case round=>
  obtain ⟨bc,lf,rfl,hr⟩:=hrel;have RR:=Hd hr;have RNG:=Hd hr.rng;have LEN:=Hd hr.rng.left_len;have hle:=hr.le;clear hr;obtain ⟨hl0,hle⟩:=hle;obtain ⟨LL,hLL⟩:∃LL,LL=lf.map encSt:=⟨_,rfl⟩;rw [←hLL,←HLS.out] at RNG;have HLC:=Hd hLL;clear hLL;go_wp2_with (at_next;refine wpList_next_raw _ rfl (.tmp 12) (by rfl) p.stand it LS LL (by rfl) RNG.out ?_ ?_)
  ·intro hl;have hl2:lf = []:=by rw [HLC.out] at hl;simpa using hl
   subst hl2;go_wp2
   go_ret;obtain ⟨dn,p1,p2⟩:=RR.out.dn;rw [List.append_nil] at p1;refine ⟨?_,RR.out.bel⟩;have:(s.stand.filter fun p=>f p.2).length=(dn.filter fun p=>f p.2).length:=(p1.filter _).length_eq.symm;show Ending.returned (Value.int .i64 bc)=_;rw [p2];unfold siteN;rw [this]
  intro k v pre post w2 hl hm hr2 hg2 hs2 hen2;rw [HLS.out] at hr2;obtain ⟨a,b,i,lf',rfl,rfl,hll,hnx⟩:=RR.out.next (HLC.out.symm.trans hl) hr2 hg2;have NX:=Hd hnx;have HLL:=Hd hll;have HB2:=Hd (RR.out.bel.grown hg2 (by have:=RR.out.bel.size;exact this) (fun k e=>by cases e;exact RR.out.it));have ST:=Hd (HS.out (w2.alloc (.cells #[.int .i64 a,.int .i64 b] 179)) a b (HB2.out.alloc HB2.out.size _));clear hl hm hr2 hg2 hs2 hll hnx;have FB:=Hd (fun (w3:World) (hb:Below (w2.alloc (.cells #[.int .i64 a,.int .i64 b] 179)).heap.size (w2.alloc (.cells #[.int .i64 a,.int .i64 b] 179)) w3)=>NX.out w3 (((Below.refl _ w2).alloc (Nat.le_refl _) _).trans (hb.mono (by simp))));clear NX;rcases hf:f (a,b) with _ | _
  ·rw [hf] at FB ST;clear hf;go_wp2_with (refine ST.out.mono ?_;rintro e w3 ⟨rfl,hb⟩;have HB:=Hd hb;clear hb)
   go_roundw
   case rel=>have:=FB.out _ HB.out;exact ⟨_,lf',rfl,this⟩
   case measure=>rw [(FB.out _ HB.out).rng.left_len,LEN.out,List.length_map,List.length_map,HLL.out];omega
  rw [hf] at FB ST;clear hf;go_wp2_with (refine ST.out.mono ?_;rintro e w3 ⟨rfl,hb⟩;have HB:=Hd hb;clear hb)
  go_roundw
  case rel=>have:=FB.out _ HB.out;exact ⟨_,lf',rfl,this⟩
  case measure=>rw [(FB.out _ HB.out).rng.left_len,LEN.out,List.length_map,List.length_map,HLL.out];omega
theorem reached1_any (a b r:Int) (bv:Nat) (W:World) (hb:W.heap[bv]?=some (.cells #[.int .i64 r] 3 (0,0))):Calls Tryz.prog 169 #[.agg #[.int .i64 a,.int .i64 b],.pointer (some ⟨bv,0,none⟩)] W fun e W'=>e = .returned (.bool (decide (r≤a)))∧Below W.heap.size W W':=by
 have c0:=cell_of_row W bv 0 _ _ _ hb;have f0:=frozen_of_row W bv 0 _ _ hb;have c0':=cell_up c0 (.cells #[.int .i64 a,.int .i64 b] 179);simp at c0;clear hb;go_enter Tryz.func169,Tryz.ntmps169
 go_wp2
 go_ret;exact ⟨rfl,by repeat (first | exact Below.refl _ _ | refine below_drewN ?_ _ | refine Below.alloc ?_ (by simp) _ | refine Below.drew ?_)⟩
theorem passed1_any (a b r:Int) (bv:Nat) (W:World) (hb:W.heap[bv]?=some (.cells #[.int .i64 r] 3 (0,0))):Calls Tryz.prog 170 #[.agg #[.int .i64 a,.int .i64 b],.pointer (some ⟨bv,0,none⟩)] W fun e W'=>e = .returned (.bool (decide (r<a) || decide (r≤b)))∧Below W.heap.size W W':=by
 have c0:=cell_of_row W bv 0 _ _ _ hb;have f0:=frozen_of_row W bv 0 _ _ hb;have c0':=cell_up c0 (.cells #[.int .i64 a,.int .i64 b] 179);simp at c0;clear hb;by_cases q:r<a
 ·have HQ:=Hd (show (decide (r<a) || decide (r≤b))=true from by simp [q]);go_enter Tryz.func170,Tryz.ntmps170
  go_wp2
  go_ret;rw [HQ.out];exact ⟨rfl,by repeat (first | exact Below.refl _ _ | refine below_drewN ?_ _ | refine Below.alloc ?_ (by simp) _ | refine Below.drew ?_)⟩
 have HQ:=Hd (show (decide (r<a) || decide (r≤b))=decide (r≤b) from by simp [q]);go_enter Tryz.func170,Tryz.ntmps170
 go_wp2
 go_ret;rw [HQ.out];exact ⟨rfl,by repeat (first | exact Below.refl _ _ | refine below_drewN ?_ _ | refine Below.alloc ?_ (by simp) _ | refine Below.drew ?_)⟩
theorem reached_any (h:NodeP R w x p s) (hst:s.stand.length≤1000) (r:Int):Calls Tryz.prog 114 #[pv x,iv r] w fun e w'=>e = .returned (.int .i64 (s.reached r))∧Below w.heap.size w w':=by
 have eg:∀args w,(callFunc 169 args).run Tryz.prog w = .ok (.enter 169 args) w:=enters_of Tryz.func169 (by kernel_rfl) rfl;have S:=Hd (sites_any (h.up (.cells #[.int .i64 r] 3)) 169 w.heap.size (fun q=>decide (r≤q.1)) eg hst (fun W a b hb=>reached1_any a b r w.heap.size W ((hb.block _ (by simp)).trans (World.alloc_heap_new w _))));have E:=Hd (show siteN s (fun q=>decide (r≤q.1))=s.reached r from rfl);clear eg h;unfold pv iv clo at *;go_enter Tryz.func114,Tryz.ntmps114
 go_wp2_with fail
 refine S.out.mono ?_;rintro e w1 ⟨rfl,hb⟩;have HB:=Hd hb;clear hb;go_wp2
 go_ret;rw [←E.out];exact ⟨rfl,((Below.refl _ w).alloc (Nat.le_refl _) _).trans (HB.out.mono (by simp))⟩
theorem passed_any (h:NodeP R w x p s) (hst:s.stand.length≤1000) (r:Int):Calls Tryz.prog 115 #[pv x,iv r] w fun e w'=>e = .returned (.int .i64 (s.passed r))∧Below w.heap.size w w':=by
 have eg:∀args w,(callFunc 170 args).run Tryz.prog w = .ok (.enter 170 args) w:=enters_of Tryz.func170 (by kernel_rfl) rfl;have S:=Hd (sites_any (h.up (.cells #[.int .i64 r] 3)) 170 w.heap.size (fun q=>decide (r<q.1) || decide (r≤q.2)) eg hst (fun W a b hb=>passed1_any a b r w.heap.size W ((hb.block _ (by simp)).trans (World.alloc_heap_new w _))));have E:=Hd (show siteN s (fun q=>decide (r<q.1) || decide (r≤q.2))=s.passed r from rfl);clear eg h;unfold pv iv clo at *;go_enter Tryz.func115,Tryz.ntmps115
 go_wp2_with fail
 refine S.out.mono ?_;rintro e w1 ⟨rfl,hb⟩;have HB:=Hd hb;clear hb;go_wp2
 go_ret;rw [←E.out];exact ⟨rfl,((Below.refl _ w).alloc (Nat.le_refl _) _).trans (HB.out.mono (by simp))⟩
end
end
section
open Go.RowKit
theorem listOf_coh {D L:Type} [Dg D] [Inhabited L] {x:List (Int×Msg D L)} (h:∀a∈x,∀b∈x,a.2.dig=b.2.dig→a.2.list=b.2.list) {p:Int×Msg D L} (hp:p∈x) {d:D} (hd:p.2.dig=d):listOf d x=some p.2.list:=by
 rcases hl:listOf d x with _ | l
 ·exact absurd hd (listOf_none.1 hl p hp)
 obtain ⟨q,h1,h2,h3⟩:=listOf_mem hl;rw [←h3,h q h1 p hp (h2.trans hd.symm)]
section
variable {D L:Type} [Dg D] [Inhabited L] {s:NS D L} {d:D}
theorem known_l0 (h1:listOf d s.props=none) (h2:listOf d s.claims=none) (h3:s.lock=none):s.known d=none:=by unfold NS.known;simp only [h1,h2,h3]
theorem known_l1 (h1:listOf d s.props=none) (h2:listOf d s.claims=none) {v:Val D L} (h3:s.lock=some v) (h4:v.dig=d):s.known d=some v.list:=by unfold NS.known;simp only [h1,h2,h3,h4,if_true]
theorem known_l2 (h1:listOf d s.props=none) (h2:listOf d s.claims=none) {v:Val D L} (h3:s.lock=some v) (h4:v.dig≠d):s.known d=none:=by unfold NS.known;simp only [h1,h2,h3,h4,if_false]
theorem known_p (h:∀a∈s.props,∀b∈s.props,a.2.dig=b.2.dig→a.2.list=b.2.list) {p:Int×Msg D L} (hp:p∈s.props) (hd:p.2.dig=d):s.known d=some p.2.list:=by unfold NS.known;rw [listOf_coh h hp hd]
theorem known_c (h1:listOf d s.props=none) (h:∀a∈s.claims,∀b∈s.claims,a.2.dig=b.2.dig→a.2.list=b.2.list) {p:Int×Msg D L} (hp:p∈s.claims) (hd:p.2.dig=d):s.known d=some p.2.list:=by unfold NS.known;simp only [h1,listOf_coh h hp hd]
end
theorem beq_ne {a b:ByteArray} (h:a≠b):(a.toList == b.toList)=false:=by
 rw [Bool.eq_false_iff];intro q;exact h ((Lib.bytes_beq_iff _ _).1 q)
def Oth (d:ByteArray) (e:Value×Value):Prop:=∃m:MsgB,∃sl,e.2 = .agg (encM m sl)∧m.dig≠d
theorem listOf_oth {R:Nat→Prop} {w:World} {d:ByteArray} {L:List (Value×Value)} {x:List (Int×MsgB)} (h:All2 (RMsg R w) L x) (ho:∀e∈L,Oth d e):listOf d x=none:=by
 rw [listOf_none];induction h with
 | nil=>intro p hp;cases hp
 | @cons e p L x h1 _ ih=>
  intro q hq;rcases List.mem_cons.1 hq with rfl | hq
  ·obtain ⟨m,sl,e1,e2⟩:=ho e (by simp);obtain ⟨_,sl2,e3,_⟩:=h1;rw [e1] at e3;simp [encM] at e3;rw [←e3.2.2.2.2.2.2.1];exact e2
  exact ih (fun e he=>ho e (by simp [he])) q hq
structure KnI (w:World) (mb it:Nat) (d:ByteArray) (L left:List (Value×Value)) (wr:World):Prop where
 rng:RawRange wr mb it L left
 oth:∀e∈L,e∈left∨Oth d e
 bel:Below w.heap.size w wr
 ge:w.heap.size≤it
theorem RawRange.later {w w':World} {b r:Nat} {L left:List (Value×Value)} (h:RawRange w b r L left) (hb:Below w.heap.size w w'):RawRange w' b r L left:=
 h.kept (hb.block _ h.map.lt) (hb.block _ (by obtain ⟨es,clk,since,seen,c0,_,_,_,_,q5,_⟩:=h;exact (gE q5).1))
theorem KnI.next {w wr w3 w':World} {mb it:Nat} {d:ByteArray} {L left pre post:List (Value×Value)} {k v:Value} (h:KnI w mb it d L left wr) (hl:left=pre ++ (k,v) :: post) (hr:RawRange w3 mb it L (pre ++ post)) (hg:wr.grownBy w3 (some it)) (hb:Below w3.heap.size w3 w') (ho:Oth d (k,v)):KnI w mb it d L (pre ++ post) w':=by
 have hb2:=h.bel.grown hg (by have:=h.bel.size;exact this) (fun k e=>by cases e;exact h.ge);refine ⟨hr.later hb,fun e he=>?_,hb2.trans (hb.mono hb2.size),h.ge⟩;rcases h.oth e he with q | q
 ·rw [hl] at q;rcases List.mem_append.1 q with q | q
  ·exact .inl (by simp [q])
  rcases List.mem_cons.1 q with q | q
  ·rw [q];exact .inr ho
  exact .inl (by simp [q])
 exact .inr q
def KnownE (R:Nat→Prop) (s:StB) (d:ByteArray) (e:Ending) (w':World):Prop:=
 match s.known d with
 | some l=>∃v,e = .returned (.tuple #[v,.bool true])∧LRow R w' v l
 | none=>e = .returned (.tuple #[.slice none 0 0,.bool false])
section
variable {R:Nat→Prop} {w:World} {x:Nat} {p:Ptr} {s:StB}
theorem LRow.below {w':World} {v:Value} {l:List ByteArray} (h:LRow R w v l) (hl:∀k,R k→k<w.heap.size) (hb:Below w.heap.size w w'):LRow R w' v l:=h.kept (fun g _ _ hr _=>hb.block g (hl g hr))
theorem known_any (h:NodeP R w x p s) (hc:CohS s) (d:ByteArray):Calls Tryz.prog 220 #[pv x,.string d] w fun e w'=>KnownE R s d e w'∧Below w.heap.size w w':=by
 have c5:=h.nc.c5;have c9:=h.nc.c9;have c10:=h.nc.c10;have hfz:=h.nc.fz;have H:=Hd h;clear h;unfold pv;go_enter Tryz.func220,Tryz.ntmps220
 go_upto_region 1 with (fail)
 go_region
 obtain ⟨bk,hbk⟩:∃bk,bk=w.heap.size:=⟨_,rfl⟩;have HBK:=Hd hbk;obtain ⟨w2,hw2⟩:∃w2,w2=(w.alloc (Obj.cells #[Value.map (some p.props),Value.map (some p.claims)] 110)).drew:=⟨_,rfl⟩;have HB:=Hd (show Below w.heap.size w w2 from by rw [hw2];exact ((Below.refl _ w).alloc (Nat.le_refl _) _).drew);have HROW:=Hd (show w2.heap[bk]?=some (Obj.cells #[Value.map (some p.props),Value.map (some p.claims)] 110 (0,0)) from by rw [hw2,hbk];exact World.alloc_heap_new w _);have HLT:=Hd (show bk<w2.heap.size from (gE HROW.out).1);have H2:=Hd (H.out.below HB.out);rw [←hbk,←hw2];have HC:=Hd hc;clear c5 c9 c10 hfz hw2 hbk hc;go_wp2_with fail
 go_loopw [22] (fun i wr=>∃k:Nat,k≤2∧i = .int .i64 (k:Int)∧Below w2.heap.size w2 wr∧(1≤k→listOf d s.props=none)∧(2≤k→listOf d s.claims=none)) (fun i _=>2 - (intOf i).toNat)
 case atStart=>exact ⟨0,by omega,rfl,Below.refl _ _,by omega,by omega⟩
 case round=>
  obtain ⟨k,hk,rfl,hb,hp1,hp2⟩:=hrel;have HBR:=Hd hb;have HN:=Hd (H2.out.below hb);have HRW:=Hd ((hb.block bk HLT.out).trans HROW.out);have HP1:=Hd hp1;have HP2:=Hd hp2;have hfz:=frozen_of_row wr bk k _ _ HRW.out;clear hb hp1 hp2;by_cases hlt:k<2
  ·have IN:∃mb ml L,wr.cell? ⟨bk,k,none⟩=some (.map (some mb))∧RawMap wr mb L∧All2 (RMsg R wr) L ml∧(∀q∈ml,q.2.dig=d→s.known d=some q.2.list)∧(listOf d ml=none→(1≤k+1→listOf d s.props=none)∧(2≤k+1→listOf d s.claims=none)):=by
    rcases Nat.lt_or_ge k 1 with q | q
    ·have:k=0:=by omega
     subst this;obtain ⟨L,l1,l2⟩:=HN.out.maps.props;refine ⟨p.props,s.props,L,by rw [cell_of_row wr bk 0 _ _ _ HRW.out];rfl,l1,l2,fun q hq hd=>?_,fun hn=>⟨fun _=>hn,by omega⟩⟩;exact known_p HC.out.p hq hd
    have:k=1:=by omega
    subst this;obtain ⟨L,l1,l2⟩:=HN.out.maps.claims;refine ⟨p.claims,s.claims,L,by rw [cell_of_row wr bk 1 _ _ _ HRW.out];rfl,l1,l2,fun q hq hd=>?_,fun hn=>⟨fun _=>HP1.out (by omega),fun _=>hn⟩⟩;exact known_c (HP1.out (by omega)) HC.out.c hq hd
   obtain ⟨mb,ml,L,ic,im,ia,ih,inn⟩:=IN;have HM:=Hd im;have HA:=Hd ia;have HH:=Hd ih;have HNN:=Hd inn;have k0:(0:Int)≤(k:Int):=by omega
   have k2:(k:Int)<2:=by omega
   clear im ia ih inn;obtain ⟨wk,rfl⟩:∃wk:World,wk=wr:=⟨_,rfl⟩;go_wp2_with (at_range;refine wpList_range_raw _ rfl (.tmp 26) 110 (by rfl) 3 36 Tryz.underlying110 mb L (by rfl) HM.out ?_;intro ob hob;have S0:=Hd (show KnI wk mb wk.heap.size d L L (wk.alloc ob) from ⟨hob,fun e he=>.inl he,(Below.refl _ _).alloc (Nat.le_refl _) _,Nat.le_refl _⟩);clear hob)
   obtain ⟨it,hit⟩:∃it,wk.heap.size=it:=⟨_,rfl⟩;rw [hit] at S0 ⊢;clear hit ic hfz;go_frame
   go_loopw [] (fun wi=>∃left,KnI wk mb it d L left wi) (fun wi=>wi.rangeLeft mb it)
   case atStart=>exact ⟨_,S0.out⟩
   case round=>
    obtain ⟨left,hr⟩:=hrel;have RR:=Hd hr;have RNG:=Hd hr.rng;have LEN:=Hd hr.rng.left_len;clear hr;go_wp2_with (at_next;refine wpList_next_raw _ rfl (.tmp 27) (by rfl) mb it L left (by rfl) RNG.out ?_ ?_)
    ·intro hl;subst hl;have HO:=Hd (HNN.out (listOf_oth HA.out (fun e he=>by rcases RR.out.oth e he with q | q;cases q;exact q)));go_wp2
     go_roundw
     case rel=>exact ⟨k+1,by omega,by go_num,HBR.out.trans (RR.out.bel.mono HBR.out.size),HO.out.1,HO.out.2⟩
     case measure=>simp [intOf];omega
    intro ke v pre post w3 hl hm hr2 hg2 hs2 hen2;obtain ⟨⟨i,m⟩,hmem,hi,sl,hv,hrow⟩:=HA.out.mem_left hm;obtain ⟨ao,cap,hsl,hcap,hrw⟩:=hrow;simp only at hi hv hsl;subst hsl;subst hv;have W3:=Hd (show Below wk.heap.size wk w3 from (RR.out.bel.grown hg2 (by have:=RR.out.bel.size;exact this) (fun k e=>by cases e;exact RR.out.ge)));have HL:=Hd (show LRow R wk (.slice ao m.list.length cap) m.list from ⟨ao,cap,rfl,hcap,hrw⟩);have HR3:=Hd hr2;have HG3:=Hd hg2;have HS3:=Hd hs2;have HLL:=Hd hl;have HMM:=Hd (HH.out _ hmem);obtain ⟨kd,fr,tt,hh,rr,vv,dg,ls⟩:=m;unfold encM iv at hen2 HLL;simp only at hen2 HMM HL HLL;clear hl hm hmem hr2 hg2 hs2 hcap hrw;by_cases hd:dg=d
    ·subst hd;have HE:=Hd (HMM.out rfl);go_wp2
     go_ret2
     have WA:=W3.out.alloc W3.out.size (Obj.cells #[.int .i64 kd,.int .i64 fr,.int .i64 tt,.int .i64 hh,.int .i64 rr,.int .i64 vv,.string dg,.slice ao ls.length cap] 36);exact ⟨by unfold KnownE;rw [HE.out];exact ⟨_,rfl,HL.out.below HN.out.lt WA⟩,HB.out.trans ((HBR.out.trans (WA.mono HBR.out.size)).mono HB.out.size)⟩
    have hne:=beq_ne hd;have NX:=Hd (RR.out.next HLL.out HR3.out HG3.out (w':=w3.alloc (Obj.cells #[.int .i64 kd,.int .i64 fr,.int .i64 tt,.int .i64 hh,.int .i64 rr,.int .i64 vv,.string dg,.slice ao ls.length cap] 36)) ((Below.refl _ _).alloc (Nat.le_refl _) _) ⟨⟨kd,fr,tt,hh,rr,vv,dg,ls⟩,.slice ao ls.length cap,rfl,hd⟩);clear hd;go_wp2
    go_roundw
    case rel=>exact ⟨_,NX.out⟩
    case measure=>rw [NX.out.rng.left_len,LEN.out,HLL.out];simp
  have hk2:k=2:=by omega
  subst hk2;have hl1:=HP1.out (by omega);have hl2:=HP2.out (by omega);have HK1:=Hd hl1;have HK2:=Hd hl2;have HBW:=Hd (HB.out.trans (HBR.out.mono HB.out.size));have c5:=HN.out.nc.c5;have xfz:=HN.out.nc.fz;have hlk:=HN.out.rest.lock;clear hl1 hl2 hfz;rcases hpl:p.lock with _ | g
  ·rcases hsl:s.lock with _ | v
   ·have HE:=Hd (show s.known d=none from known_l0 HK1.out HK2.out hsl);rw [hpl] at c5;unfold po at c5;clear hlk hpl hsl;go_wp2
    go_ret2
    exact ⟨by unfold KnownE;rw [HE.out];rfl,HBW.out⟩
   rw [hpl,hsl] at hlk;exact hlk.elim
  rcases hsl:s.lock with _ | v
  ·rw [hpl,hsl] at hlk;exact hlk.elim
  rw [hpl,hsl] at hlk;obtain ⟨hg,sl,hcell,hrow⟩:=hlk;obtain ⟨ao,cap,rfl,hcap,hrw⟩:=hrow;rw [hpl] at c5;have v1:=cell_of_row wr g 1 _ _ _ hcell;have v2:=cell_of_row wr g 2 _ _ _ hcell;have vf1:=frozen_of_row wr g 1 _ _ hcell;have vf2:=frozen_of_row wr g 2 _ _ hcell;unfold po pv at c5;simp [iv] at v1 v2;have HL:=Hd (show LRow R wr (.slice ao v.list.length cap) v.list from ⟨ao,cap,rfl,hcap,hrw⟩);have HV:=Hd hsl;clear hcell hrw hpl hsl hcap hg;obtain ⟨vr,vd,vl⟩:=v;simp only at v1 v2 HL;by_cases hd:vd=d
  ·subst hd;have HE:=Hd (show s.known vd=some vl from known_l1 HK1.out HK2.out HV.out rfl);go_wp2
   go_ret2
   exact ⟨by unfold KnownE;rw [HE.out];exact ⟨_,rfl,HL.out⟩,HBW.out⟩
  have HE:=Hd (show s.known d=none from known_l2 HK1.out HK2.out HV.out hd);have hne:=beq_ne hd;clear hd;go_wp2
  go_ret2
  exact ⟨by unfold KnownE;rw [HE.out];rfl,HBW.out⟩
theorem results_row_tmp {P:Program} {fn:Func} {p u:Tmp} {ty:TypeId} (h:fn.results = #[.cell p ty,.tmp u]) (tmps:Array Value) (w:World) (g:Nat) (t:TypeId) (cs:Array Value) (fr:Nat×Nat) (d:TypeDesc)
  (hp:tmps.getD p undef = .pointer (some ⟨g,0,none⟩)) (hg:w.heap[g]?=some (.cells cs t fr))
  (hu:P.underlying ty=some d) (hd:(match d with | .struct _ | .array _ _=>true | _=>false)=true) (hi:(P.info? ty).map (·.size)=some cs.size) :
  (results fn tmps).run P w = .ok (.tuple #[.agg cs,tmps.getD u undef]) w:=by
 rw [results_cell_tmp h,hp];simp [asAddr,run_loadVar_row w g t ty cs fr d hg hu hd hi,Result.andThen]
theorem set3 {w:World} {g:Nat} {t:TypeId} {a b c a' b' c':Value} (h:w.heap[g]?=some (.cells #[a,b,c] t (0,0))):(((w.setCell ⟨g,0,none⟩ a').setCell ⟨g,1,none⟩ b').setCell ⟨g,2,none⟩ c').heap[g]?=some (.cells #[a',b',c'] t (0,0)):=
 heap_setC (heap_setC (heap_setC h a') b') c'
theorem below3 {B:Nat} {a w:World} (h:Below B a w) {g:Nat} (hg:B≤g) (a' b' c':Value):Below B a (((w.setCell ⟨g,0,none⟩ a').setCell ⟨g,1,none⟩ b').setCell ⟨g,2,none⟩ c'):=((h.setCell hg a').setCell hg b').setCell hg c'
def ChosenLE (R:Nat→Prop) (s:StB) (kind round:Int) (e:Ending) (w':World):Prop:=
 match s.chosenList kind round with
 | some v=>∃u,e = .returned (.tuple #[u,.bool true])∧ValV R w' u v
 | none=>∃a b ao n cap,e = .returned (.tuple #[.agg #[.int .i64 a,.string b,.slice ao n cap],.bool false])
theorem chosen_most {D L:Type} [Dg D] [Inhabited L] {s:NS D L} {kind round:Int} {d:D} (h:s.chosen kind round=some d):(s.most kind round).1=d:=by
 unfold NS.chosen at h;simp only at h;split at h
 ·cases h;rfl
 cases h
theorem chosenList_none {D L:Type} [Dg D] [Inhabited L] {s:NS D L} {kind round:Int} (h:s.chosen kind round=none):s.chosenList kind round=none:=by unfold NS.chosenList;rw [h]
theorem chosenList_nk {D L:Type} [Dg D] [Inhabited L] {s:NS D L} {kind round:Int} {d:D} (h:s.chosen kind round=some d) (h2:s.known d=none):s.chosenList kind round=none:=by unfold NS.chosenList;simp only [h,h2]
theorem chosenList_some {D L:Type} [Dg D] [Inhabited L] {s:NS D L} {kind round:Int} {d:D} {l:L} (h:s.chosen kind round=some d) (h2:s.known d=some l):s.chosenList kind round=some ⟨round,d,l⟩:=by unfold NS.chosenList;simp only [h,h2]
theorem chosenList_any (h:NodeP R w x p s) (h1:1≤s.n) (h7:s.n≤7) (hc:CohS s) (kind round:Int):Calls Tryz.prog 171 #[pv x,iv kind,iv round] w fun e w'=>ChosenLE R s kind round e w'∧Below w.heap.size w w':=by
 have C:=Hd (chosen_any (h.up (.cells #[.int .i64 0,.string (ByteArray.mk #[]),.slice none 0 0] 120)) h1 h7 kind round);have H:=Hd (h.up (.cells #[.int .i64 0,.string (ByteArray.mk #[]),.slice none 0 0] 120));have HB0:=Hd ((Below.refl _ w).alloc (Nat.le_refl _) (.cells #[.int .i64 0,.string (ByteArray.mk #[]),.slice none 0 0] 120));have HR0:=Hd (World.alloc_heap_new w (.cells #[.int .i64 0,.string (ByteArray.mk #[]),.slice none 0 0] 120));have hR:=h.lt;have HS0:=Hd (show (w.alloc (.cells #[.int .i64 0,.string (ByteArray.mk #[]),.slice none 0 0] 120)).heap.size=w.heap.size+1 from by simp);clear h;unfold pv iv chosenE at *;go_enter Tryz.func171,Tryz.ntmps171
 go_wp2_with fail
 obtain ⟨wa,hwa⟩:∃wa,wa=w.alloc (.cells #[.int .i64 0,.string (ByteArray.mk #[]),.slice none 0 0] 120):=⟨_,rfl⟩;rw [←hwa] at C H HB0 HR0 HS0 ⊢;obtain ⟨vb,hvb⟩:∃vb,vb=w.heap.size:=⟨_,rfl⟩;rw [←hvb] at HR0 HS0 ⊢;have HVB:=Hd hvb;clear hwa hvb;refine C.out.mono ?_;rintro e w1 ⟨rfl,hb⟩;have HB:=Hd hb;have H1:=Hd (H.out.below hb);have HR1:=Hd ((hb.block vb (by have:=HS0.out;omega)).trans HR0.out);have HBW:=Hd (show Below w.heap.size w w1 from HB0.out.trans (hb.mono HB0.out.size));have v0:=cell_of_row w1 vb 0 _ _ _ HR1.out;have v1:=cell_of_row w1 vb 1 _ _ _ HR1.out;have v2:=cell_of_row w1 vb 2 _ _ _ HR1.out;have vf0:=frozen_of_row w1 vb 0 _ _ HR1.out;have vf1:=frozen_of_row w1 vb 1 _ _ HR1.out;have vf2:=frozen_of_row w1 vb 2 _ _ HR1.out;simp at v0 v1 v2;clear hb;rcases hch:s.chosen kind round with _ | d
 ·have HE:=Hd (chosenList_none hch);obtain ⟨md,hmd⟩:∃md,md=(s.most kind round).1:=⟨_,rfl⟩;rw [←hmd];clear hmd hch;go_wp2
  refine bodyPost_ret (results_row_tmp rfl _ _ vb _ _ _ _ rfl (set3 HR1.out) Tryz.underlying120 rfl (by kernel_rfl)) rfl ⟨?_,below3 HBW.out (by rw [HVB.out];exact Nat.le_refl _) _ _ _⟩;unfold ChosenLE;rw [HE.out];exact ⟨_,_,_,_,_,rfl⟩
 have HM:=Hd (chosen_most hch);have K:=Hd (known_any H1.out hc d);obtain ⟨md,hmd⟩:∃md,md=(s.most kind round).1:=⟨_,rfl⟩;rw [←hmd] at HM ⊢;have hmd2:=HM.out;subst hmd2;have HCH:=Hd hch;clear hmd hch;unfold pv at K;go_wp2_with fail
 refine K.out.mono ?_;rintro e w2 ⟨hk,hb⟩;have HB2:=Hd hb;have HR2:=Hd ((hb.block vb (gE HR1.out).1).trans HR1.out);have HBW2:=Hd (HBW.out.trans (hb.mono HBW.out.size));have v0:=cell_of_row w2 vb 0 _ _ _ HR2.out;have v1:=cell_of_row w2 vb 1 _ _ _ HR2.out;have v2:=cell_of_row w2 vb 2 _ _ _ HR2.out;have vf0:=frozen_of_row w2 vb 0 _ _ HR2.out;have vf1:=frozen_of_row w2 vb 1 _ _ HR2.out;have vf2:=frozen_of_row w2 vb 2 _ _ HR2.out;simp at v0 v1 v2;clear hb;unfold KnownE at hk;rcases hkn:s.known md with _ | l
 ·rw [hkn] at hk;simp only at hk;subst hk;have HE:=Hd (chosenList_nk HCH.out hkn);clear hkn;go_wp2
  refine bodyPost_ret (results_row_tmp rfl _ _ vb _ _ _ _ rfl (set3 HR2.out) Tryz.underlying120 rfl (by kernel_rfl)) rfl ⟨?_,below3 HBW2.out (by rw [HVB.out];exact Nat.le_refl _) _ _ _⟩;unfold ChosenLE;rw [HE.out];exact ⟨_,_,_,_,_,rfl⟩
 rw [hkn] at hk;obtain ⟨v,rfl,hrow⟩:=hk;obtain ⟨ao,cap,rfl,hcap,hrw⟩:=hrow;have HL:=Hd (show LRow R w2 (.slice ao l.length cap) l from ⟨ao,cap,rfl,hcap,hrw⟩);have HE:=Hd (chosenList_some HCH.out hkn);have HN2:=Hd (H1.out.below HB2.out);clear hkn hrw hcap;go_wp2
 have BB:=below3 (a:=w2) (Below.refl vb w2) (g:=vb) (Nat.le_refl _) (.int .i64 round) (.string md) (.slice ao l.length cap);refine bodyPost_ret (results_row_tmp rfl _ _ vb _ _ _ _ rfl (set3 HR2.out) Tryz.underlying120 rfl (by kernel_rfl)) rfl ⟨?_,below3 HBW2.out (by rw [HVB.out];exact Nat.le_refl _) _ _ _⟩;unfold ChosenLE;rw [HE.out];exact ⟨_,rfl,_,rfl,HL.out.kept (fun g cur fr hr hg=>((below3 (Below.refl w.heap.size w2) (g:=vb) (by rw [HVB.out];exact Nat.le_refl _) _ _ _).block g (hR g hr)))⟩
end
end
section
open Go.RowKit
section
variable {R:Nat→Prop} {w:World} {x:Nat} {p:Ptr} {s:StB}
theorem isWaiting_any (h:NodeP R w x p s) (h1:1≤s.n) (h7:s.n≤7) (hst:s.stand.length≤1000):Calls Tryz.prog 65 #[pv x] w fun e w'=>e = .returned (.bool s.waiting)∧Below w.heap.size w w':=by
 have Q:=Hd (fun W=>quorum_any s.n W h1 h7);have RE:=Hd (reached_any h hst s.round);have PA:=Hd (passed_any h hst s.round);have H:=Hd h;have c1:=h.nc.c1;have c2:=h.nc.c2;have c17:=h.nc.c17;have hfz:=h.nc.fz;have HW:=Hd (show s.waiting=((decide (s.step=2) && decide (s.reached s.round<quorumN s.n)) || (decide (s.step=4) && decide (s.passed s.round<quorumN s.n))) from rfl);obtain ⟨q,hq⟩:∃q,q=quorumN s.n:=⟨_,rfl⟩;obtain ⟨r,hr⟩:∃q,q=s.reached s.round:=⟨_,rfl⟩;obtain ⟨pa,hp⟩:∃q,q=s.passed s.round:=⟨_,rfl⟩;obtain ⟨st,hs⟩:∃q,q=s.step:=⟨_,rfl⟩;obtain ⟨nn,hn⟩:∃q,q=s.n:=⟨_,rfl⟩;obtain ⟨ro,hro⟩:∃q,q=s.round:=⟨_,rfl⟩;rw [←hq,←hr,←hp,←hs] at HW;rw [←hq,←hn] at Q;rw [←hr,←hro] at RE;rw [←hp,←hro] at PA;rw [←hs] at c2;rw [←hn] at c17;rw [←hro] at c1;have HST:=Hd hs;clear hq hr hp hs hn hro h;unfold pv iv at *;by_cases h2:st=2
 ·subst h2;have e24:((2:Int) == 4)=false:=by decide
  by_cases hl:r<q
  ·have HE:=Hd (show s.waiting=true from by rw [HW.out];simp [hl]);go_enter Tryz.func65,Tryz.ntmps65
   go_wp2_with (first
    | (go_at_call 113;refine (Q.out _).mono ?_;rintro _ _ ⟨rfl,rfl⟩)
    | (go_at_call 114;refine (RE.out).mono ?_;rintro _ w1 ⟨rfl,hb⟩;have HB:=Hd hb;clear hb))
   go_ret;rw [HE.out];exact ⟨rfl,HB.out⟩
  have HE:=Hd (show s.waiting=decide (r<q) from by rw [HW.out];simp [hl]);go_enter Tryz.func65,Tryz.ntmps65
  go_wp2_with (first
   | (go_at_call 113;refine (Q.out _).mono ?_;rintro _ _ ⟨rfl,rfl⟩)
   | (go_at_call 114;refine (RE.out).mono ?_;rintro _ w1 ⟨rfl,hb⟩;have HB:=Hd hb;have d2:=(H.out.below hb).nc.c2;rw [←HST.out] at d2;have dfz:=(H.out.below hb).nc.fz;clear hb))
  go_ret;rw [HE.out];exact ⟨rfl,HB.out⟩
 have e2:(st == 2)=false:=by simpa using h2
 by_cases h4:st=4
 ·subst h4;have HE:=Hd (show s.waiting=decide (pa<q) from by rw [HW.out];simp);go_enter Tryz.func65,Tryz.ntmps65
  go_wp2_with (first
   | (go_at_call 113;refine (Q.out _).mono ?_;rintro _ _ ⟨rfl,rfl⟩)
   | (go_at_call 115;refine (PA.out).mono ?_;rintro _ w1 ⟨rfl,hb⟩;have HB:=Hd hb;clear hb))
  go_ret;rw [HE.out];exact ⟨rfl,HB.out⟩
 have HE:=Hd (show s.waiting=false from by rw [HW.out];simp [h2,h4]);have e4:(st == 4)=false:=by simpa using h4
 go_enter Tryz.func65,Tryz.ntmps65
 go_wp2_with (first
  | (go_at_call 113;refine (Q.out _).mono ?_;rintro _ _ ⟨rfl,rfl⟩))
 go_ret;rw [HE.out];exact ⟨rfl,Below.refl _ _⟩
end
end
section
variable {D L:Type} [Dg D] [Inhabited L]
structure Keep (s s':NS D L):Prop where
 height:s'.height=s.height
 id:s'.id=s.id
 n:s'.n=s.n
 own:s'.own=s.own
 acc:s'.acc=s.acc
 claims:s'.claims=s.claims
 order:s'.order=s.order
 ques:s'.ques=s.ques
 inf:s'.inf=s.inf
 ticks:s'.ticks=s.ticks
 mine:∃t,s'.mine=s.mine ++ t
 round:s.round≤s'.round
 decs:s.isDec s.height=false→∀k v,getA k s.decs=some v→getA k s'.decs=some v
 other:∀k,k≠s.height→getA k s'.decs=getA k s.decs
theorem Keep.refl (s:NS D L):Keep s s:=⟨rfl,rfl,rfl,rfl,rfl,rfl,rfl,rfl,rfl,rfl,⟨[],by simp⟩,Int.le_refl _,fun _ _ _ h=>h,fun _ _=>rfl⟩
theorem say_keep (s:NS D L) (m:Msg D L):Keep s (s.say m):=by
 obtain ⟨hb,e1,e2,e3,e4,e5⟩:=say_same s m;exact ⟨hb.height,hb.id,hb.n,hb.own,hb.acc,hb.claims,hb.order,hb.ques,hb.inf,hb.ticks,⟨_,e4⟩,by rw [e1];exact Int.le_refl _,fun _ k v h=>by rw [hb.decs];exact h,fun _ _=>by rw [hb.decs]⟩
theorem enter_keep {s t:NS D L} (h:Keep s t) (k:Int):Keep s (t.enter k):=⟨h.height,h.id,h.n,h.own,h.acc,h.claims,h.order,h.ques,h.inf,h.ticks,h.mine,h.round,h.decs,h.other⟩
theorem cast_keep (s:NS D L) (k:Int) (d:D) (st:Int):Keep s (s.cast k d st):=enter_keep (say_keep s _) st
theorem isDec_put (s:NS D L) (v:Val D L) (k:Int):getA k (putA s.height v s.decs)=if k=s.height then some v else getA k s.decs:=getA_put _
theorem rule_keep {s s':NS D L} (hr0:0≤s.round) {k:Nat} (he:s.rule k=some s'):Keep s s':=by
 have hdec:∀v:Val D L,Keep s {s with decs:=putA s.height v s.decs}:=fun v=>⟨rfl,rfl,rfl,rfl,rfl,rfl,rfl,rfl,rfl,rfl,⟨[],by simp⟩,Int.le_refl _,fun hd k u hu=>by
  rw [isDec_put];split
  ·rename_i e;subst e
   unfold NS.isDec at hd;rw [hu] at hd;simp at hd
  exact hu,fun k hk=>by rw [isDec_put,if_neg hk]⟩
 have hrd:∀q:Int,s.round≤q→Keep s {s with round:=q}:=fun q hq=>⟨rfl,rfl,rfl,rfl,rfl,rfl,rfl,rfl,rfl,rfl,⟨[],by simp⟩,hq,fun _ _ _ h=>h,fun _ _=>rfl⟩;have trans:∀{a b c:NS D L},Keep a b→Keep b c→a.decs=b.decs→Keep a c:=fun h h2 e=>⟨h2.height.trans h.height,h2.id.trans h.id,h2.n.trans h.n,h2.own.trans h.own,h2.acc.trans h.acc,h2.claims.trans h.claims,h2.order.trans h.order,h2.ques.trans h.ques,h2.inf.trans h.inf,h2.ticks.trans h.ticks,by
  obtain ⟨t,q⟩:=h.mine;obtain ⟨u,q2⟩:=h2.mine;exact ⟨t ++ u,by rw [q2,q,List.append_assoc]⟩,Int.le_trans h.round h2.round,fun hd k v hv=>h2.decs (by unfold NS.isDec at hd ⊢;rw [h.height,←e];exact hd) k v (e ▸ hv),fun k hk=>by rw [h2.other k (by rw [h.height];exact hk),e]⟩
 unfold NS.rule at he;split at he
 ·unfold NS.rDecide at he;split at he
  ·cases he;exact hdec _
  split at he
  ·cases he;exact hdec _
  cases he
 ·unfold NS.rSpread at he;obtain ⟨k,hk,hf,_⟩:=firstR_some he;simp only at hf;split at hf
  ·cases hf;exact say_keep _ _
  cases hf
 ·unfold NS.rValidate at he;obtain ⟨k,hk,hf,_⟩:=firstR_some he;rcases hc:s.chosenList 6 (s.round - k) with _ | v
  ·rw [hc] at hf;cases hf
  rw [hc] at hf;cases hf;exact ⟨rfl,rfl,rfl,rfl,rfl,rfl,rfl,rfl,rfl,rfl,⟨[],by simp⟩,Int.le_refl _,fun _ _ _ h=>h,fun _ _=>rfl⟩
 ·unfold NS.rFollow at he;obtain ⟨k,hk,hf,_⟩:=firstR_some he;split at hf
  ·cases hf;exact trans (hrd (99 - k) (by omega)) (cast_keep _ _ _ _) rfl
  cases hf
 ·unfold NS.rPropose at he;split at he
  ·cases he
  split at he
  ·cases he
  cases he;exact say_keep _ _
 ·unfold NS.rPrevote at he;split at he
  ·cases he
  split at he
  ·cases he
  split at he
  ·cases he
  cases he;exact cast_keep _ _ _ _
 ·unfold NS.rMiss at he;split at he
  ·cases he
  cases he;exact cast_keep _ _ _ _
 ·unfold NS.rKey at he;split at he
  ·cases he
  split at he
  ·cases he
  simp only at he;cases he;split
  ·exact enter_keep (say_keep _ _) 3
  exact say_keep _ _
 ·unfold NS.rWait at he;split at he
  ·cases he
  split at he
  ·cases he;exact enter_keep (Keep.refl s) 3
  split at he
  ·cases he;exact cast_keep _ _ _ _
  cases he
 ·unfold NS.rSeal at he;split at he
  ·cases he
  rename_i v hv
  split at he
  ·cases he
  cases he;exact @trans s ({s with lock:=some v}:NS D L) _ ⟨rfl,rfl,rfl,rfl,rfl,rfl,rfl,rfl,rfl,rfl,⟨[],by simp⟩,Int.le_refl _,fun _ _ _ h=>h,fun _ _=>rfl⟩ (cast_keep ({s with lock:=some v}:NS D L) 5 v.dig 4) rfl
 ·unfold NS.rLeave at he;split at he
  ·cases he
  cases he;exact cast_keep _ _ _ _
 ·unfold NS.rNext at he;split at he
  ·cases he
  cases he;exact enter_keep (hrd _ (by omega)) 1
 cases he
theorem Keep.trans {a b c:NS D L} (h:Keep a b) (h2:Keep b c) (hd2:b.isDec b.height=true→c=b):Keep a c:=by
 rcases hb:b.isDec b.height with _ | _
 ·refine ⟨h2.height.trans h.height,h2.id.trans h.id,h2.n.trans h.n,h2.own.trans h.own,h2.acc.trans h.acc,h2.claims.trans h.claims,h2.order.trans h.order,h2.ques.trans h.ques,h2.inf.trans h.inf,h2.ticks.trans h.ticks,?_,Int.le_trans h.round h2.round,fun hd k v hv=>h2.decs hb k v (h.decs hd k v hv),fun k hk=>by rw [h2.other k (by rw [h.height];exact hk),h.other k hk]⟩;obtain ⟨t,q⟩:=h.mine;obtain ⟨u,q2⟩:=h2.mine;exact ⟨t ++ u,by rw [q2,q,List.append_assoc]⟩
 rw [hd2 hb];exact h
theorem run_keep {sz:D→Prop}:∀(k:Nat) {s:NS D L},InvS sz s→Keep s (NS.runS k s)
 | 0,s,_=>Keep.refl s
 | k+1,s,h=>by
  unfold NS.runS;split
  ·exact Keep.refl s
  rcases he:s.stepS with _ | t
  ·exact Keep.refl s
  obtain ⟨j,_,hj,_⟩:=firstR_some he;exact (rule_keep h.num.r0 hj).trans (run_keep k (step_inv h he).1) (fun hd=>run_dec k hd)
structure TickK (s s':NS D L):Prop where
 height:s'.height=s.height
 id:s'.id=s.id
 n:s'.n=s.n
 own:s'.own=s.own
 acc:s'.acc=s.acc
 claims:s'.claims=s.claims
 order:s'.order=s.order
 ques:s'.ques = []
 inf:s'.inf=s.inf
 ticks:s'.ticks≤s.ticks+1
 mine:∃t,s'.mine=s.mine ++ t
 round:s.round≤s'.round
 decs:∀k v,getA k s.decs=some v→getA k s'.decs=some v
 other:∀k,k≠s.height→getA k s'.decs=getA k s.decs
theorem tick_keep {sz:D→Prop} {s:NS D L} (h:InvS sz s):TickK s s.tick.1:=by
 unfold NS.tick;simp only;split
 ·exact ⟨rfl,rfl,rfl,rfl,rfl,rfl,rfl,rfl,rfl,by show s.ticks≤_;omega,⟨[],by simp⟩,Int.le_refl _,fun _ _ h=>h,fun _ _=>rfl⟩
 rename_i hd
 have hk:=run_keep (({s with ques:=[]}:NS D L).ticked.mu+2) (ticked_inv (noques_inv h));have hd':s.isDec s.height=false:=by
  rcases q:s.isDec s.height with _ | _
  ·rfl
  exact absurd q hd
 exact ⟨hk.height,hk.id,hk.n,hk.own,hk.acc,hk.claims,hk.order,hk.ques,hk.inf,Int.le_of_eq hk.ticks,hk.mine,hk.round,hk.decs hd',hk.other⟩
theorem InvS.once {sz:D→Prop} {s:NS D L} (h:InvS sz s):∀a∈s.mine,∀b∈s.mine,a.kind=b.kind→a.round=b.round→a=b:=by
 intro a ha b hb e1 e2;have hn:=h.min.nodup;rw [h.min.made] at hn;obtain ⟨i,hi,rfl⟩:=List.mem_iff_getElem.1 ha;obtain ⟨j,hj,rfl⟩:=List.mem_iff_getElem.1 hb;have:i=j:=by
  rcases Nat.lt_trichotomy i j with q | q | q
  ·have:=List.pairwise_iff_getElem.1 hn i j (by simpa using hi) (by simpa using hj) q;simp [e1,e2] at this
  ·exact q
  have:=List.pairwise_iff_getElem.1 hn j i (by simpa using hj) (by simpa using hi) q;simp [e1,e2] at this
 subst this;rfl
end
end Go.Proofs.YtifcdjmcoibblaaGreatDoor
