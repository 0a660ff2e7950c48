/- Tik Dec Lok NewN Sea -/
import Derived.Test.YtifcdjmcoibblaaGreatDoorFq34
import Derived.Test.YtifcdjmcoibblaaGreatDoorFq37
import Derived.Test.YtifcdjmcoibblaaGreatDoorFq20
import Derived.Test.YtifcdjmcoibblaaGreatDoorFq32
import Derived.Test.YtifcdjmcoibblaaGreatDoorFq01
import Derived.Test.YtifcdjmcoibblaaGreatDoorFq11
import Derived.Deep.RegionLaw
import Derived.Deep.RegionHeld3
import Derived.Test.YtifcdjmcoibblaaGreatDoorFq24
import Derived.Test.YtifcdjmcoibblaaGreatDoorFq31
set_option linter.unusedVariables false
set_option linter.unusedSimpArgs false
set_option linter.unusedSectionVars false
set_option maxRecDepth 100000
set_option maxHeartbeats 80000000
namespace Go.Proofs.YtifcdjmcoibblaaGreatDoor
section
open Go.RowKit
theorem decs_len {G:ByteArray→List ByteArray→Prop} {s:StB} (ok:Ok G s) (gl:GLaw G):∀k v,getA k s.decs=some v→v.list.length≤1000:=fun k v e=>
 Nat.le_trans (gl.len _ _ (ok.gi.dg (k,v) (getA_mem e))) (by omega)
theorem own_len {G:ByteArray→List ByteArray→Prop} {s:StB} (ok:Ok G s) (gl:GLaw G) (hm:MeekT G s):∀m∈s.tk2.mine,m.list.length≤1000:=fun m hmm=>by
 have hg:GI szB G s.tk2:=run_G _ (tk1_inv ok.inv) (ok.gi.of rfl rfl ok.gi.vg ok.gi.lg ok.gi.og ok.gi.dg rfl rfl rfl rfl) hm;have ho:=hg.mg m hmm;by_cases h3:m.kind=3
 ·exact Nat.le_trans (gl.len _ _ (ho.prop h3).1) (by omega)
 rw [(ho.vote h3).2.1];exact Nat.zero_le _
theorem mine_slice {R:Nat→Prop} {w:World} {x:Nat} {p:Ptr} {s:StB} (h:NodeP R w x p s):∃ao cap,p.mine = .slice ao s.mine.length cap:=by
 obtain ⟨sls,hA,hown⟩:=h.rest.mine.1;rcases hown.2 with ⟨e,h0⟩ | ⟨g,c,_,e,_⟩
 ·exact ⟨none,0,by rw [e,h0]⟩
 exact ⟨_,_,e⟩
theorem all2_zip {r:Value→MsgB→Prop}:∀{l:List Value} {m:List MsgB},All2 r l m→∀q∈l.zip m,r q.1 q.2
 | _,_,.nil=>fun q hq=>by simp at hq
 | _,_,.cons h1 h2=>fun q hq=>by
  rw [List.zip_cons_cons,List.mem_cons] at hq;rcases hq with rfl | hq
  ·exact h1
  exact all2_zip h2 q hq
def encP (q:Value×MsgB):List Value:=(encM q.2 q.1).toList
theorem encP_len (q:Value×MsgB):(encP q).length=8:=rfl
theorem LRow.below' {w w':World} {v:Value} {l:List ByteArray} (h:LRow (fun c=>c<w.heap.size) w v l) (hb:Below w.heap.size w w'):LRow (fun c=>c<w'.heap.size) w' v l:=
 (h.kept (fun g cur fr hr _=>hb.block g hr)).mono (fun k hk=>Nat.lt_of_lt_of_le hk hb.size)
theorem Kp.of_chg {W W':World} {b:Nat} {cs:Array Value} {fr:Nat×Nat} (h:Chg (fun c=>c=b) W W') (hb:W.heap[b]?=some (.cells cs 36 fr)):Kp W W':=
 ⟨h.size,fun k o hk ho=>by
  rw [h.block k (gE hk).1 (fun e=>by
   subst e;rw [hb] at hk;injection hk with hk
   exact ho _ _ hk.symm)]
  exact hk⟩
theorem addr_block (ad:Addr) (n:Nat):(ad.add n).block=ad.block:=by unfold Addr.add;split <;> rfl
theorem drop8 {W:World} {ad:Addr} {l:List (Value×MsgB)} (h:RowK 8 encP W (some ad) l) (f:Nat):RowK 8 encP W (some (ad.add (f * 8))) (l.drop f):=fun i x hx=>by
 obtain ⟨b,off,e,hb,hc⟩:=h (f+i) x (by rw [List.getElem?_drop] at hx;exact hx);injection e with e
 subst e;refine ⟨b,off+f * 8,by unfold Addr.add;split <;> simp_all,hb,fun j u hu=>?_⟩;have:=hc j u hu;rw [show off+(f+i) * 8+j=off+f * 8+i * 8+j from by omega] at this;exact this
theorem tick_any {G:ByteArray→List ByteArray→Prop} {R:Nat→Prop} {w:World} {x:Nat} {p:Ptr} {s:StB} (h:NodeP R w x p s) (ok:Ok G s) (gl:GLaw G) (hm:MeekT G s) (hq:QuesI s.ques) (hT:s.ticks≤1000000000000) :
  Calls Tryz.prog 18 #[pv x] w fun e w'=>∃v R',e = .returned v∧(∃p',NodeP R' w' x p' s.tick.1)∧Chg R w w'∧Grows R R' w∧OutR R' w w' v s.tick.2:=by
 have AW:=Hd (answers_any h hq ok.inv.num.n1 (decs_len ok gl));have H:=Hd h;have HOK:=Hd ok;have HMK:=Hd hm;clear hm;have tk0:=ok.inv.num.c0;have tk1:=ok.inv.num.c1;clear h ok;unfold pv at *;go_enter Tryz.func18,Tryz.ntmps18
 go_upto_region 4 with ((go_at_call 64;(with_reducible refine AW.out.mono ?_);rintro e w1 ⟨v,rfl,ho,hn,hc⟩;have HO1:=Hd ho;have HN1:=Hd hn;have HC1:=Hd hc;have x0:=hn.nc.c0;clear ho hn hc))
 by_cases hd:s.isDec s.height=true
 ·have HE:=Hd (tick_done hd);have ID:=Hd ((isDecided_any HN1.out s.height).mono (fun e w' q=>show e = .returned (.bool true)∧Below w1.heap.size w1 w' from ⟨by rw [q.1];exact congrArg _ (congrArg _ hd),q.2⟩));clear hd;unfold pv iv at ID;go_wp2_with ((go_at_call 63;(with_reducible refine ID.out.mono ?_);rintro e w2 ⟨rfl,hb⟩))
  go_ret;rw [HE.out];exact ⟨_,R,rfl,⟨p,HN1.out.below hb⟩,HC1.out.trans (Chg.of_below hb (fun k h1 h2=>absurd h1 (by omega))),Grows.refl _ _,HO1.out.later hb⟩
 have hd':s.isDec s.height=false:=by simpa using hd
 have HE:=Hd (tick_open hd');have ID:=Hd ((isDecided_any HN1.out s.height).mono (fun e w' q=>show e = .returned (.bool false)∧Below w1.heap.size w1 w' from ⟨by rw [q.1];exact congrArg _ (congrArg _ hd'),q.2⟩));clear hd hd';unfold pv iv at ID;go_upto_region 6 with ((go_at_call 63;(with_reducible refine ID.out.mono ?_);rintro e w2 ⟨rfl,hb⟩;have HB2:=Hd hb;have HN2:=Hd (HN1.out.below hb);have c4:w2.cell? ⟨x,4,none⟩=some (.int .i64 s.ticks):=HN2.out.nc.c4;have fz:=HN2.out.nc.fz;clear hb x0))
 have HN3:=Hd (HN2.out.set (s':={s with ques:=[],ticks:=s.ticks+1}) (p':=p) 4 (.int .i64 (s.ticks+1)) rfl (fun _ h=>h.same) (fun _ h=>h.same));have HC3:=Hd (show Chg R w1 (w2.setCell ⟨x,4,none⟩ (.int .i64 (s.ticks+1))) from (Chg.of_below HB2.out (fun k h1 h2=>absurd h1 (by omega))).trans ((Chg.set _ x 4 _ H.out.mem).mono (fun _ _ h=>.inl h)));obtain ⟨wt,hwt⟩:∃b,b=s.waiting:=⟨_,rfl⟩;have HWT:=Hd hwt;have WA:=Hd ((isWaiting_any HN3.out HOK.out.inv.num.n1 HOK.out.inv.num.n7 (Nat.le_trans HOK.out.inv.stand_len (by omega))).mono (fun e w' q=>show e = .returned (.bool wt)∧Below (w2.setCell ⟨x,4,none⟩ (.int .i64 (s.ticks+1))).heap.size (w2.setCell ⟨x,4,none⟩ (.int .i64 (s.ticks+1))) w' from ⟨by rw [q.1,hwt];rfl,q.2⟩));clear hwt;unfold pv at WA;go_upto_region 7 with (fail)
 clear c4 fz;go_cut [31] (fun t wc=>t = .bool (!wt)∧NodeP R wc x p {s with ques:=[],ticks:=s.ticks+1}∧Chg R w1 wc)
 case first=>
  go_wp2_with ((go_at_call 65;(with_reducible refine WA.out.mono ?_);rintro e w3 ⟨rfl,hb3⟩))
  go_meet;exact ⟨rfl,HN3.out.below hb3,HC3.out.trans (Chg.of_below hb3 (fun k h1 h2=>absurd h1 (by omega)))⟩
 case rest=>
 obtain ⟨rfl,hn4,hc4⟩:=hcut;obtain ⟨w4,rfl⟩:∃w4:World,w4=wc:=⟨_,rfl⟩;have HN4:=Hd hn4;have HC4:=Hd hc4;clear hn4 hc4 WA HN3 HC3 HN2 HB2 ID;go_upto_if 31 with (fail)
 go_cut [] (fun wc=>NodeP R wc x p s.tk1∧Chg R w1 wc)
 case first=>
  rcases wt with _ | _
  ·have c3:w4.cell? ⟨x,3,none⟩=some (.int .i64 s.clock):=HN4.out.nc.c3;have fz:=HN4.out.nc.fz;go_wp2_with fail
   go_meet;refine ⟨?_,HC4.out.trans ((Chg.set _ x 3 _ H.out.mem).mono (fun _ _ h=>.inl h))⟩;rw [tk1_eq,←HWT.out];exact HN4.out.set (s':={s with ques:=[],ticks:=s.ticks+1,clock:=s.clock+1}) (p':=p) 3 (.int .i64 (s.clock+1)) rfl (fun _ h=>h.same) (fun _ h=>h.same)
  go_wp2_with fail
  go_meet;refine ⟨?_,HC4.out⟩;rw [tk1_eq,←HWT.out];exact HN4.out
 case rest=>
 obtain ⟨hn5,hc5⟩:=hcut;obtain ⟨w5,rfl⟩:∃w5:World,w5=wc:=⟨_,rfl⟩;have HN5:=Hd hn5;have HC5:=Hd hc5;clear hn5 hc5 HN4 HC4 HWT;obtain ⟨mo,mcap,hmo⟩:=mine_slice HN5.out;have c14:=HN5.out.nc.c14;rw [hmo,tk1_mine] at c14;have AP:=Hd (apply_any HN5.out (G:=G) ⟨tk1_inv HOK.out.inv,HOK.out.gi.of rfl rfl HOK.out.gi.vg HOK.out.gi.lg HOK.out.gi.og HOK.out.gi.dg rfl rfl rfl rfl⟩ gl HMK.out);unfold pv at AP;clear hmo;go_upto_region 11 with ((go_at_call 66;(with_reducible refine AP.out.mono ?_);rintro e w6 ⟨rfl,p6,R6,hn6,hc6,hg6⟩;have HN6:=Hd (show NodeP R6 w6 x p6 s.tk2 from hn6);have HC6:=Hd hc6;have HG6:=Hd hg6;have c4:w6.cell? ⟨x,4,none⟩=some (.int .i64 s.tk2.ticks):=hn6.nc.c4;clear hn6 hc6 hg6 c14))
 obtain ⟨tt,htt⟩:∃tt,tt=s.tk2.ticks:=⟨_,rfl⟩;have tt0:0≤tt:=by
  rw [htt];have h1:=(tk2_inv HOK.out.inv).num.c0;have h2:=(tk2_inv HOK.out.inv).num.c1;omega
 obtain ⟨zb,hzb⟩:∃zb,zb=decide (tt % 4=0):=⟨_,rfl⟩;obtain ⟨f,hf⟩:∃f,f=s.tkFrom:=⟨_,rfl⟩;have HF:=Hd (show f=if zb=true then 0 else s.mine.length from by
  rw [hf,hzb,htt];unfold NS.tkFrom;rw [tk1_mine];by_cases q:s.tk2.ticks % 4=0
  ·simp [q]
  simp [q])
 have HFE:=Hd hf;have HFL:=Hd (show f≤s.tk2.mine.length from by rw [hf];exact tkFrom_le HOK.out.inv);rw [←htt] at c4;clear htt hf AP;go_cut [55] (fun t wc=>t = .bool zb∧wc=w6)
 case first=>
  go_wp2_with fail
  go_meet;refine ⟨?_,rfl⟩;rw [hzb];exact congrArg _ (by rw [Bool.eq_iff_iff];simp)
 case rest=>
 obtain ⟨rfl,rfl⟩:=hcut;obtain ⟨w6,rfl⟩:∃w6:World,w6=wc:=⟨_,rfl⟩;go_upto_if 55 with (fail)
 go_cut [4] (fun t wc=>t = .int .i64 (f:Int)∧wc=w6)
 case first=>
  rcases zb with _ | _
  ·go_wp2_with fail
   go_meet;refine ⟨?_,rfl⟩;rw [HF.out];rfl
  go_wp2_with fail
  go_meet;refine ⟨?_,rfl⟩;rw [HF.out];rfl
 case rest=>
 obtain ⟨rfl,rfl⟩:=hcut;obtain ⟨w6,rfl⟩:∃w6:World,w6=wc:=⟨_,rfl⟩;clear c4 hzb HF tt0;obtain ⟨sls,hA,hown⟩:=HN6.out.rest.mine.1;have c14:=HN6.out.nc.c14;obtain ⟨ms,hms⟩:∃ms,ms=s.tk2.mine:=⟨_,rfl⟩;rw [←hms] at hA hown HFL;have HML:=Hd (show ms.length≤400 from by rw [hms];exact (tk2_inv HOK.out.inv).mine_len);have HMS:=Hd hms;have HA:=Hd hA;clear hms hA;go_upto_region 13 with (fail)
 go_cut [62,63,64] (fun t t2 t3 wc=>∃ao cap,t = .slice ao (ms.length - f) cap∧t2 = .int .i64 ((ms.length - f:Nat):Int)∧t3 = .int .i64 0∧RowK 8 encP w6 ao ((sls.zip ms).drop f)∧(∀b off,ao=some ⟨b,off,none⟩→R6 b)∧wc=w6)
 case first=>
  have hzl:(sls.zip ms).length=ms.length:=by rw [List.length_zip,HA.out.len,Nat.min_self]
  obtain ⟨ao,cap,e,hca,hrw⟩:=rowK_of_owns (enc:=encP) (l:=sls.zip ms) encP_len (by decide) hown;rw [hzl] at e hca;have HZ:=Hd hzl;have HRW:=Hd hrw;obtain ⟨hc0,hcl⟩:=hca;rcases ao with _ | ad
  ·rw [e] at c14;obtain rfl:=hc0 rfl;obtain rfl:ms = []:=List.eq_nil_of_length_eq_zero (by omega);have hf0:f=0:=by have:=HFL.out;simpa using this
   subst hf0;clear hown hrw hc0 hcl;go_wp2_with fail
   go_meet;exact ⟨none,0,rfl,rfl,rfl,(fun i y hy=>by simp at hy),(fun b off hb=>by cases hb),rfl⟩
  rw [e] at c14;clear hown hrw hc0 hzl;have hfl:=HFL.out;have hml:=HML.out;go_wp2_with fail
  ·go_meet;refine ⟨_,_,rfl,rfl,rfl,?_,?_,rfl⟩;have:(sls.zip ms).drop f = []:=List.drop_eq_nil_of_le (by have:=HZ.out;omega);rw [this];exact fun i y hy=>by simp at hy
   rintro b off hb;exact HN6.out.rest.mine.2 b (by rw [e];injection hb with hb;simp [Value.ownBlock,hb])
  go_meet;refine ⟨_,_,rfl,rfl,rfl,?_,?_,rfl⟩;exact drop8 HRW.out f;rintro b off hb;refine HN6.out.rest.mine.2 b (by
   rw [e];injection hb with hb
   show some ad.block=some b;rw [←addr_block ad (f * 8),hb])
 case rest=>
  obtain ⟨ao,mcp,rfl,rfl,rfl,hrw,hob,rfl⟩:=hcut;obtain ⟨w6,rfl⟩:∃w6:World,w6=wc:=⟨_,rfl⟩;obtain ⟨zs,hzs⟩:∃zs,zs=(sls.zip ms).drop f:=⟨_,rfl⟩;have hzm:zs.map (·.2)=ms.drop f:=by
   rw [hzs,List.map_drop,List.map_snd_zip (by rw [HA.out.len];exact Nat.le_refl _)]
  have hzl:ms.length - f=zs.length:=by rw [hzs,List.length_drop,List.length_zip,HA.out.len,Nat.min_self]
  have HZA:=Hd (show ∀q∈zs,LRow R6 w6 q.1 q.2.list from fun q hq=>by
   rw [hzs] at hq;exact all2_zip HA.out q (List.mem_of_mem_drop hq))
  have HZL:=Hd (show zs.length≤400 from by have:=HML.out;omega);have HTL:=Hd (show ∀q∈zs,q.2.list.length≤1000 from fun q hq=>by
   have:q.2∈s.tk2.mine:=by
    rw [←HMS.out];exact List.mem_of_mem_drop (hzm ▸ List.mem_map_of_mem hq)
   exact own_len HOK.out gl HMK.out q.2 this)
  rw [←hzs] at hrw;rw [hzl];have HRW:=Hd hrw;have HOB:=Hd hob;have HTM:=Hd (show s.tick=(s.tk2,s.answers ++ s.tk2.sends (zs.map (·.2))) from by rw [HE.out,←HFE.out,hzm,HMS.out]);have hsz1:=HC1.out.size;have hsz5:=HC5.out.size;have hsz6:=HC6.out.size;have hws:w.heap.size≤w6.heap.size:=by omega
  have HO6:=Hd (show OutR R6 (cutW w.heap.size w6) w6 v s.answers from by
   have o1:=HO1.out.other (Z':=R6) (fun k hk _ h2=>by
    rcases HG6.out.2 k hk with q | q
    ·exact q
    exact absurd h2 (by omega))
   have o2:=o1.kept (W':=w6) (by omega) (fun k _ h2 hz=>by
    have a:=HC5.out.block k h2 (fun hr=>hz (HG6.out.1 k hr));have b:=HC6.out.block k (by omega) (fun hr=>hz (HG6.out.1 k hr));exact b.trans a)
   exact o2.rebase (cutW_size hws))
  have HBC:=Hd (show Below (cutW w.heap.size w6).heap.size (cutW w.heap.size w6) w6 from by rw [cutW_size hws];exact cutW_below hws);have HCS:=Hd (cutW_size hws);obtain ⟨wb,hwb⟩:∃wb,wb=cutW w.heap.size w6:=⟨_,rfl⟩;rw [←hwb] at HO6 HBC HCS;have HAL:=Hd (show s.answers.length≤728 from by
   rw [answers_at];have h1:=flat_len hq (sortI (s.ques.map (·.1)));have h2:=hq.len;rw [sortI_len,List.length_map] at h1;omega)
  obtain ⟨AA,hAA⟩:∃AA,AA=s.answers:=⟨_,rfl⟩;rw [←hAA] at HO6 HAL HTM;clear hzs hzm hrw hob hwb hAA hsz1 hsz5 hsz6 HA hown c14 HFL HFE HMS HML HO1 HE AW;go_wp2_with fail
  go_loopw [3,64] (fun v i wr=>∃k:Nat,k≤zs.length∧i = .int .i64 (k:Int)∧OutR R6 wb wr v (AA ++ s.tk2.sends ((zs.take k).map (·.2)))∧Kp w6 wr∧Below wb.heap.size wb wr∧(∀j,R6 j→wr.heap[j]?=w6.heap[j]?)) (fun _ i _=>zs.length - (intOf i).toNat)
  case atStart=>exact ⟨0,Nat.zero_le _,rfl,by simpa [NS.sends] using HO6.out,Kp.refl _,HBC.out,fun _ _=>rfl⟩
  case round=>
   obtain ⟨k,hk,rfl,hor,hkp,hbl,hkr⟩:=hrel;by_cases hlt:k<zs.length
   ·have HNR:=Hd (HN6.out.later hkr hkp.size);obtain ⟨⟨sl,m⟩,hq⟩:∃q,zs[k]?=some q:=⟨zs[k],List.getElem?_eq_getElem hlt⟩;have hmem:(sl,m)∈zs:=List.mem_of_getElem? hq;obtain ⟨lo,lc,hsl,hslr⟩:=id (HZA.out _ hmem);simp only at hsl;subst hsl;have HLM:=Hd (HZA.out _ hmem);obtain ⟨b,off,rfl,hb,hcl⟩:=HRW.out k _ hq;have hbr:=HOB.out b off rfl;have hce:∀(j:Nat) (u:Value),(encM m (.slice lo m.list.length lc)).toList[j]?=some u→wr.cell? ⟨b,off+k * 8+j,none⟩=some u:=fun j u hu=>by
     rw [World.cell?_of_block (w:=w6) (hkr b hbr)];exact hcl j u hu
    have e0:=hce 0 _ rfl;have e1:=hce 1 _ rfl;have e2:=hce 2 _ rfl;have e3:=hce 3 _ rfl;have e4:=hce 4 _ rfl;have e5:=hce 5 _ rfl;have e6:=hce 6 _ rfl;have e7:=hce 7 _ rfl;unfold iv at e0 e1 e2 e3 e4 e5;simp only [Nat.add_zero] at e0;obtain ⟨PRE,hpre⟩:∃PRE,PRE=AA ++ s.tk2.sends ((zs.take k).map (·.2)):=⟨_,rfl⟩;have HTK:=Hd (show AA ++ s.tk2.sends ((zs.take (k+1)).map (·.2))=PRE ++ sendTo s.tk2.id m s.tk2.n.toNat from by
     have:zs.take (k+1)=zs.take k ++ [((.slice lo m.list.length lc:Value),m)]:=by rw [List.take_add_one,hq];rfl
     rw [this,hpre,List.map_append,sends_eq,sends_eq,List.flatMap_append,List.append_assoc];simp)
    have HPL:=Hd (show PRE.length≤4000 from by
     rw [hpre,List.length_append];have h1:=sends_len s.tk2 ((zs.take k).map (·.2));have h2:=(tk2_inv HOK.out.inv).num.n7;have h3:((zs.take k).map (·.2)).length≤400:=by rw [List.length_map,List.length_take];have:=HZL.out;omega
     have h4:=HAL.out;have h5:s.tk2.n.toNat * ((zs.take k).map (·.2)).length≤7 * 400:=Nat.mul_le_mul (by omega) h3;omega)
    rw [←hpre] at hor;have HOR:=Hd hor;have HKP:=Hd hkp;have HBL:=Hd hbl;have HKR:=Hd hkr;have HQ:=Hd hq;have kz:(k:Int)<(zs.length:Int):=by omega
    have k0:(0:Int)≤(k:Int):=by omega
    have k4:(k:Int)<400:=by have:=HZL.out;omega
    clear hpre hor hkp hbl hkr hq hce hcl hslr hbr;go_upto_region 16 with (fail)
    obtain ⟨mb,hmb⟩:∃mb,mb=wr.heap.size:=⟨_,rfl⟩;have HM7:=World.alloc_heap_new wr (.cells (encM m (.slice lo m.list.length lc)) 36);have HB7:=Hd ((Below.refl _ wr).alloc (Nat.le_refl _) (.cells (encM m (.slice lo m.list.length lc)) 36));have hs7:(wr.alloc (.cells (encM m (.slice lo m.list.length lc)) 36)).heap.size=wr.heap.size+1:=by simp
    unfold encM iv at HM7 HB7 hs7;obtain ⟨w7,hw7⟩:∃w7,w7=wr.alloc (.cells #[.int .i64 m.kind,.int .i64 m.frm,.int .i64 m.to,.int .i64 m.height,.int .i64 m.round,.int .i64 m.valid,.string m.dig,.slice lo m.list.length lc] 36):=⟨_,rfl⟩;rw [←hw7] at HM7 HB7 hs7;rw [←hw7,←hmb];rw [←hmb] at HM7;clear hw7;have HMB:=Hd hmb;have HN7:=Hd (HNR.out.below HB7.out);have hw6r:=HKP.out.size;have HO7:=Hd (show OutR (fun c=>R6 c∨c=mb) wb w7 u3 PRE from (HOR.out.other (fun c hc _ h2=>by
     rcases hc with q | q
     ·exact q
     omega)).later HB7.out)
    have HL7:=Hd (show LRow (fun c=>c<w7.heap.size) w7 (.slice lo m.list.length lc) m.list from
     ((HLM.out.kept (w':=wr) (fun g cur fr hr _=>HKR.out g hr)).mono (fun c hc=>Nat.lt_of_lt_of_le (HN6.out.lt c hc) hw6r)).below' HB7.out)
    have HLN:=Hd (show m.list.length≤1000 from by
     have:=HTL.out _ hmem;exact this)
    obtain ⟨nn,hnn⟩:∃nn:Nat,(nn:Int)=s.tk2.n:=⟨s.tk2.n.toNat,by have:=(tk2_inv HOK.out.inv).num.n1;omega⟩;have HNN:=Hd (show s.tk2.n.toNat=nn from by omega);have nn7:(nn:Int)≤7:=by rw [hnn];exact (tk2_inv HOK.out.inv).num.n7
    obtain ⟨me,hme⟩:∃me,me=s.tk2.id:=⟨_,rfl⟩;have HME:=Hd hme;have x17:w7.cell? ⟨x,17,none⟩=some (.int .i64 (nn:Int)):=by rw [hnn];exact HN7.out.nc.c17
    have HRM:=Hd (show ∀c,R6 c→c<mb from fun c hc=>by have:=HN6.out.lt c hc;omega);have HWM:=Hd (show wb.heap.size≤mb from by have:=HBL.out.size;omega);clear hnn hme hmb e0 e1 e2 e3 e4 e5 e6 e7;go_wp2_with fail
    go_loopw [3,72] (fun v i wq=>∃j:Nat,j≤nn∧i = .int .i64 (j:Int)∧OutR (fun c=>R6 c∨c=mb) wb wq v (PRE ++ sendTo me m j)∧Kp w6 wq∧Below wb.heap.size wb wq∧(∀c,R6 c→wq.heap[c]?=w6.heap[c]?)∧(∃t0 ao2 cap2,wq.heap[mb]?=some (.cells (encM (toM m t0) (.slice ao2 m.list.length cap2)) 36 (0,0))∧LRow (fun c=>c<wq.heap.size) wq (.slice ao2 m.list.length cap2) m.list)) (fun _ i _=>nn - (intOf i).toNat)
    case atStart=>
     refine ⟨0,Nat.zero_le _,rfl,by simpa [sendTo] using HO7.out,HKP.out.trans (Kp.of_below HB7.out),HBL.out.trans (HB7.out.mono HBL.out.size),fun c hc=>?_,m.to,lo,lc,HM7,HL7.out⟩;exact (HB7.out.block c (Nat.lt_of_lt_of_le (HN6.out.lt c hc) hw6r)).trans (HKR.out c hc)
    case round=>
     obtain ⟨j,hj,rfl,hoq,hkq,hbq,hrq,t0,ao2,cap2,hmq,hlq⟩:=hrel;obtain ⟨wq,rfl⟩:∃wq:World,wq=wr:=⟨_,rfl⟩;have HNq:=Hd (HN6.out.later hrq hkq.size);have x16:wq.cell? ⟨x,16,none⟩=some (.int .i64 me):=by rw [HME.out];exact HNq.out.nc.c16
     have y0:=cell_of_row wq mb 0 _ _ _ hmq;have y1:=cell_of_row wq mb 1 _ _ _ hmq;have y2:=cell_of_row wq mb 2 _ _ _ hmq;have y3:=cell_of_row wq mb 3 _ _ _ hmq;have y4:=cell_of_row wq mb 4 _ _ _ hmq;have y5:=cell_of_row wq mb 5 _ _ _ hmq;have y6:=cell_of_row wq mb 6 _ _ _ hmq;have y7:=cell_of_row wq mb 7 _ _ _ hmq;have yf:=fun o=>frozen_of_row wq mb o _ _ hmq;simp [encM,iv,toM] at y0 y1 y2 y3 y4 y5 y6 y7;have HOQ:=Hd hoq;have HKQ:=Hd hkq;have HBQ:=Hd hbq;have HRQ:=Hd hrq;have HMQ:=Hd hmq;have HLQ:=Hd hlq;have hsq:=hkq.size;have j0:(0:Int)≤(j:Int):=by omega
     by_cases hjn:j<nn
     ·have j1:(j:Int)<(nn:Int):=by omega
      have j7:(j:Int)<7:=by omega
      by_cases hje:(j:Int)=me
      ·have j2:((j:Int) != me)=false:=by simpa using hje
       have HSS:=Hd (sendTo_same (m:=m) hje);clear hje hoq hkq hbq hrq hmq hlq;go_wp2_with fail
       go_roundw
       case rel=>exact ⟨j+1,by omega,by go_num,by rw [HSS.out];exact HOQ.out,HKQ.out,HBQ.out,HRQ.out,t0,ao2,cap2,HMQ.out,HLQ.out⟩
       case measure=>simp [intOf];omega
      have j2:((j:Int) != me)=true:=by simpa using hje
      have HSS:=Hd (sendTo_next (m:=m) hje);have CL:=Hd (clone_any hlq HLN.out);clear hje hoq hkq hbq hrq hmq hlq;go_upto_region 20 with (fail)
      go_cut [] (fun wc=>∃ao3 cap3,wc.heap[mb]?=some (.cells (encM (toM m (j:Int)) (.slice ao3 m.list.length cap3)) 36 (0,0))∧LRow (fun c=>wq.heap.size≤c∧c<wc.heap.size) wc (.slice ao3 m.list.length cap3) m.list∧Chg (fun c=>c=mb) wq wc)
      case first=>
       go_wp2_with ((go_at_call 67;(with_reducible refine CL.out.mono ?_);rintro e w8 ⟨u,rfl,hrow,hb8⟩;obtain ⟨ao3,cap3,rfl,hcap3,hrw3⟩:=hrow;have HL8:=Hd (show LRow (New wq w8) w8 (.slice ao3 m.list.length cap3) m.list from ⟨ao3,cap3,rfl,hcap3,hrw3⟩);have HB8:=Hd hb8;clear hb8 hcap3 hrw3;have HM8:=Hd ((HB8.out.block mb (gE HMQ.out).1).trans HMQ.out);have k2:=cell_of_row w8 mb 2 _ _ _ HM8.out;have k7:=cell_of_row w8 mb 7 _ _ _ HM8.out;have kf:=fun o=>frozen_of_row w8 mb o _ _ HM8.out;simp [encM,iv,toM] at k2 k7))
       go_meet;have hml:mb<wq.heap.size:=(gE HMQ.out).1;refine ⟨ao3,cap3,heap_setC (heap_setC HM8.out _) _,?_,?_⟩
       ·refine (HL8.out.kept (fun g cur fr hr hc=>?_)).mono (fun c hc=>⟨hc.1,by simpa [World.setCell] using hc.2⟩);have hg:g≠mb:=by have:=hr.1;omega
        rw [Below.heap_setCell _ ⟨mb,7,none⟩ _ g hg,Below.heap_setCell _ ⟨mb,2,none⟩ _ g hg]
       exact (Chg.of_below HB8.out (fun c h1 h2=>absurd h1 (by omega))).trans (((Chg.set (C:=fun c=>c=mb) _ mb 2 _ rfl).trans ((Chg.set (C:=fun c=>c=mb) _ mb 7 _ rfl).mono (fun _ _ h=>.inl h))).mono (fun _ _ h=>.inl h))
      case rest=>
       obtain ⟨ao3,cap3,hm9,hl9,hc9⟩:=hcut;obtain ⟨w9,rfl⟩:∃w9:World,w9=wc:=⟨_,rfl⟩;have HM9:=Hd hm9;have hs9:=hc9.size;have hml:mb<wq.heap.size:=(gE HMQ.out).1;have HO9:=Hd (HOQ.out.kept hs9 (fun c _ h2 hz=>hc9.block c h2 (fun e=>hz (.inr e))));have HB9:=Hd (HBQ.out.trans (hc9.below HBQ.out.size (fun c e=>by rw [e];exact HWM.out)));have HK9:=Hd (HKQ.out.trans (Kp.of_chg hc9 HMQ.out));have HR9:=Hd (show ∀c,R6 c→w9.heap[c]?=w6.heap[c]? from fun c hc=>(hc9.block c (by have:=HRM.out c hc;omega) (fun e=>by have:=HRM.out c hc;omega)).trans (HRQ.out c hc));have HZ9:=Hd (show ∀W2,Below w9.heap.size w9 W2→∀c,(R6 c∨c=mb)→c<W2.heap.size from fun W2 hW c hc=>by
        have h1:=hW.size;rcases hc with q | q
        ·have:=HRM.out c q;omega
        omega)
       have HLW:=Hd (show ∀W2,Below w9.heap.size w9 W2→LRow (NewZ (fun c=>R6 c∨c=mb) wb W2) W2 (.slice ao3 m.list.length cap3) m.list from fun W2 hW=>(hl9.kept (fun g cur fr hr _=>hW.block g hr.2)).mono (fun c hc=>⟨⟨by have:=HBQ.out.size;have:=hc.1;omega,Nat.lt_of_lt_of_le hc.2 hW.size⟩,fun q=>by
        have h1:=hc.1;rcases q with q | q
        ·have:=HRM.out c q;omega
        omega⟩))
       have HL9:=Hd (show LRow (fun c=>c<w9.heap.size) w9 (.slice ao3 m.list.length cap3) m.list from hl9.mono (fun c hc=>hc.2));have HPJ:=Hd (show (PRE ++ sendTo me m j).length≤5000 from by
        have h1:=HPL.out;have h2:=sendTo_len me m j;rw [List.length_append];omega)
       obtain ⟨PJ,hPJ⟩:∃PJ,PJ=PRE ++ sendTo me m j:=⟨_,rfl⟩;rw [←hPJ] at HO9 HPJ;have HPE:=Hd hPJ;clear hPJ hl9 hc9 y0 y1 y2 y3 y4 y5 y6 y7 yf x16 CL HOQ HRQ HBQ HKQ HLQ;have y0:=cell_of_row w9 mb 0 _ _ _ hm9;have y1:=cell_of_row w9 mb 1 _ _ _ hm9;have y2:=cell_of_row w9 mb 2 _ _ _ hm9;have y3:=cell_of_row w9 mb 3 _ _ _ hm9;have y4:=cell_of_row w9 mb 4 _ _ _ hm9;have y5:=cell_of_row w9 mb 5 _ _ _ hm9;have y6:=cell_of_row w9 mb 6 _ _ _ hm9;have y7:=cell_of_row w9 mb 7 _ _ _ hm9;simp [encM,iv,toM] at y0 y1 y2 y3 y4 y5 y6 y7;clear hm9;go_wp2_with (first
        | (refine wpList_push (w:=wb) (wr:=w9) (Z:=fun c=>R6 c∨c=mb) (ms:=PJ) (nw:=[toM m (j:Int)]) (sl2:=[.slice ao3 m.list.length cap3]) rfl (.tmp 87) (.tmp 89) (by rfl) ?_ HO9.out HB9.out ((Below.refl _ w9).alloc (Nat.le_refl _) _) (HZ9.out _ ((Below.refl _ w9).alloc (Nat.le_refl _) _)) ⟨w9.heap.size,0,none⟩ 1 ?_ ?_ ?_ ?_ ?_;(simp [Act.eval,Act.put]);(simp [Act.eval,Act.put]);(exact .cons (HLW.out _ ((Below.refl _ w9).alloc (Nat.le_refl _) _)) .nil);(exact cells_at w9 (flatM [.slice ao3 m.list.length cap3] [toM m (j:Int)]) _ _ rfl);(have:=HPJ.out;simp only [List.length_cons,List.length_nil];omega);intro v10 w10 ho10 hk10 hb10 hz10;have HO10:=Hd ho10;have HK10:=Hd hk10;have HB10:=Hd hb10;have HZ10:=Hd (show ∀c,(R6 c∨c=mb)→w10.heap[c]?=w9.heap[c]? from fun c hc=>(hz10 c hc).trans (Below.heap_alloc w9 _ c (HZ9.out w9 (Below.refl _ w9) c hc)));clear ho10 hk10 hb10 hz10))
       go_roundw
       case rel=>
        refine ⟨j+1,by omega,by go_num,by rw [HSS.out,←List.append_assoc,←HPE.out];exact HO10.out,HK9.out.trans HK10.out,HB10.out,fun c hc=>(HZ10.out c (.inl hc)).trans (HR9.out c hc),(j:Int),ao3,cap3,(HZ10.out mb (.inr rfl)).trans HM9.out,?_⟩;exact (HL9.out.kept (fun g cur fr hr hc=>(HK10.out.block g _ hc (fun c f e=>by injection e with _ e _;exact absurd e (by decide))).trans hc.symm)).mono (fun c hc=>Nat.lt_of_lt_of_le hc HK10.out.size)
       case measure=>simp [intOf];omega
     have j1:¬(j:Int)<(nn:Int):=by omega
     have hjn':j=nn:=by omega
     have HOE:=Hd (show OutR R6 wb wq u3 (AA ++ s.tk2.sends ((zs.take (k+1)).map (·.2))) from by
      rw [HTK.out,HNN.out,←hjn',←HME.out];exact HOQ.out.other (fun c hc _ _=>.inl hc))
     clear hjn' hoq hkq hbq hrq hmq hlq y0 y1 y2 y3 y4 y5 y6 y7 yf x16;go_wp2_with fail
     go_roundw
     case rel=>exact ⟨k+1,by omega,by go_num,HOE.out,HKQ.out,HBQ.out,HRQ.out⟩
     case measure=>simp [intOf];omega
   have hkn:k=zs.length:=by omega
   have kz:¬(k:Int)<(zs.length:Int):=by omega
   rw [hkn,List.take_length] at hor;have HOR:=Hd hor;have HNR:=Hd (HN6.out.later hkr hkp.size);have HCH:=Hd (show Chg R w wr from by
    have c1:=HC1.out;have c5:=HC5.out;have c6:=HC6.out;have b0:=HBC.out;have s1:=c1.size;have s5:=c5.size;have s6:=hkp.size;have s7:=c6.size;refine ⟨?_,?_,?_,by omega,fun c hc hn=>?_⟩
    ·exact hbl.os.trans (b0.os.symm.trans (c6.os.trans (c5.os.trans c1.os)))
    ·exact hbl.tape.trans (b0.tape.symm.trans (c6.tape.trans (c5.tape.trans c1.tape)))
    ·exact hbl.output.trans (b0.output.symm.trans (c6.output.trans (c5.output.trans c1.output)))
    have hcb:c<wb.heap.size:=by rw [HCS.out];exact hc
    exact (hbl.block c hcb).trans ((b0.block c hcb).symm.trans ((c6.block c (by omega) hn).trans ((c5.block c (by omega) hn).trans (c1.block c hc hn)))))
   have HGR:=Hd (show Grows R R6 w from ⟨HG6.out.1,fun c hc=>by
    have s1:=HC1.out.size;have s5:=HC5.out.size;rcases HG6.out.2 c hc with q | q
    ·exact .inl q
    exact .inr (by omega)⟩)
   clear hkn hor hkp hbl hkr;go_wp2
   go_ret;refine ⟨_,rfl,R6,?_⟩;rw [HTM.out];exact ⟨⟨p6,HNR.out⟩,HCH.out,HGR.out,HOR.out.rebase HCS.out.symm⟩
end
section
open Go.RowKit
theorem field_list (a b c:Value) (w:World):(Instr.field 120 (.agg #[a,b,c]) 2).run Tryz.prog w = .ok c w:=by kernel_rfl
def DecE (w:World) (o:Option ValB) (e:Ending) (w':World):Prop:=
 match o with
 | some v=>∃u,e = .returned (.tuple #[u,.bool true])∧LRow (New w w') w' u v.list
 | none=>e = .returned (.tuple #[.slice none 0 0,.bool false])
theorem LRow.wider {w w1 w':World} {v:Value} {l:List ByteArray} (h:LRow (New w1 w') w' v l) (hs:w.heap.size≤w1.heap.size):LRow (New w w') w' v l:=h.mono (fun k hk=>⟨Nat.le_trans hs hk.1,hk.2⟩)
section
variable {R:Nat→Prop} {w:World} {x:Nat} {p:Ptr} {s:StB}
theorem decided_any (h:NodeP R w x p s) (k:Int) (hl:∀v,getA k s.decs=some v→v.list.length≤1000):Calls Tryz.prog 21 #[pv x,iv k] w fun e w'=>DecE w (getA k s.decs) e w'∧Below w.heap.size w w':=by
 have ID:=Hd (isDecided_any h k);have H:=Hd h;clear h;rcases hg:getA k s.decs with _ | v
 ·have HE:s.isDec k=false:=by unfold NS.isDec;rw [hg];rfl
  rw [HE] at ID;clear HE hg hl;unfold pv iv at *;go_enter Tryz.func21,Tryz.ntmps21
  go_wp2_with (go_at_call 63;refine ID.out.mono ?_;rintro e w1 ⟨rfl,hb⟩;have HB:=Hd hb;clear hb)
  go_ret2
  exact ⟨rfl,HB.out⟩
 have HE:s.isDec k=true:=by unfold NS.isDec;rw [hg];rfl
 rw [HE] at ID;have HL:=hl v hg;have HG:=Hd hg;clear HE hg hl;unfold pv iv at ID ⊢;go_enter Tryz.func21,Tryz.ntmps21
 go_upto_region 3 with (go_at_call 63;refine ID.out.mono ?_;rintro e w1 ⟨rfl,hb⟩;have HB:=Hd hb;clear hb)
 have H1:=Hd (H.out.below HB.out);have c18:=H1.out.nc.c18;rcases H1.out.maps.look_decs k false with ⟨q,_⟩ | ⟨v2,u,q,hv,hlk⟩
 ·rw [HG.out] at q;cases q
 have:v2=v:=by rw [HG.out] at q;injection q with q;exact q.symm
 subst this;obtain ⟨sl,rfl,ao,cap,rfl,hcap,hrow⟩:=hv;have CL:=Hd (clone_any (w:=w1) (R:=R) (v:=.slice ao v2.list.length cap) (l:=v2.list) ⟨ao,cap,rfl,hcap,hrow⟩ HL);unfold iv at hlk;simp only [Bool.false_eq_true,if_false] at hlk;have hfl:=field_list (.int .i64 v2.round) (.string v2.dig) (.slice ao v2.list.length cap) w1;clear hcap hrow q;go_wp2_with (go_at_call 67;refine CL.out.mono ?_;rintro e w2 ⟨u2,rfl,hr2,hb2⟩;have HR2:=Hd hr2;have HB2:=Hd hb2;clear hr2 hb2)
 go_ret2
 exact ⟨⟨_,rfl,HR2.out.wider HB.out.size⟩,HB.out.trans (HB2.out.mono HB.out.size)⟩
theorem decided_nil (k:Int) (w:World):Calls Tryz.prog 21 #[.pointer none,.int .i64 k] w fun e w'=>e = .returned (.tuple #[.slice none 0 0,.bool false])∧w'=w:=by
 go_enter Tryz.func21,Tryz.ntmps21
 go_wp2
 go_ret2
 exact ⟨rfl,rfl⟩
end
end
section
open Go.RowKit
section
variable {R:Nat→Prop} {w:World} {x:Nat} {p:Ptr} {s:StB}
def LockE (w:World) (o:Option ValB) (e:Ending) (w':World):Prop:=
 match o with
 | some v=>∃u,e = .returned (.tuple #[.int .i64 v.round,u])∧LRow (New w w') w' u v.list
 | none=>e = .returned (.tuple #[.int .i64 (-1),.slice none 0 0])
theorem lock_any (h:NodeP R w x p s) (hl:∀v,s.lock=some v→v.list.length≤1000):Calls Tryz.prog 31 #[pv x] w fun e w'=>LockE w s.lock e w'∧Below w.heap.size w w':=by
 have H:=Hd h;have c5:=h.nc.c5;have hlk:=h.rest.lock;rcases hp:p.lock with _ | g
 ·rcases hs:s.lock with _ | v
  ·rw [hp] at c5;unfold po at c5;clear h hlk hp hs hl;unfold pv LockE;go_enter Tryz.func31,Tryz.ntmps31
   go_wp2
   go_ret2
   exact ⟨rfl,Below.refl _ _⟩
  rw [hp,hs] at hlk;exact hlk.elim
 rcases hs:s.lock with _ | v
 ·rw [hp,hs] at hlk;exact hlk.elim
 rw [hp,hs] at hlk;obtain ⟨hg,sl,hcell,hrow⟩:=hlk;have HLen:=hl v hs;have CL:=Hd (fun W (hW:Below w.heap.size w W)=>(clone_any (hrow.below H.out.lt hW) HLen).mono (fun e w' q=>show ∃v',e = .returned v'∧LRow (New w w') w' v' v.list∧Below w.heap.size w w' from by
  obtain ⟨v',q1,q2,q3⟩:=q;exact ⟨v',q1,q2.wider hW.size,hW.trans (q3.mono hW.size)⟩))
 obtain ⟨ao,cap,rfl,hcap,hrw⟩:=hrow;rw [hp] at c5;have v0:=cell_of_row w g 0 _ _ _ hcell;have v2:=cell_of_row w g 2 _ _ _ hcell;unfold po pv at c5;simp [iv] at v0 v2;have KEEP:=Hd (show ∀W,Below w.heap.size w W→W.cell? ⟨x,5,none⟩=some (.pointer (some ⟨g,0,none⟩))∧W.cell? ⟨g,0,none⟩=some (.int .i64 v.round)∧W.cell? ⟨g,2,none⟩=some (.slice ao v.list.length cap)∧Below w.heap.size w W from fun W hW=>by
  have hc:=(hW.block g (H.out.lt g hg)).trans hcell;have q:=(H.out.below hW).nc.c5;rw [hp] at q;exact ⟨q,by rw [cell_of_row W g 0 _ _ _ hc];rfl,by rw [cell_of_row W g 2 _ _ _ hc];rfl,hW⟩)
 clear h hcell hcap hrw hp hs hg hl;unfold pv LockE;go_enter Tryz.func31,Tryz.ntmps31
 go_upto_region 5 with (fail)
 go_region_held3 (fun W=>W.cell? ⟨x,5,none⟩=some (.pointer (some ⟨g,0,none⟩))∧W.cell? ⟨g,0,none⟩=some (.int .i64 v.round)∧W.cell? ⟨g,2,none⟩=some (.slice ao v.list.length cap)∧Below w.heap.size w W)
  (first | (exact KEEP.out _ E1) | (exact KEEP.out _ (Below.refl _ w).drew) | (go_split_ands;exact ⟨by assumption,by assumption,by assumption,by assumption⟩))
  (first | (go_at_call 67;refine (CL.out _ ?_).mono ?_;(go_split_ands;assumption);rintro e w2 ⟨u,rfl,hrow,hb⟩;have E1:=hb;have HL2:=Hd hrow;clear hb hrow))
 have HE1:=Hd E1;go_wp2
 go_ret2
 exact ⟨⟨_,rfl,HL2.out⟩,HE1.out⟩
theorem lock_nil (w:World):Calls Tryz.prog 31 #[.pointer none] w fun e w'=>e = .returned (.tuple #[.int .i64 0,.slice none 0 0])∧w'=w:=by
 go_enter Tryz.func31,Tryz.ntmps31
 go_wp2
 go_ret2
 exact ⟨rfl,rfl⟩
end
end
section
open Go.RowKit
theorem new_bad (id n:Int) (w:World) (h:¬(1≤n∧n≤7∧0≤id∧id<n)):Calls Tryz.prog 15 #[.int .i64 id,.int .i64 n] w fun e w'=>e = .returned (.tuple #[.pointer none,.int .i64 2])∧w'=w:=by
 by_cases h1:n<1
 ·clear h;go_enter Tryz.func15,Tryz.ntmps15
  go_wp2
  go_ret2
  exact ⟨rfl,rfl⟩
 by_cases h2:7<n
 ·clear h;go_enter Tryz.func15,Tryz.ntmps15
  go_wp2
  go_ret2
  exact ⟨rfl,rfl⟩
 by_cases h3:id<0
 ·clear h;go_enter Tryz.func15,Tryz.ntmps15
  go_wp2
  go_ret2
  exact ⟨rfl,rfl⟩
 have h4:n≤id:=by omega
 clear h;go_enter Tryz.func15,Tryz.ntmps15
 go_wp2
 go_ret2
 exact ⟨rfl,rfl⟩
def st0:List Value:=[.int .i64 0,.int .i64 0,.int .i64 0,.int .i64 0,.int .i64 0,.pointer none,.pointer none,.pointer none,.map none,.map none,.map none,.slice none 0 0,.pointer none,.map none,.slice none 0 0,.map none]
theorem pre_new (w:World) (id n:Int):PreN (fun k=>w.heap.size≤k∧k<w.heap.size+4)
  ((((w.alloc (Obj.map #[] 0)).alloc (Obj.map #[] 0)).alloc (Obj.map #[] 0)).alloc (.cells (st0 ++ [iv id,iv n,mv w.heap.size,mv (w.heap.size+1),mv (w.heap.size+1+1)]).toArray 117)) (w.heap.size+1+1+1) id n w.heap.size (w.heap.size+1) (w.heap.size+1+1) [] [] [] st0:=by
 have m0:RawMap ((((w.alloc (Obj.map #[] 0)).alloc (Obj.map #[] 0)).alloc (Obj.map #[] 0)).alloc (.cells (st0 ++ [iv id,iv n,mv w.heap.size,mv (w.heap.size+1),mv (w.heap.size+1+1)]).toArray 117)) w.heap.size []:=
  (RawMap.made w).kept (by rw [Below.heap_alloc _ _ _ (by simp only [alloc_sz];omega),Below.heap_alloc _ _ _ (by simp only [alloc_sz];omega),Below.heap_alloc _ _ _ (by simp only [alloc_sz];omega)])
 have m1:RawMap ((((w.alloc (Obj.map #[] 0)).alloc (Obj.map #[] 0)).alloc (Obj.map #[] 0)).alloc (.cells (st0 ++ [iv id,iv n,mv w.heap.size,mv (w.heap.size+1),mv (w.heap.size+1+1)]).toArray 117)) (w.heap.size+1) []:=by
  have:=RawMap.made (w.alloc (Obj.map #[] 0));simp only [alloc_sz] at this;exact this.kept (by rw [Below.heap_alloc _ _ _ (by simp only [alloc_sz];omega),Below.heap_alloc _ _ _ (by simp only [alloc_sz];omega)])
 have m2:RawMap ((((w.alloc (Obj.map #[] 0)).alloc (Obj.map #[] 0)).alloc (Obj.map #[] 0)).alloc (.cells (st0 ++ [iv id,iv n,mv w.heap.size,mv (w.heap.size+1),mv (w.heap.size+1+1)]).toArray 117)) (w.heap.size+1+1) []:=by
  have:=RawMap.made ((w.alloc (Obj.map #[] 0)).alloc (Obj.map #[] 0));simp only [alloc_sz] at this;exact this.kept (Below.heap_alloc _ _ _ (by simp only [alloc_sz];omega))
 refine ⟨rfl,?_,⟨by omega,by omega⟩,⟨[],m0,.nil⟩,m1,m2,by (simp only [List.nodup_cons,List.mem_cons,List.not_mem_nil,or_false,not_or,List.nodup_nil];repeat' (first | omega | refine And.intro ?_ ?_ | trivial)),fun b hb=>?_,fun k hk=>by simp only [alloc_sz];omega⟩
 ·have:=World.alloc_heap_new (((w.alloc (Obj.map #[] 0)).alloc (Obj.map #[] 0)).alloc (Obj.map #[] 0)) (.cells (st0 ++ [iv id,iv n,mv w.heap.size,mv (w.heap.size+1),mv (w.heap.size+1+1)]).toArray 117);simp only [alloc_sz] at this;exact this
 simp only [List.mem_cons,List.not_mem_nil,or_false] at hb;rcases hb with rfl | rfl | rfl <;> constructor <;> omega
def Fresh (w:World) (x:Nat) (s:StB) (w':World):Prop:=∃p R,NodeP R w' x p s∧(∀k,R k→w.heap.size≤k)∧Below w.heap.size w w'
theorem new_any (id n:Int) (w:World) (h1:1≤n) (h7:n≤7) (hi:0≤id) (hin:id<n):Calls Tryz.prog 15 #[.int .i64 id,.int .i64 n] w fun e w'=>∃x,e = .returned (.tuple #[pv x,.int .i64 0])∧Fresh w x (newS id n) w':=by
 have hmm:=@run_makeMap Tryz.prog;have MV:=Hd (move_any (pre_new w id n) h1 h7 0 0 (newS id n) ⟨rfl,rfl,rfl,rfl,rfl⟩);have q1:¬n<1:=by omega
 have q2:¬ 7<n:=by omega
 have q3:¬id<0:=by omega
 have q4:¬n≤id:=by omega
 clear h1 h7 hi hin;unfold pv iv mv st0 at *;simp only [List.cons_append,List.nil_append] at MV;go_enter Tryz.func15,Tryz.ntmps15
 go_wp2_with fail
 refine MV.out.mono ?_;rintro e w1 ⟨rfl,p,R,hn,hc,hg⟩;have HN:=Hd hn;have HC:=Hd hc;have HG:=Hd hg;clear hn hc hg;go_wp2
 go_ret2
 refine ⟨_,rfl,p,R,HN.out,fun k hk=>?_,?_⟩
 ·rcases HG.out.2 k hk with q | q
  ·exact q.1
  simp only [alloc_sz] at q;omega
 refine (((((Below.refl w.heap.size w).alloc (Nat.le_refl _) _).alloc (by simp only [alloc_sz];omega) _).alloc (by simp only [alloc_sz];omega) _).alloc (by simp only [alloc_sz];omega) _).trans (HC.out.below (by simp only [alloc_sz];omega) (fun k hk=>hk.1))
end
section
open Go.RowKit
def Asd (n:Nat) (Rs:Nat→Nat→Prop) (w:World) (k:Nat):Prop:=k<w.heap.size∧¬AllR n Rs k
structure Sail (G:ByteArray→List ByteArray→Prop) (base:Nat) (w:World) (xs:List Nat) (Rs:Nat→Nat→Prop) (w':World) (ss':List StB) (Rs':Nat→Nat→Prop):Prop where
 net:Net G base w' xs ss' Rs'
 chg:Chg (AllR xs.length Rs) w w'
 grow:∀k,AllR xs.length Rs' k→AllR xs.length Rs k∨w.heap.size≤k
 up:∀k,AllR xs.length Rs k→AllR xs.length Rs' k
section
variable {G:ByteArray→List ByteArray→Prop} {base:Nat} {w w' w'':World} {xs:List Nat} {ss ss' ss'':List StB} {Rs Rs' Rs'':Nat→Nat→Prop}
theorem Sail.asd (h:Sail G base w xs Rs w' ss' Rs') {k:Nat} (hk:Asd xs.length Rs w k):Asd xs.length Rs' w' k:=
 ⟨Nat.lt_of_lt_of_le hk.1 h.chg.size,fun hr=>by
  rcases h.grow k hr with q | q
  ·exact hk.2 q
  have:=hk.1;omega⟩
theorem Sail.blk (h:Sail G base w xs Rs w' ss' Rs') {k:Nat} (hk:Asd xs.length Rs w k):w'.heap[k]?=w.heap[k]?:=h.chg.block k hk.1 hk.2
theorem Sail.row (h:Sail G base w xs Rs w' ss' Rs') {v:Value} {l:List ByteArray} (hl:LRow (Asd xs.length Rs w) w v l):LRow (Asd xs.length Rs' w') w' v l:=
 (hl.kept (fun g cur fr hr _=>h.blk hr)).mono (fun k hk=>h.asd hk)
theorem Sail.glob (h:Sail G base w xs Rs w' ss' Rs') (hN:Net G base w xs ss Rs) (hb:0<base) (hw:0<w.heap.size) (hG:Glob w):Glob w':=by
 obtain ⟨t,ht⟩:=hG;refine ⟨t,?_⟩;rw [h.blk ⟨hw,fun hr=>by have:=hN.low hr;omega⟩];exact ht
theorem Sail.refl (hN:Net G base w xs ss Rs):Sail G base w xs Rs w ss Rs:=⟨hN,⟨rfl,rfl,rfl,Nat.le_refl _,fun _ _ _=>rfl⟩,fun k hk=>.inl hk,fun k hk=>hk⟩
theorem Sail.trans (h:Sail G base w xs Rs w' ss' Rs') (h2:Sail G base w' xs Rs' w'' ss'' Rs''):Sail G base w xs Rs w'' ss'' Rs'':=
 ⟨h2.net,h.chg.trans (h2.chg.mono (fun k _ hk=>h.grow k hk)),fun k hk=>by
  rcases h2.grow k hk with q | q
  ·exact h.grow k q
  exact .inr (Nat.le_trans h.chg.size q),fun k hk=>h2.up k (h.up k hk)⟩
theorem Sail.later (h:Sail G base w xs Rs w' ss' Rs') (hb:Below w'.heap.size w' w''):Sail G base w xs Rs w'' ss' Rs':=
 ⟨h.net.later hb,h.chg.trans (Chg.of_below hb (fun k h1 h2=>absurd h1 (by omega))),h.grow,h.up⟩
theorem Asd.later {n k:Nat} (hk:Asd n Rs w k) (hb:w.heap.size≤w'.heap.size):Asd n Rs w' k:=⟨Nat.lt_of_lt_of_le hk.1 hb,hk.2⟩
theorem Asd.fresh (hN:Net G base w xs ss Rs) {k:Nat} (h:New w w' k):Asd xs.length Rs w' k:=⟨h.2,fun hr=>by have:=hN.lt hr;have:=h.1;omega⟩
theorem LRow.aside (hN:Net G base w xs ss Rs) {v:Value} {l:List ByteArray} (h:LRow (New w w') w' v l):LRow (Asd xs.length Rs w') w' v l:=h.mono (fun k hk=>Asd.fresh hN hk)
theorem LRow.asLater {n:Nat} {v:Value} {l:List ByteArray} (h:LRow (Asd n Rs w) w v l) (hb:Below w.heap.size w w'):LRow (Asd n Rs w') w' v l:=
 (h.kept (fun g cur fr hr _=>hb.block g hr.1)).mono (fun k hk=>hk.later hb.size)
variable {i x:Nat} {s:StB}
theorem Net.idx (hN:Net G base w xs ss Rs) (hx:xs[i]?=some x) (hs:ss[i]?=some s):Fit G s:=hN.fit s (List.mem_of_getElem? hs)
theorem Net.sail (hN:Net G base w xs ss Rs) (hb:base≤w.heap.size) (hx:xs[i]?=some x) {s':StB} {R':Nat→Prop} (h:Step (Rs i) w x s' w' R') (hf:Fit G s'):Sail G base w xs Rs w' (ss.set i s') (fun j=>if j=i then R' else Rs j):=by
 have hi:=(List.getElem?_eq_some_iff.1 hx).1;exact ⟨hN.step hb hx h hf,AllR.chg hi h.2.1,fun k hk=>AllR.step hi h.2.2 hk,fun k ⟨j,hj,hr⟩=>⟨j,hj,by
  show (if j=i then R' else Rs j) k;by_cases q:j=i
  ·rw [if_pos q];subst q;exact h.2.2.1 k hr
  rw [if_neg q];exact hr⟩⟩
theorem ntick (gf:GFam G) (hN:Net G base w xs ss Rs) (hb:base≤w.heap.size) (hx:xs[i]?=some x) (hs:ss[i]?=some s) (hm:MeekT G s) (hT:s.ticks≤1000000000000) :
  Calls Tryz.prog 18 #[pv x] w fun e w'=>∃v Rs',e = .returned v∧Sail G base w xs Rs w' (ss.set i s.tick.1) Rs'∧OutR (AllR xs.length Rs') w w' v s.tick.2:=by
 obtain ⟨p,hp⟩:=hN.node i x s hx hs;have hf:=hN.idx hx hs;refine (tick_any hp hf.ok gf.law hm hf.qi.q hT).mono ?_;rintro e w' ⟨v,R',rfl,h1,h2,h3,h4⟩;refine ⟨v,_,rfl,hN.sail hb hx ⟨h1,h2,h3⟩ (hf.tick hm),h4.other (fun k hk k1 k2=>?_)⟩;obtain ⟨j,hj,hr⟩:=hk;by_cases q:j=i
 ·rw [if_pos q] at hr;exact hr
 rw [if_neg q] at hr;have:=hN.lt ⟨j,hj,hr⟩;omega
theorem nrecv {R0:Nat→Prop} {v:Value} {m:MsgB} (gf:GFam G) (hN:Net G base w xs ss Rs) (hb:base≤w.heap.size) (hx:xs[i]?=some x) (hs:ss[i]?=some s) (hm:MsgV R0 w v m) (h0:∀k,R0 k→k<w.heap.size) (hl:m.list.length≤60) (hG:Glob w) (hv:validB m=true→m.kind=3→G m.dig m.list) :
  Calls Tryz.prog 20 #[pv x,v] w fun e w'=>e = .returned (.tuple #[])∧∃Rs',Sail G base w xs Rs w' (ss.set i (s.receive m (validB m))) Rs':=by
 obtain ⟨p,hp⟩:=hN.node i x s hx hs;have hf:=hN.idx hx hs;refine (receive_any hp hm h0 hl hG hf.ok.inv.num (Nat.le_trans hf.ok.inv.order_len.1 (by omega))).mono ?_;rintro e w' ⟨rfl,h1⟩;obtain ⟨R',h2⟩:=h1.step;exact ⟨rfl,_,hN.sail hb hx h2 (hf.receive hv)⟩
theorem nbegin {R0:Nat→Prop} {v:Value} {l:List ByteArray} (gf:GFam G) (hN:Net G base w xs ss Rs) (hb:base≤w.heap.size) (hx:xs[i]?=some x) (hs:ss[i]?=some s) (hr:LRow R0 w v l) (h0:∀k,R0 k→k<w.heap.size) (hl:l.length≤60) (hG:Glob w) (hv:ascS l=true→¬Shy G s.id→G (digV l) l) (height:Int) :
  Calls Tryz.prog 16 #[pv x,iv height,v] w fun e w'=>e = .returned (errE (s.begin height (ascS l) (digV l) l).2)∧∃Rs',Sail G base w xs Rs w' (ss.set i (s.begin height (ascS l) (digV l) l).1) Rs':=by
 obtain ⟨p,hp⟩:=hN.node i x s hx hs;have hf:=hN.idx hx hs;refine (begin_any hp hr h0 hl hG hf.ok.inv.num height).mono ?_;rintro e w' ⟨rfl,h1⟩;obtain ⟨R',h2⟩:=h1.step;exact ⟨rfl,_,hN.sail hb hx h2 (hf.begin gf height (fun _=>.inr (digV_size l)) hv)⟩
theorem naccept (hN:Net G base w xs ss Rs) (hb:base≤w.heap.size) (hx:xs[i]?=some x) (hs:ss[i]?=some s) (d:ByteArray) :
  Calls Tryz.prog 25 #[pv x,.string d] w fun e w'=>e = .returned (.tuple #[])∧∃Rs',Sail G base w xs Rs w' (ss.set i (s.accept d)) Rs':=by
 obtain ⟨p,hp⟩:=hN.node i x s hx hs;have hf:=hN.idx hx hs;refine (accept_any hp d).mono ?_;rintro e w' ⟨rfl,h1⟩;obtain ⟨R',h2⟩:=h1.step;exact ⟨rfl,_,hN.sail hb hx h2 (hf.accept d)⟩
theorem ndecided (gf:GFam G) (hN:Net G base w xs ss Rs) (hx:xs[i]?=some x) (hs:ss[i]?=some s) (k:Int) :
  Calls Tryz.prog 21 #[pv x,iv k] w fun e w'=>DecE w (getA k s.decs) e w'∧Below w.heap.size w w':=by
 obtain ⟨p,hp⟩:=hN.node i x s hx hs;exact decided_any hp k (decs_len (hN.idx hx hs).ok gf.law k)
theorem nlock (gf:GFam G) (hN:Net G base w xs ss Rs) (hx:xs[i]?=some x) (hs:ss[i]?=some s) :
  Calls Tryz.prog 31 #[pv x] w fun e w'=>LockE w s.lock e w'∧Below w.heap.size w w':=by
 obtain ⟨p,hp⟩:=hN.node i x s hx hs;have hf:=hN.idx hx hs;exact lock_any hp (fun v hv=>Nat.le_trans (gf.law.len _ _ (hf.ok.gi.lg v hv)) (by omega))
theorem nround (hN:Net G base w xs ss Rs) (hx:xs[i]?=some x) (hs:ss[i]?=some s) :
  Calls Tryz.prog 23 #[pv x] w fun e w'=>e = .returned (.int .i64 s.round)∧w'=w:=by
 obtain ⟨p,hp⟩:=hN.node i x s hx hs;exact round_any hp
theorem nheight (hN:Net G base w xs ss Rs) (hx:xs[i]?=some x) (hs:ss[i]?=some s) :
  Calls Tryz.prog 24 #[pv x] w fun e w'=>e = .returned (.int .i64 s.height)∧w'=w:=by
 obtain ⟨p,hp⟩:=hN.node i x s hx hs;exact height_any hp
theorem nnew (hN:Net G base w xs ss Rs) (hb:base≤w.heap.size) {id n:Int} (h1:1≤n) (h7:n≤7) (hi:0≤id) (hin:id<n) :
  Calls Tryz.prog 15 #[.int .i64 id,.int .i64 n] w fun e w'=>∃x Rs',e = .returned (.tuple #[pv x,.int .i64 0])∧Net G base w' (xs ++ [x]) (ss ++ [newS id n]) Rs'∧Below w.heap.size w w'∧(∀k,AllR (xs ++ [x]).length Rs' k→AllR xs.length Rs k∨w.heap.size≤k):=by
 refine (new_any id n w h1 h7 hi hin).mono ?_;rintro e w' ⟨x,rfl,p,R,hp,hR,hbl⟩;refine ⟨x,_,rfl,hN.push hbl hp hR (Fit.new hi hin h7) hb,hbl,fun k hk=>?_⟩;obtain ⟨j,hj,hr⟩:=hk;rw [List.length_append,List.length_singleton] at hj;by_cases q:j<xs.length
 ·rw [if_pos q] at hr;exact .inl ⟨j,q,hr⟩
 rw [if_neg q] at hr;exact .inr (hR k hr)
end
end
end Go.Proofs.YtifcdjmcoibblaaGreatDoor
