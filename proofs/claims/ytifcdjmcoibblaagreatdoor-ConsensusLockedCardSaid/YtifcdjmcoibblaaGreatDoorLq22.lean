/- Put2 Mine Plk -/
import Derived.Test.YtifcdjmcoibblaaGreatDoorLq21
import Derived.Test.YtifcdjmcoibblaaGreatDoorLq01
set_option linter.unusedVariables false
set_option linter.unusedSimpArgs false
set_option linter.unusedSectionVars false
set_option maxRecDepth 100000
set_option maxHeartbeats 80000000
namespace Go.Proofs.YtifcdjmcoibblaaGreatDoor
section
open Go.RowKit
section
variable {D L:Type} [Dg D] [Inhabited L] {s:NS D L} {m:Msg D L}
theorem putVote_old (h:(getA (m.frm,m.kind,m.height,m.round) s.votes).isNone=false):s.putVote m=s:=by
 unfold NS.putVote;rcases hg:getA (m.frm,m.kind,m.height,m.round) s.votes with _ | d
 ·rw [hg] at h;cases h
 rfl
theorem putVote_new (h:(getA (m.frm,m.kind,m.height,m.round) s.votes).isNone=true):s.putVote m = {s with votes:=putA (m.frm,m.kind,m.height,m.round) m.dig s.votes,stand:=putA m.frm (max ((getA m.frm s.stand).getD (-1,-1)).1 m.round,if m.kind=5 then max ((getA m.frm s.stand).getD (-1,-1)).2 m.round else ((getA m.frm s.stand).getD (-1,-1)).2) s.stand}:=by
 unfold NS.putVote;rcases hg:getA (m.frm,m.kind,m.height,m.round) s.votes with _ | d
 ·rfl
 rw [hg] at h;cases h
end
theorem max_if (a b:Int):max a b=(if a<b then b else a):=by omega
theorem NodeP.lay_stand {R:Nat→Prop} {w:World} {x:Nat} {p:Ptr} {s:StB} (h:NodeP R w x p s) (k a b:Int) :
  ∃o,(Instr.mapUpdate 112 (.map (some p.stand)) (.int .i64 k) (.agg #[.int .i64 a,.int .i64 b])).run Tryz.prog w = .ok () (w.putObj p.stand o)∧NodeP R (w.putObj p.stand o) x p {s with stand:=putA k (a,b) s.stand}:=by
 obtain ⟨o,h1,h2⟩:=h.maps.stand.update (P:=Tryz.prog) keyI Tryz.underlying112 (good_st w _) (x:=iv k) ⟨k,rfl⟩ (plv (a,b));refine ⟨o,h1,?_⟩;have h3:=h2 _ (World.putObj_heap_same (o:=o) h.maps.stand.lt);rw [putV_enc (ek:=iv) (ev:=fun _=>plv) encSt_eq iv_inj] at h3;exact h.put_stand (fun k _ hk=>World.putObj_heap_other hk) (by simp [World.putObj]) h3
theorem NodeP.box_put {R:Nat→Prop} {w w':World} {x:Nat} {p:Ptr} {s:StB} (h:NodeP R w x p s) {k:Bal} {d:ByteArray} (hc:Chg (fun b=>b=p.votes) w w') (hm:RawMap w' p.votes ((putA k d s.votes).map encVt)):NodeP R w' x p {s with votes:=putA k d s.votes}:=
 h.put_votes (fun b hb hn=>hc.block b hb hn) hc.size hm
theorem LRow.chg {R:Nat→Prop} {w w':World} {v:Value} {l:List ByteArray} (h:LRow R w v l) {b:Nat} {es:Array MapEntry} {c:Nat} (hb:w.heap[b]?=some (.map es c)) (hc:Chg (fun k=>k=b) w w'):LRow R w' v l:=
 h.kept (fun g cur fr _ hg=>hc.block g (gE hg).1 (fun e=>by subst e;rw [hb] at hg;cases hg))
theorem put_any {R R0:Nat→Prop} {w:World} {x:Nat} {p:Ptr} {s:StB} {v:Value} {m:MsgB} (h:NodeP R w x p s) (hm:MsgV R0 w v m) (h0:∀k,R0 k→k<w.heap.size) (hl:m.list.length≤60) (hv:voteB m.kind=true) (hok:validB m=true) (hn:m.frm<s.n) :
  Calls Tryz.prog 75 #[pv x,v] w fun e w'=>e = .returned (.tuple #[])∧Turned R w x (s.putVote m) w':=by
 obtain ⟨sl,rfl,ao,cap,rfl,hcap,hrow⟩:=hm;obtain ⟨mb,hmb⟩:∃mb,mb=w.heap.size:=⟨_,rfl⟩;have HMB:=Hd hmb;have HB0:=Hd ((Below.refl _ w).alloc (Nat.le_refl _) (.cells (encM m (.slice ao m.list.length cap)) 36));have HR0:=Hd (World.alloc_heap_new w (.cells (encM m (.slice ao m.list.length cap)) 36));have HN0:=Hd (h.below HB0.out);have HRL:=Hd h.lt;have AD:=Hd (show ∀W,Below w.heap.size w W→Calls Tryz.prog 132 #[pv p.box,.agg (encM m (.slice ao m.list.length cap))] W (addP W p.votes s.votes (m.frm,m.kind,m.height,m.round) m.dig) from fun W hW=>
  badd_any (R:=R0) (m:=m) ((h.below hW).boxAt) ⟨_,rfl,LRow.below ⟨ao,cap,rfl,hcap,hrow⟩ h0 hW⟩ (fun k hk=>Nat.lt_of_lt_of_le (h0 k hk) hW.size) hl hv hok hn)
 clear hrow hcap hmb h0 hok hn h;unfold encM iv pv at *;go_enter Tryz.func75,Tryz.ntmps75
 go_upto_region 1 with (fail)
 obtain ⟨wa,hwa⟩:∃wa,wa=w.alloc (.cells #[.int .i64 m.kind,.int .i64 m.frm,.int .i64 m.to,.int .i64 m.height,.int .i64 m.round,.int .i64 m.valid,.string m.dig,.slice ao m.list.length cap] 36):=⟨_,rfl⟩;rw [←HMB.out] at HR0 ⊢;rw [←hwa] at HB0 HR0 HN0 ⊢;clear hwa;obtain ⟨c0,c1,c2,c3,c4,c5,c6,c7,fz⟩:=MRow.of HR0.out;have c12:=HN0.out.nc.c12;have xfz:=HN0.out.nc.fz;have A1:=Hd (AD.out wa.drew (HB0.out.drew));clear AD;go_cut [13] (fun t wc=>t = .bool (getA (m.frm,m.kind,m.height,m.round) s.votes).isSome∧RawMap wc p.votes ((if (getA (m.frm,m.kind,m.height,m.round) s.votes).isNone=true then putA (m.frm,m.kind,m.height,m.round) m.dig s.votes else s.votes).map encVt)∧Chg (fun b=>b=p.votes) wa.drew wc)
 case first=>
  go_region_law (go_simp;go_at_call 132;(with_reducible refine (A1.out).mono ?_);rintro e w1 ⟨rfl,hvm,hch⟩;have HVM:=Hd hvm;have HCH:=Hd hch;clear hvm hch)
  all_goals (go_wp2_with fail;go_meet;exact ⟨by simp,HVM.out,HCH.out⟩)
 case rest=>
  obtain ⟨rfl,hvm,hch⟩:=hcut;obtain ⟨w1,rfl⟩:∃w1:World,w1=wc:=⟨_,rfl⟩;have HVM:=Hd hvm;have HCH:=Hd hch;have hml:mb<wa.heap.size:=(gE HR0.out).1;have hne:mb≠p.votes:=by have:=HMB.out;have h2:=HRL.out p.votes (HN0.out.maps.own _ (by simp [Ptr.maps]));omega
  have HR1:=Hd ((hch.block mb hml hne).trans HR0.out);clear hvm hch c0 c1 c2 c3 c4 c5 c6 c7 fz c12 xfz hml hne;rcases hg:getA (m.frm,m.kind,m.height,m.round) s.votes with _ | d
  ·have HG:=Hd hg;rw [hg] at HVM;simp only [Option.isNone_none,if_true] at HVM;clear hg;have HN1:=Hd (HN0.out.drew.box_put HCH.out HVM.out);obtain ⟨c0,c1,c2,c3,c4,c5,c6,c7,fz⟩:=MRow.of HR1.out;have c13:=HN1.out.nc.c13;have xfz:=HN1.out.nc.fz;have HN2:=Hd (HN1.out.up (.cells #[.int .i64 0,.int .i64 0] 179));have c1a:=cell_up c1 (.cells #[.int .i64 0,.int .i64 0] 179);have c13a:=cell_up c13 (.cells #[.int .i64 0,.int .i64 0] 179);have hlk:=HN2.out.drew.maps.look_stand m.frm;have hlkb:=HN1.out.drew.maps.look_stand m.frm;simp only at hlk hlkb c13;obtain ⟨⟨q0,q1⟩,hq⟩:∃q,(getA m.frm s.stand).getD (0,0)=q:=⟨_,rfl⟩;obtain ⟨io,hio⟩:∃q,(getA m.frm s.stand).isSome=q:=⟨_,rfl⟩;rw [hq,hio] at hlk hlkb;have HQ:=Hd hq;have HIO:=Hd hio;unfold plv iv at hlk hlkb;simp only at hlk hlkb;clear hq hio;obtain ⟨sb,hsb⟩:∃sb,sb=w1.heap.size:=⟨_,rfl⟩;have HSB:=Hd hsb;clear hsb;go_upto_region 2 with (fail)
   go_cut [4,5] (fun t4 t5 wc=>t4 = .pointer (some ⟨sb,0,none⟩)∧t5 = .bool io∧wc.heap[sb]?=some (.cells #[.int .i64 q0,.int .i64 q1] 179 (0,0))∧Below w1.heap.size w1 wc)
   case first=>
    go_region
    all_goals (go_wp2_with fail;go_meet;rw [HSB.out];exact ⟨rfl,rfl,World.alloc_heap_new w1 _,((Below.refl _ w1).alloc (Nat.le_refl _) _).drew⟩)
   case rest=>
    obtain ⟨rfl,rfl,hrow2,hb2⟩:=hcut;obtain ⟨w2,rfl⟩:∃w2:World,w2=wc:=⟨_,rfl⟩;have HROW2:=Hd hrow2;have HB2:=Hd hb2;clear hrow2 hb2 hlk hlkb c0 c1 c2 c3 c4 c5 c6 c7 fz c13 xfz c1a c13a HN2;obtain ⟨⟨a0,a1⟩,ha⟩:∃q,(getA m.frm s.stand).getD (-1,-1)=q:=⟨_,rfl⟩;have HA:=Hd ha;clear ha;have s0:=cell_of_row w2 sb 0 _ _ _ HROW2.out;have s1:=cell_of_row w2 sb 1 _ _ _ HROW2.out;have sf:=fun o=>frozen_of_row w2 sb o _ _ HROW2.out;simp at s0 s1;have HIO2:=Hd (show (io=true→q0=a0∧q1=a1)∧(io=false→a0 = -1∧a1 = -1) from by
     have h1:=HQ.out;have h2:=HIO.out;have h3:=HA.out;rcases hgs:getA m.frm s.stand with _ | q
     ·rw [hgs] at h2 h3;simp at h2 h3;subst h2;exact ⟨fun q=>(by cases q),fun _=>⟨h3.1.symm,h3.2.symm⟩⟩
     rw [hgs] at h1 h2 h3;simp at h1 h2 h3;subst h2;rw [h1] at h3;simp at h3;exact ⟨fun _=>h3,fun q=>(by cases q)⟩)
    have HA2:=Hd HA.out;clear HQ HIO HA;obtain ⟨mc0,mc1,mc2,mc3,mc4,mc5,mc6,mc7,mfz⟩:=MRow.of ((HB2.out.block mb (gE HR1.out).1).trans HR1.out);have hmb:mb≠sb:=by have:=(gE HR1.out).1;have:=HSB.out;omega
    rcases io with _ | _
    ·have HA3:=Hd (show (getA m.frm s.stand).getD (-1,-1)=((-1),(-1)) from by rw [HA2.out];rw [(HIO2.out.2 rfl).1,(HIO2.out.2 rfl).2]);clear HIO2 HA2;go_upto_region 5 with (fail)
     go_cut [] (fun wc=>wc.heap[sb]?=some (.cells #[.int .i64 (max (-1) m.round),.int .i64 (-1)] 179 (0,0))∧Below w1.heap.size w1 wc)
     case first=>
      go_wp2
      go_meet;exact ⟨heap_setC (heap_setC (heap_setC HROW2.out _) _) _,((HB2.out.setCell (by rw [HSB.out];exact Nat.le_refl _) _).setCell (by rw [HSB.out];exact Nat.le_refl _) _).setCell (by rw [HSB.out];exact Nat.le_refl _) _⟩
     case rest=>
      obtain ⟨hrw,hbw⟩:=hcut;obtain ⟨wv,rfl⟩:∃wv:World,wv=wc:=⟨_,rfl⟩;obtain ⟨b0,hb0⟩:∃b0,b0=(max (-1) m.round):=⟨_,rfl⟩;rw [←hb0] at hrw;have HB0E:=Hd hb0;have HRW:=Hd hrw;have HBW:=Hd hbw;clear hrw hbw hb0 s0 s1 sf mc0 mc1 mc2 mc3 mc4 mc5 mc6 mc7 mfz;obtain ⟨mc0,mc1,mc2,mc3,mc4,mc5,mc6,mc7,mfz⟩:=MRow.of ((HBW.out.block mb (gE HR1.out).1).trans HR1.out);by_cases k5:m.kind=5
      ·have e5:(m.kind == 5)=true:=by simpa using k5
       have s0:=cell_of_row wv sb 0 _ _ _ HRW.out;have s1:=cell_of_row wv sb 1 _ _ _ HRW.out;have sf:=fun o=>frozen_of_row wv sb o _ _ HRW.out;simp at s0 s1;go_upto_region 7 with (fail)
       go_cut [] (fun wc=>wc.heap[sb]?=some (.cells #[.int .i64 b0,.int .i64 (max (-1) m.round)] 179 (0,0))∧Below w1.heap.size w1 wc)
       case first=>
        go_wp2
        go_meet;exact ⟨heap_setC HRW.out _,HBW.out.setCell (by rw [HSB.out];exact Nat.le_refl _) _⟩
       case rest=>
        obtain ⟨hrw,hbw⟩:=hcut;obtain ⟨wu,rfl⟩:∃wu:World,wu=wc:=⟨_,rfl⟩;obtain ⟨b1,hb1⟩:∃b1,b1=(max (-1) m.round):=⟨_,rfl⟩;rw [←hb1] at hrw;have HB1E:=Hd hb1;clear HRW HBW s0 s1 sf mc0 mc1 mc2 mc3 mc4 mc5 mc6 mc7 mfz;have HRW:=Hd hrw;have HBW:=Hd hbw;clear hrw hbw hb1;have HNv:=Hd (HN1.out.below HBW.out);have s0:=cell_of_row wu sb 0 _ _ _ HRW.out;have s1:=cell_of_row wu sb 1 _ _ _ HRW.out;simp at s0 s1;obtain ⟨mc0,mc1,mc2,mc3,mc4,mc5,mc6,mc7,mfz⟩:=MRow.of ((HBW.out.block mb (gE HR1.out).1).trans HR1.out);have c13:=HNv.out.nc.c13;have xfz:=HNv.out.nc.fz;obtain ⟨ob,hup,hnf⟩:=HNv.out.drew.lay_stand m.frm b0 b1;have HNF:=Hd hnf;clear hnf;go_upto_region 8 with (fail)
        go_region
        go_wp2
        refine bodyPost_end (results_none rfl _ _ _) rfl ⟨rfl,?_⟩;have e:s.putVote m = {s with votes:=putA (m.frm,m.kind,m.height,m.round) m.dig s.votes,stand:=putA m.frm (b0,b1) s.stand}:=by
         rw [putVote_new (by rw [HG.out];rfl),HA3.out];rw [if_pos k5,HB0E.out,HB1E.out]
        rw [e];refine .of (p:=p) HNF.out ?_;have g1:Chg R w wa:=Chg.of_below HB0.out (fun k h1 h2=>by omega);have g2:Chg R wa w1:=(Chg.drew R wa).trans (HCH.out.mono (fun k _ hk=>.inl (hk ▸ HN0.out.maps.own _ (by simp [Ptr.maps]))));have g3:Chg R w1 wu:=Chg.of_below HBW.out (fun k h1 h2=>by omega);have g4:Chg R wu (wu.drew.putObj p.stand ob):=(Chg.drew R wu).trans (Chg.put _ _ _ (.inl (HN0.out.maps.own _ (by simp [Ptr.maps]))));exact (g1.trans (g2.mono (fun k _ h=>.inl h))).trans ((g3.trans (g4.mono (fun k _ h=>.inl h))).mono (fun k _ h=>.inl h))
      have e5:(m.kind == 5)=false:=by simpa using k5
      have s0:=cell_of_row wv sb 0 _ _ _ HRW.out;have s1:=cell_of_row wv sb 1 _ _ _ HRW.out;simp at s0 s1;go_upto_region 8 with (fail)
      clear s0 s1 mc0 mc1 mc2 mc3 mc4 mc5 mc6 mc7 mfz;have HNv:=Hd (HN1.out.below HBW.out);have s0:=cell_of_row wv sb 0 _ _ _ HRW.out;have s1:=cell_of_row wv sb 1 _ _ _ HRW.out;simp at s0 s1;obtain ⟨mc0,mc1,mc2,mc3,mc4,mc5,mc6,mc7,mfz⟩:=MRow.of ((HBW.out.block mb (gE HR1.out).1).trans HR1.out);have c13:=HNv.out.nc.c13;have xfz:=HNv.out.nc.fz;obtain ⟨ob,hup,hnf⟩:=HNv.out.drew.lay_stand m.frm b0 (-1);have HNF:=Hd hnf;clear hnf;go_region
      go_wp2
      refine bodyPost_end (results_none rfl _ _ _) rfl ⟨rfl,?_⟩;have e:s.putVote m = {s with votes:=putA (m.frm,m.kind,m.height,m.round) m.dig s.votes,stand:=putA m.frm (b0,(-1)) s.stand}:=by
       rw [putVote_new (by rw [HG.out];rfl),HA3.out];rw [if_neg k5,HB0E.out]
      rw [e];refine .of (p:=p) HNF.out ?_;have g1:Chg R w wa:=Chg.of_below HB0.out (fun k h1 h2=>by omega);have g2:Chg R wa w1:=(Chg.drew R wa).trans (HCH.out.mono (fun k _ hk=>.inl (hk ▸ HN0.out.maps.own _ (by simp [Ptr.maps]))));have g3:Chg R w1 wv:=Chg.of_below HBW.out (fun k h1 h2=>by omega);have g4:Chg R wv (wv.drew.putObj p.stand ob):=(Chg.drew R wv).trans (Chg.put _ _ _ (.inl (HN0.out.maps.own _ (by simp [Ptr.maps]))));exact (g1.trans (g2.mono (fun k _ h=>.inl h))).trans ((g3.trans (g4.mono (fun k _ h=>.inl h))).mono (fun k _ h=>.inl h))
    have HA3:=Hd (show (getA m.frm s.stand).getD (-1,-1)=(q0,q1) from by rw [HA2.out];rw [(HIO2.out.1 rfl).1,(HIO2.out.1 rfl).2]);clear HIO2 HA2;go_upto_region 5 with (fail)
    go_cut [] (fun wc=>wc.heap[sb]?=some (.cells #[.int .i64 (max q0 m.round),.int .i64 q1] 179 (0,0))∧Below w1.heap.size w1 wc)
    case first=>
     go_wp2
     go_meet;exact ⟨heap_setC HROW2.out _,HB2.out.setCell (by rw [HSB.out];exact Nat.le_refl _) _⟩
    case rest=>
     obtain ⟨hrw,hbw⟩:=hcut;obtain ⟨wv,rfl⟩:∃wv:World,wv=wc:=⟨_,rfl⟩;obtain ⟨b0,hb0⟩:∃b0,b0=(max q0 m.round):=⟨_,rfl⟩;rw [←hb0] at hrw;have HB0E:=Hd hb0;have HRW:=Hd hrw;have HBW:=Hd hbw;clear hrw hbw hb0 s0 s1 sf mc0 mc1 mc2 mc3 mc4 mc5 mc6 mc7 mfz;obtain ⟨mc0,mc1,mc2,mc3,mc4,mc5,mc6,mc7,mfz⟩:=MRow.of ((HBW.out.block mb (gE HR1.out).1).trans HR1.out);by_cases k5:m.kind=5
     ·have e5:(m.kind == 5)=true:=by simpa using k5
      have s0:=cell_of_row wv sb 0 _ _ _ HRW.out;have s1:=cell_of_row wv sb 1 _ _ _ HRW.out;have sf:=fun o=>frozen_of_row wv sb o _ _ HRW.out;simp at s0 s1;go_upto_region 7 with (fail)
      go_cut [] (fun wc=>wc.heap[sb]?=some (.cells #[.int .i64 b0,.int .i64 (max q1 m.round)] 179 (0,0))∧Below w1.heap.size w1 wc)
      case first=>
       go_wp2
       go_meet;exact ⟨heap_setC HRW.out _,HBW.out.setCell (by rw [HSB.out];exact Nat.le_refl _) _⟩
      case rest=>
       obtain ⟨hrw,hbw⟩:=hcut;obtain ⟨wu,rfl⟩:∃wu:World,wu=wc:=⟨_,rfl⟩;obtain ⟨b1,hb1⟩:∃b1,b1=(max q1 m.round):=⟨_,rfl⟩;rw [←hb1] at hrw;have HB1E:=Hd hb1;clear HRW HBW s0 s1 sf mc0 mc1 mc2 mc3 mc4 mc5 mc6 mc7 mfz;have HRW:=Hd hrw;have HBW:=Hd hbw;clear hrw hbw hb1;have HNv:=Hd (HN1.out.below HBW.out);have s0:=cell_of_row wu sb 0 _ _ _ HRW.out;have s1:=cell_of_row wu sb 1 _ _ _ HRW.out;simp at s0 s1;obtain ⟨mc0,mc1,mc2,mc3,mc4,mc5,mc6,mc7,mfz⟩:=MRow.of ((HBW.out.block mb (gE HR1.out).1).trans HR1.out);have c13:=HNv.out.nc.c13;have xfz:=HNv.out.nc.fz;obtain ⟨ob,hup,hnf⟩:=HNv.out.drew.lay_stand m.frm b0 b1;have HNF:=Hd hnf;clear hnf;go_upto_region 8 with (fail)
       go_region
       go_wp2
       refine bodyPost_end (results_none rfl _ _ _) rfl ⟨rfl,?_⟩;have e:s.putVote m = {s with votes:=putA (m.frm,m.kind,m.height,m.round) m.dig s.votes,stand:=putA m.frm (b0,b1) s.stand}:=by
        rw [putVote_new (by rw [HG.out];rfl),HA3.out];rw [if_pos k5,HB0E.out,HB1E.out]
       rw [e];refine .of (p:=p) HNF.out ?_;have g1:Chg R w wa:=Chg.of_below HB0.out (fun k h1 h2=>by omega);have g2:Chg R wa w1:=(Chg.drew R wa).trans (HCH.out.mono (fun k _ hk=>.inl (hk ▸ HN0.out.maps.own _ (by simp [Ptr.maps]))));have g3:Chg R w1 wu:=Chg.of_below HBW.out (fun k h1 h2=>by omega);have g4:Chg R wu (wu.drew.putObj p.stand ob):=(Chg.drew R wu).trans (Chg.put _ _ _ (.inl (HN0.out.maps.own _ (by simp [Ptr.maps]))));exact (g1.trans (g2.mono (fun k _ h=>.inl h))).trans ((g3.trans (g4.mono (fun k _ h=>.inl h))).mono (fun k _ h=>.inl h))
     have e5:(m.kind == 5)=false:=by simpa using k5
     have s0:=cell_of_row wv sb 0 _ _ _ HRW.out;have s1:=cell_of_row wv sb 1 _ _ _ HRW.out;simp at s0 s1;go_upto_region 8 with (fail)
     clear s0 s1 mc0 mc1 mc2 mc3 mc4 mc5 mc6 mc7 mfz;have HNv:=Hd (HN1.out.below HBW.out);have s0:=cell_of_row wv sb 0 _ _ _ HRW.out;have s1:=cell_of_row wv sb 1 _ _ _ HRW.out;simp at s0 s1;obtain ⟨mc0,mc1,mc2,mc3,mc4,mc5,mc6,mc7,mfz⟩:=MRow.of ((HBW.out.block mb (gE HR1.out).1).trans HR1.out);have c13:=HNv.out.nc.c13;have xfz:=HNv.out.nc.fz;obtain ⟨ob,hup,hnf⟩:=HNv.out.drew.lay_stand m.frm b0 q1;have HNF:=Hd hnf;clear hnf;go_region
     go_wp2
     refine bodyPost_end (results_none rfl _ _ _) rfl ⟨rfl,?_⟩;have e:s.putVote m = {s with votes:=putA (m.frm,m.kind,m.height,m.round) m.dig s.votes,stand:=putA m.frm (b0,q1) s.stand}:=by
      rw [putVote_new (by rw [HG.out];rfl),HA3.out];rw [if_neg k5,HB0E.out]
     rw [e];refine .of (p:=p) HNF.out ?_;have g1:Chg R w wa:=Chg.of_below HB0.out (fun k h1 h2=>by omega);have g2:Chg R wa w1:=(Chg.drew R wa).trans (HCH.out.mono (fun k _ hk=>.inl (hk ▸ HN0.out.maps.own _ (by simp [Ptr.maps]))));have g3:Chg R w1 wv:=Chg.of_below HBW.out (fun k h1 h2=>by omega);have g4:Chg R wv (wv.drew.putObj p.stand ob):=(Chg.drew R wv).trans (Chg.put _ _ _ (.inl (HN0.out.maps.own _ (by simp [Ptr.maps]))));exact (g1.trans (g2.mono (fun k _ h=>.inl h))).trans ((g3.trans (g4.mono (fun k _ h=>.inl h))).mono (fun k _ h=>.inl h))
  have HG:=Hd hg;rw [hg] at HVM;clear hg;go_wp2
  refine bodyPost_ret (results_none rfl _ _ _) rfl ?_;have e:s.putVote m=s:=putVote_old (by rw [HG.out];rfl);rw [e];refine ⟨rfl,.of (p:=p) ?_ ?_⟩
  ·exact HN0.out.drew.put_votes (s':=s) (fun b hb hn=>HCH.out.block b hb hn) HCH.out.size HVM.out
  exact ((Chg.of_below HB0.out (fun k h1 h2=>by omega)).trans ((Chg.drew _ _).trans (HCH.out.mono (fun k _ hk=>.inl (.inl (hk ▸ HN0.out.maps.own _ (by simp [Ptr.maps])))))))
end
section
open Go.RowKit
theorem Tryz.infoMsg:(Tryz.prog.info? 36).map (fun i=>(i.zero,i.size,i.bytes))=some (some zM,8,88):=by kernel_rfl
theorem NodeP.mine_grown {R:Nat→Prop} {w w':World} {x:Nat} {p:Ptr} {s:StB} (h:NodeP R w x p s) {row:Option Nat} (hg:w.grownBy w' row) (hrow:∀g,row=some g→p.mine.ownBlock=some g∨w.heap.size≤g):∀g cur t fr,R g→w.heap[g]?=some (Obj.cells cur t fr)→t≠36→w'.heap[g]?=w.heap[g]?:=by
 intro g cur t fr hr hc ht;have hlt:g<w.heap.size:=(gE hc).1;refine hg.block g hlt (fun e=>?_);rcases hrow g e.symm with q | q
 ·obtain ⟨_,hm⟩:=h.rest.mine.1;obtain ⟨_,h2 | ⟨g2,cap,c2,hv,_,h3,_⟩⟩:=hm.2
  ·rw [h2.1] at q;cases q
  rw [hv] at q;simp [Value.ownBlock] at q;subst q;rw [h3] at hc;cases hc;exact ht rfl
 omega
theorem NodeP.maps_grown {R:Nat→Prop} {w w':World} {x:Nat} {p:Ptr} {s:StB} (h:NodeP R w x p s) {row:Option Nat} (hg:w.grownBy w' row) (hrow:∀g,row=some g→p.mine.ownBlock=some g∨w.heap.size≤g):∀b∈p.maps,w'.heap[b]?=w.heap[b]?:=by
 intro b hb;obtain ⟨es,c,hm⟩:=h.maps.isMap b hb;have hlt:b<w.heap.size:=(gE hm).1;refine hg.block b hlt (fun e=>?_);rcases hrow b e.symm with q | q
 ·obtain ⟨_,hm2⟩:=h.rest.mine.1;obtain ⟨_,h2 | ⟨g2,cap,c2,hv,_,h3,_⟩⟩:=hm2.2
  ·rw [h2.1] at q;cases q
  rw [hv] at q;simp [Value.ownBlock] at q;subst q;rw [h3] at hm;cases hm
 omega
theorem NodeP.mine_put {R:Nat→Prop} {w w':World} {x:Nat} {p:Ptr} {s:StB} (h:NodeP R w x p s) {m:MsgB} {sl v':Value} {sls:List Value} {row:Option Nat} (hg:w.grownBy w' row) (hrow:∀g,row=some g→p.mine.ownBlock=some g∨w.heap.size≤g)
  (hA:All2 (fun sl m=>LRow R w sl m.list) sls s.mine) (hsl:LRow R w sl m.list) (hown:w'.ownsRow 0 36 8 v' (s.mine.length+1) (((sls.zip s.mine).flatMap fun q=>(encM q.2 q.1).toList) ++ (encM m sl).toList))
  (hv:∀g,v'.ownBlock=some g→p.mine.ownBlock=some g∨w.heap.size≤g) :
  NodeP (fun k=>R k∨v'.ownBlock=some k) (w'.setCell ⟨x,14,none⟩ v') x {p with mine:=v'} {s with mine:=s.mine ++ [m]}:=by
 have hk:=h.mine_grown hg hrow;have hstr:∀g cur fr,R g→w.heap[g]?=some (Obj.cells cur 9 fr)→w'.heap[g]?=w.heap[g]?:=fun g cur fr hr hc=>hk g cur _ fr hr hc (by decide);have hx:w'.heap[x]?=some (.cells (nodeRow s p) 117 (0,0)):=(hk x _ _ _ h.mem h.node (by decide)).trans h.node;have hlt:x<w.heap.size:=(gE h.node).1;have hother:∀k,k≠x→(w'.setCell ⟨x,14,none⟩ v').heap[k]?=w'.heap[k]?:=fun k hk=>Below.heap_setCell w' ⟨x,14,none⟩ _ k hk;have hm2:Maps R w' p s:=h.maps.kept (h.maps_grown hg hrow) (fun g cur fr hr hc=>hstr g cur fr hr hc);have hne:∀{g:Nat} {cur:Array Value} {t:TypeId} {fr:Nat×Nat},w'.heap[g]?=some (Obj.cells cur t fr)→t≠117→g≠x:=fun {g cur t fr} hc ht e=>by
  subst e;rw [hx] at hc;cases hc;exact ht rfl
 have hstr2:∀g cur fr,R g→w'.heap[g]?=some (Obj.cells cur 9 fr)→(w'.setCell ⟨x,14,none⟩ v').heap[g]?=w'.heap[g]?:=fun g cur fr _ hc=>hother g (hne hc (by decide));have hval2:∀g cur fr,R g→w'.heap[g]?=some (Obj.cells cur 120 fr)→(w'.setCell ⟨x,14,none⟩ v').heap[g]?=w'.heap[g]?:=fun g cur fr _ hc=>hother g (hne hc (by decide));have hval1:∀g cur fr,R g→w.heap[g]?=some (Obj.cells cur 120 fr)→w'.heap[g]?=w.heap[g]?:=fun g cur fr hr hc=>hk g cur _ fr hr hc (by decide);have hm3:Maps R (w'.setCell ⟨x,14,none⟩ v') p s:=hm2.kept (fun b hb=>hother b (fun e=>by
  obtain ⟨es,c,q⟩:=hm2.isMap b hb;subst e;rw [hx] at q;cases q)) hstr2
 refine ⟨heap_setC hx v',.inl h.mem,(hm3.mono (fun k hk=>.inl hk)).same,?_,fun k hk=>?_⟩
 ·have hb:=(hk p.box _ _ _ h.rest.box.1 h.rest.box.2 (by decide)).trans h.rest.box.2;have hlen:=hA.len;refine ⟨⟨.inl h.rest.box.1,(hother _ (hne hb (by decide))).trans hb⟩,((h.rest.lock.kept hstr hval1).kept hstr2 hval2).mono (fun k hk=>.inl hk),((h.rest.valid.kept hstr hval1).kept hstr2 hval2).mono (fun k hk=>.inl hk),((h.rest.own.kept hstr hval1).kept hstr2 hval2).mono (fun k hk=>.inl hk),⟨?_,fun g hg2=>.inl (h.rest.order.2 g hg2)⟩,⟨sls ++ [sl],?_,?_⟩,fun g hg2=>.inr hg2⟩
  ·refine owns_blk (owns_blk h.rest.order.1 (fun g cur hg2 hc=>hk g cur _ _ (h.rest.order.2 g hg2) hc (by decide))) (fun g cur hg2 hc=>hother g (hne hc (by decide)))
  ·refine All2.append (hA.mono (fun a b q=>((q.kept hstr).kept hstr2).mono (fun k hk=>.inl hk))) (((hsl.kept hstr).kept hstr2).mono (fun k hk=>.inl hk))
  have e:((sls ++ [sl]).zip (s.mine ++ [m])).flatMap (fun q=>(encM q.2 q.1).toList)=((sls.zip s.mine).flatMap fun q=>(encM q.2 q.1).toList) ++ (encM m sl).toList:=by
   rw [List.zip_append hlen,List.flatMap_append];simp
  show World.ownsRow _ 0 _ 8 v' (s.mine ++ [m]).length _;rw [e,List.length_append];exact owns_blk hown (fun g cur _ hc=>hother g (hne hc (by decide)))
 have hsz:(w'.setCell ⟨x,14,none⟩ v').heap.size=w'.heap.size:=by simp [World.setCell]
 rw [hsz];rcases hk with hk | hk
 ·exact Nat.lt_of_lt_of_le (h.lt k hk) hg.size
 obtain ⟨_,h2 | ⟨g2,cap,c2,hv2,_,h3,_⟩⟩:=hown
 ·rw [h2.1] at hk;cases hk
 rw [hv2] at hk;simp [Value.ownBlock] at hk;subst hk;exact (gE h3).1
end
section
open Go.RowKit
theorem NodeP.setW {R:Nat→Prop} {w:World} {x:Nat} {p p':Ptr} {s s':StB} (h:NodeP R w x p s) (i:Nat) (v:Value) (hrow:(nodeRow s p).setIfInBounds i v=nodeRow s' p')
  (hm:∀w2,Maps R w2 p s→Maps R w2 p' s') (hr:Rest R (w.setCell ⟨x,i,none⟩ v) p s→Rest R (w.setCell ⟨x,i,none⟩ v) p' s'):NodeP R (w.setCell ⟨x,i,none⟩ v) x p' s':=by
 have hk:∀k,k≠x→(w.setCell ⟨x,i,none⟩ v).heap[k]?=w.heap[k]?:=fun k hk=>by
  simp [World.setCell,Array.getElem?_modify,Ne.symm hk]
 have hne:∀g cur t fr,R g→w.heap[g]?=some (.cells cur t fr)→t≠117→(w.setCell ⟨x,i,none⟩ v).heap[g]?=w.heap[g]?:=fun g cur t fr _ hg ht=>hk g (fun e=>by
  subst e;rw [h.node] at hg;injection hg with hg;injection hg with _ hg _;exact ht hg.symm)
 refine ⟨by rw [←hrow];exact heap_setC h.node v,h.mem,hm _ (h.maps.kept (fun b hb=>hk b (fun e=>?_)) (fun g cur fr hr hg=>hne g cur _ fr hr hg (by decide))),hr (h.rest.kept hne),fun k hk=>by simpa [World.setCell] using h.lt k hk⟩;obtain ⟨es,c,hb'⟩:=h.maps.isMap b hb;subst e;rw [h.node] at hb';cases hb'
theorem ValP.of {R:Nat→Prop} {w:World} {x i g:Nat} {v:ValB} {sl u:Value} {cs:Array Value} {fr:Nat×Nat} (hx:w.heap[x]?=some (.cells cs 117 fr)) (hR:R g) (hg:w.heap[g]?=some (.cells #[iv v.round,.string v.dig,sl] 120 (0,0))) (hl:LRow R w sl v.list):ValP R (w.setCell ⟨x,i,none⟩ u) (some g) (some v):=by
 have hk:∀(k:Nat) (cur:Array Value) (t:TypeId) (fr:Nat×Nat),w.heap[k]?=some (Obj.cells cur t fr)→t≠117→(w.setCell ⟨x,i,none⟩ u).heap[k]?=w.heap[k]?:=fun k cur t fr hc ht=>Below.heap_setCell w ⟨x,i,none⟩ _ k (fun e=>by
  subst e;rw [hx] at hc;injection hc with hc;injection hc with _ hc _;exact ht hc.symm)
 exact ⟨hR,sl,(hk g _ _ _ hg (by decide)).trans hg,hl.kept (fun k cur fr _ hc=>hk k cur _ fr hc (by decide))⟩
theorem NodeP.put_lock {R:Nat→Prop} {w:World} {x g:Nat} {p:Ptr} {s:StB} {v:ValB} {sl:Value} (h:NodeP R w x p s) (hR:R g) (hg:w.heap[g]?=some (.cells #[iv v.round,.string v.dig,sl] 120 (0,0))) (hl:LRow R w sl v.list):NodeP R (w.setCell ⟨x,5,none⟩ (pv g)) x {p with lock:=some g} {s with lock:=some v}:=
 h.setW 5 (pv g) rfl (fun _ q=>q.same) (fun q=>⟨q.box,ValP.of h.node hR hg hl,q.valid,q.own,q.order,q.mine⟩)
theorem NodeP.put_valid {R:Nat→Prop} {w:World} {x g:Nat} {p:Ptr} {s:StB} {v:ValB} {sl:Value} (h:NodeP R w x p s) (hR:R g) (hg:w.heap[g]?=some (.cells #[iv v.round,.string v.dig,sl] 120 (0,0))) (hl:LRow R w sl v.list):NodeP R (w.setCell ⟨x,6,none⟩ (pv g)) x {p with valid:=some g} {s with valid:=some v}:=
 h.setW 6 (pv g) rfl (fun _ q=>q.same) (fun q=>⟨q.box,q.lock,ValP.of h.node hR hg hl,q.own,q.order,q.mine⟩)
theorem NodeP.put_own {R:Nat→Prop} {w:World} {x g:Nat} {p:Ptr} {s:StB} {v:ValB} {sl:Value} (h:NodeP R w x p s) (hR:R g) (hg:w.heap[g]?=some (.cells #[iv v.round,.string v.dig,sl] 120 (0,0))) (hl:LRow R w sl v.list):NodeP R (w.setCell ⟨x,7,none⟩ (pv g)) x {p with own:=some g} {s with own:=some v}:=
 h.setW 7 (pv g) rfl (fun _ q=>q.same) (fun q=>⟨q.box,q.lock,q.valid,ValP.of h.node hR hg hl,q.order,q.mine⟩)
end
end Go.Proofs.YtifcdjmcoibblaaGreatDoor
