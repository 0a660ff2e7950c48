/- Snd -/
import Derived.Test.YtifcdjmcoibblaaGreatDoorAq40
set_option linter.unusedVariables false
set_option linter.unusedSimpArgs false
set_option linter.unusedSectionVars false
set_option maxRecDepth 100000
set_option maxHeartbeats 80000000
namespace Go.Proofs.YtifcdjmcoibblaaGreatDoor
section
open Go.RowKit
theorem Z7j (m:Z0k) (ao:Option Addr) (n cap:Nat) (d:Int):∀u∈Z4n ((m,.slice ao n cap),d),u.oneCell'=true:=by
 intro u hu;unfold Z4n at hu;rcases List.mem_append.1 hu with h | h
 ·exact Zch m ao n cap u h
 obtain rfl:u=iv d:=by simpa using h
 rfl
theorem Za3 {nb i e sz n n':Nat} {row:Array Value} {xs news:List Value} {v v2:Value} {wz w7:World} (hn:wz.heap[nb]?=some (.cells row 50 (0,0))) (he:50≠e)
  (how:wz.ownsRow 0 e sz v n xs) (own:w7.ownsRow 0 e sz v2 n' (xs ++ news)) (gr:wz.grownBy w7 v.ownBlock) :
  w7.heap[nb]?=some (.cells row 50 (0,0))∧(w7.setCell ⟨nb,i,none⟩ v2).heap[nb]?=some (.cells (row.setIfInBounds i v2) 50 (0,0))∧(w7.setCell ⟨nb,i,none⟩ v2).ownsRow 0 e sz v2 n' (xs ++ news)∧Chg (λk=>k=nb∨v.ownBlock=some k) wz (w7.setCell ⟨nb,i,none⟩ v2):=by
 have h7:w7.heap[nb]?=some (.cells row 50 (0,0)):=(gr.block nb (gE hn).1 (λq=>by
  obtain ⟨c,hc⟩:=Z1e how q.symm;exact Z0p hn hc he rfl)).trans hn
 refine ⟨h7,Z05 h7 _,Z09 own (λg cur _ hg=>Below.heap_setCell _ ⟨nb,i,none⟩ _ g (λq=>Z0p hg h7 (λq=>he q.symm) q)),?_⟩;exact (Chg.grown gr (λk q=>.inr q)).trans (Chg.set _ nb i v2 (.inl (.inl rfl)))
structure Zgy (W:World) (nb mb:Nat) (n li la nw:Int) (nv qv fv cv:Value) (br:Bool) (m:Z0k) (sl:Value) (qvx fvx:Value) (qs1:List Z6o) (fs1:List Int) (w:World):Prop where
 row:w.heap[nb]?=some (.cells (Z1b n li la nw nv qvx fvx cv br) 50 (0,0))
 msg:w.heap[mb]?=some (.cells (Z0l m sl) 36 (0,0))
 que:Z2g w qvx qs1
 fat:Z3f w fvx fs1
 qo:∀g,qvx.ownBlock=some g->qv.ownBlock=some g∨W.heap.size<=g
 fo:∀g,fvx.ownBlock=some g->fv.ownBlock=some g∨W.heap.size<=g
 chg:Chg (λk=>k=nb∨qv.ownBlock=some k∨fv.ownBlock=some k) W w
section
variable {W:World} {nb mb:Nat} {n li la nw:Int} {nv qv fv cv:Value} {br:Bool} {m:Z0k} {ao:Option Addr} {cap:Nat} {sl:Value} {qvx fvx:Value} {qs qs1:List Z6o} {fs fs1:List Int}
theorem Zgy.push {wa wz w7:World} {v2:Value} {p:Z6o} (h:Zgy W nb mb n li la nw nv qv fv cv br m sl qvx fvx qs1 fs1 wa) (hz:wa.heap.size<=wz.heap.size) (hb:Below wa.heap.size wa wz)
  (p1:w7.heap[nb]?=some (.cells (Z1b n li la nw nv qvx fvx cv br) 50 (0,0))∧(w7.setCell ⟨nb,5,none⟩ v2).heap[nb]?=some (.cells ((Z1b n li la nw nv qvx fvx cv br).setIfInBounds 5 v2) 50 (0,0))∧(w7.setCell ⟨nb,5,none⟩ v2).ownsRow 0 205 9 v2 (qs1.length+1) (qs1.flatMap Z4n ++ Z4n p)∧Chg (λk=>k=nb∨qvx.ownBlock=some k) wz (w7.setCell ⟨nb,5,none⟩ v2))
  (hm:(w7.setCell ⟨nb,5,none⟩ v2).heap[mb]?=some (.cells (Z0l m sl) 36 (0,0))) (own:w7.ownsRow 0 205 9 v2 (qs1.length+1) (qs1.flatMap Z4n ++ Z4n p)) (hn:∀g,v2.ownBlock=some g->qvx.ownBlock=some g∨wz.heap.size<=g) :
  Zgy W nb mb n li la nw nv qv fv cv br m sl v2 fvx (qs1 ++ [p]) fs1 (w7.setCell ⟨nb,5,none⟩ v2):=by
 obtain ⟨_,a2,a3,a4⟩:=p1;have hws:=h.chg.size;refine ⟨a2,hm,?_,?_,λg hg=>?_,h.fo,?_⟩
 ·unfold Z2g;rw [List.flatMap_append,List.length_append];simpa using a3
 ·have h2:Z3f wz fvx fs1:=Z07 h.fat (λg _ hl=>hb.block g hl);refine Z09 h2 (λg cur hg hc=>a4.block g (gE hc).1 (λe=>?_));rcases e with e | e
  ·have hr:=(hb.block nb (gE h.row).1).trans h.row;exact Z0p hc hr (by decide) e
  obtain ⟨c2,hc2⟩:=Z1e (Z07 h.que (λg _ hl=>hb.block g hl)) e;exact Z0p hc hc2 (by decide) rfl
 ·rcases hn g hg with q | q
  ·exact h.qo g q
  exact .inr (by omega)
 refine h.chg.trans ((Chg.of_below hb (λk h1 h2=>absurd h1 (by omega))).trans (a4.mono (λk hk q=>?_)));rcases q with q | q
 ·exact .inl (.inl (.inl q))
 rcases h.qo k q with q2 | q2
 ·exact .inl (.inl (.inr (.inl q2)))
 by_cases hl:k<wa.heap.size
 ·exact .inl (.inr (by omega))
 exact .inr (by omega)
theorem Zgy.fates {wa w6:World} {v6:Value} {fs6:List Int} (h:Zgy W nb mb n li la nw nv qv fv cv br m sl qvx fvx qs1 fs1 wa) (hb:Below wa.heap.size wa w6) (hf:Z3f w6 v6 fs6) (ho:∀g,v6.ownBlock=some g->wa.heap.size<=g) :
  Zgy W nb mb n li la nw nv qv fv cv br m sl qvx v6 qs1 fs6 (w6.setCell ⟨nb,6,none⟩ v6):=by
 have hr:=(hb.block nb (gE h.row).1).trans h.row;have hm:=(hb.block mb (gE h.msg).1).trans h.msg;have hws:=h.chg.size;refine ⟨Z05 hr _,(Below.heap_setCell _ ⟨nb,6,none⟩ _ mb (λe=>Z0p hm hr (by decide) e)).trans hm,?_,?_,h.qo,λg hg=>.inr (Nat.le_trans hws (ho g hg)),?_⟩
 ·exact Z09 (Z07 h.que (λg _ hl=>hb.block g hl)) (λg cur _ hc=>Below.heap_setCell _ ⟨nb,6,none⟩ _ g (λe=>Z0p hc hr (by decide) e))
 ·exact Z09 hf (λg cur _ hc=>Below.heap_setCell _ ⟨nb,6,none⟩ _ g (λe=>Z0p hc hr (by decide) e))
 exact h.chg.trans ((Chg.of_below hb (λk h1 h2=>absurd h1 (by omega))).trans (Chg.set _ nb 6 v6 (.inl (.inl (.inl rfl)))))
def Za4 (nw:Int) (m:Z0k) (sl:Value) (fs:List Int) (qs:List Z6o):List Z6o:=
 if fs.headD 0=1 then qs else qs ++ ((m,sl),nw+1+(if 3<=fs.headD 0∧fs.headD 0<=12 then 3 * (fs.headD 0 - 2) else 0)) :: (if fs.headD 0=2 then [((m,sl),nw+3)] else [])
theorem Zpi (hn:W.heap[nb]?=some (.cells (Z1b n li la nw nv qv fv cv br) 50 (0,0))) (hq:Z2g W qv qs) (hf:Z3f W fv fs) (hql:qs.length<=100000000000) (hfl:fs.length<=100) (hfr:∀f∈fs,0<=f∧f<=100) (hw0:0<=nw) (hw1:nw<=1000000000000) :
  Calls Tryz.prog 161 #[pv nb,.agg (Z0l m (.slice ao m.list.length cap))] W λe w'=>e = .returned (.tuple #[])∧∃qv' fv',Zgy W nb W.heap.size n li la nw nv qv fv cv br m (.slice ao m.list.length cap) qv' fv' (Za4 nw m (.slice ao m.list.length cap) fs qs) (fs.drop 1 ++ fs.take 1) w':=by
 obtain ⟨mb,hmb⟩:∃mb,mb=W.heap.size:=⟨_,rfl⟩;have HMB:=Hd hmb;have HN:=Hd hn;have HQ:=Hd hq;have HFT:=Hd hf;have HQL:=Hd hql;rw [<-hmb];have HB1:=Hd ((Below.refl _ W).alloc (Nat.le_refl _) (.cells (Z0l m (.slice ao m.list.length cap)) 36));have HR1:=Hd (World.alloc_heap_new W (.cells (Z0l m (.slice ao m.list.length cap)) 36));clear hn hq hf hmb hql;unfold Z0l iv pv at *;go_enter Tryz.func161,Tryz.ntmps161
 go_upto_region 1 with (fail)
 have HS1:=Hd HB1.out.size;obtain ⟨L,hL⟩:∃L,L=fs.length:=⟨_,rfl⟩;obtain ⟨fao,fcap,rfl⟩:=(show ∃fao fcap,fv = .slice fao L fcap from by
  rcases HFT.out.2 with ⟨e,h0⟩ | ⟨g,c,_,e,_⟩
  ·exact ⟨none,0,by rw [e,hL,h0]⟩
  exact ⟨_,_,by rw [hL];exact e⟩)
 obtain ⟨w1,hw1⟩:∃w1,w1=W.alloc (.cells #[.int .i64 m.kind,.int .i64 m.frm,.int .i64 m.to,.int .i64 m.height,.int .i64 m.round,.int .i64 m.valid,.string m.dig,.slice ao m.list.length cap] 36):=⟨_,rfl⟩;rw [<-HMB.out] at HR1 ⊢;rw [<-hw1] at HB1 HR1 HS1 ⊢;clear hw1;have S1:=Hd (show Zgy W nb mb n li la nw nv qv (.slice fao L fcap) cv br m (.slice ao m.list.length cap) qv (.slice fao L fcap) qs fs w1 from ⟨(HB1.out.block nb (gE HN.out).1).trans HN.out,HR1.out,Z07 HQ.out (λg _ hl=>HB1.out.block g hl),Z07 HFT.out (λg _ hl=>HB1.out.block g hl),λg hg=>.inl hg,λg hg=>.inl hg,Chg.of_below HB1.out (λk q1 q2=>absurd q2 (by omega))⟩);clear HN HQ HFT;obtain ⟨f0,hf0⟩:∃f0,f0=fs.headD 0:=⟨_,rfl⟩;have HF0:=Hd hf0;have f00:0<=f0∧f0<=100:=by
  rw [hf0];rcases fs with _ | ⟨a,t⟩
  ·exact ⟨Int.le_refl _,by decide⟩
  exact hfr a (List.mem_cons_self ..)
 clear hf0 hfr;go_upto_region 2 with (fail)
 have n6:=cell_of_row w1 nb 6 _ _ _ S1.out.row;simp [Z1b,iv] at n6;obtain ⟨b0,hb0⟩:∃b0,b0=decide ((0:Int)<(L:Int)):=⟨_,rfl⟩;go_cut [11] from 6 to 11 (λt wc=>t = .bool b0∧wc=w1)
 case first=>
  have hbb:=hb0.symm;go_wp2_with fail
  go_meet;exact ⟨by first | rfl | (simp [hb0,hL];done),rfl⟩
 case rest=>
 obtain ⟨rfl,hw⟩:=hcut;rw [hw];clear hw n6;go_upto_if 11 with (fail)
 go_cut [4] from 4 to 30 (λt wc=>t = .int .i64 f0∧∃fvx,Zgy W nb mb n li la nw nv qv (.slice fao L fcap) cv br m (.slice ao m.list.length cap) qv fvx qs (fs.drop 1 ++ fs.take 1) wc)
 case first=>
  have S2:=Hd S1.out;have HFF:=Hd HF0.out;rcases fs with _ | ⟨f,ft⟩
  ·have eb:b0=false:=by rw [hb0,hL];simp
   subst eb;clear hb0 hL;go_wp2_with fail
   go_meet;exact ⟨by rw [HFF.out];rfl,_,S2.out⟩
  have eb:b0=true:=by rw [hb0,hL];simp
  subst eb;obtain ⟨fl,rfl⟩:∃fl,L=fl+1:=⟨ft.length,hL⟩;have HFL:=Hd (show fl=ft.length from by simpa using hL);have fl9:(fl:Int)<=100:=by rw [<-hL] at hfl;omega
  clear hb0 hL hfl S1 HF0;obtain ⟨fb,rfl,hrow,hcap,hcm,hcur⟩:=(show ∃fb,fao=some ⟨fb,0,none⟩∧(∀(j:Nat) (u:Value),((f :: ft).map iv)[j]?=some u->w1.cell? ⟨fb,j,none⟩=some u)∧fl+1<=fcap∧fcap<=maxLen∧∃cur,w1.heap[fb]?=some (.cells cur 3 (0,0)) from by
   have hown:=S2.out.fat;rcases hown.2 with ⟨e,h0⟩ | ⟨g,c,cu,e,_,hg,h1,h2,_⟩
   ·simp at h0
   injection e with e1 e2 e3
   subst e1 e3;refine ⟨g,rfl,λj u hu=>?_,by rw [HFL.out];exact h1,h2,cu,hg⟩;have:=hown.cells (g:=g) rfl j u hu;unfold Addr.add at this;split at this
   ·rename_i e0;subst e0;exact this
   simpa using this)
  have q0:=hrow 0 (iv f) rfl;unfold iv at q0;have n6:=cell_of_row w1 nb 6 _ _ _ S2.out.row;simp [Z1b,iv] at n6;have HRW:=Hd hrow;have n6a:=Z0h n6 (.cells #[] 3);unfold maxLen at hcm;have fc0:(1:Int)<=(fcap:Int):=by omega
  have fc1:(fl:Int)+1<=(fcap:Int):=by omega
  clear hrow hcur;obtain ⟨ti,hi,hz0,hz1,hz2⟩:=info_parts Tryz.infoI;have OWN0:=Hd (show (w1.alloc (.cells #[] 3)).ownsRow 0 3 1 (.slice (some ⟨w1.heap.size,0,none⟩) 0 0) 0 [] from World.ownsRow_made w1 #[] 0 (Nat.zero_le _) (by decide) rfl);have HBA:=Hd (show Below w1.heap.size w1 (w1.alloc (.cells #[] 3)) from (Below.refl _ _).alloc (Nat.le_refl _) _);have LEN:=Hd (show (ft.map iv).length=fl * 1 from by rw [List.length_map,HFL.out];omega);have ONE:=Hd (show ∀u∈ft.map iv,u.oneCell'=true from λu hu=>by
   obtain ⟨z,_,rfl⟩:=List.mem_map.1 hu;rfl)
  have SRC:=Hd (show ∀j u,(ft.map iv)[j]?=some u->(w1.alloc (.cells #[] 3)).cell? ((⟨fb,1,none⟩:Addr).add j)=some u from λj u hu=>by
   have h1:=HRW.out (j+1) u (by simpa using hu);have h2:=Z0h h1 (.cells #[] 3);unfold Addr.add;split
   ·rename_i e0;subst e0;exact h2
   show (w1.alloc (.cells #[] 3)).cell? ⟨fb,1+j,none⟩=some u;rw [Nat.add_comm];exact h2)
  have ST5:=Hd (show ∀(v5:Value) (w5:World),w5.ownsRow 0 3 1 v5 fl ([] ++ ft.map iv)->(w1.alloc (.cells #[] 3)).grownBy w5 (Value.slice (some ⟨w1.heap.size,0,none⟩) 0 0).ownBlock->(∀g,v5.ownBlock=some g->(Value.slice (some ⟨w1.heap.size,0,none⟩) 0 0).ownBlock=some g∨(w1.alloc (.cells #[] 3)).heap.size<=g) ->
    (∃xo xc,v5 = .slice xo fl xc)∧Below w1.heap.size w1 w5∧(∀g,v5.ownBlock=some g->w1.heap.size<=g)∧w5.cell? ⟨nb,6,none⟩=some (.slice (some ⟨fb,0,none⟩) (fl+1) fcap) from λv5 w5 o5 g5 l5=>by
   have hb:Below w1.heap.size w1 w5:=(Chg.of_below (C:=λk=>k=w1.heap.size) HBA.out (λk a b=>absurd b (by omega))).trans ((Chg.grown (C:=λk=>k=w1.heap.size) g5 (λk e=>by simpa [Value.ownBlock] using e.symm)).mono (λ_ _ h=>.inl h)) |>.below (Nat.le_refl _) (λk e=>by omega)
   refine ⟨?_,hb,λg hg=>?_,?_⟩
   ·rcases o5.2 with ⟨e,h0⟩ | ⟨g,c,_,e,_⟩
    ·exact ⟨none,0,by rw [e,h0]⟩
    exact ⟨_,_,e⟩
   ·rcases l5 g hg with q | q
    ·have:w1.heap.size=g:=by simpa [Value.ownBlock] using q
     omega
    have:=HBA.out.size;omega
   rw [World.cell?_of_block (w:=w1) (hb.block nb (gE S2.out.row).1)];exact n6)
  have ST6:=Hd (show ∀(v5:Value) (w5:World) (v6:Value) (w6:World),Below w1.heap.size w1 w5->w5.ownsRow 0 3 1 v5 fl (ft.map iv)->(∀g,v5.ownBlock=some g->w1.heap.size<=g)->w6.ownsRow 0 3 1 v6 (fl+1) (ft.map iv ++ [.int .i64 f])->(w5.alloc (.cells #[.int .i64 f] 3)).grownBy w6 v5.ownBlock->(∀g,v6.ownBlock=some g->v5.ownBlock=some g∨(w5.alloc (.cells #[.int .i64 f] 3)).heap.size<=g) ->
    Zgy W nb mb n li la nw nv qv (.slice (some ⟨fb,0,none⟩) (fl+1) fcap) cv br m (.slice ao m.list.length cap) qv v6 qs ((f :: ft).drop 1 ++ (f :: ft).take 1) (w6.setCell ⟨nb,6,none⟩ v6)∧(∃yo yc,v6 = .slice yo (fl+1) yc)∧w6.cell? ⟨nb,6,none⟩=some (.slice (some ⟨fb,0,none⟩) (fl+1) fcap)∧(∀o,w6.frozen? ⟨nb,o,none⟩=false) from λv5 w5 v6 w6 b5 o5 l5 o6 g6 l6=>by
   have ba:Below w5.heap.size w5 (w5.alloc (.cells #[.int .i64 f] 3)):=(Below.refl _ _).alloc (Nat.le_refl _) _;have hb:Below w1.heap.size w1 w6:=((Chg.of_below (C:=λk=>w1.heap.size<=k) b5 (λk a b=>a)).trans (((Chg.of_below (C:=λk=>w1.heap.size<=k) (ba.mono b5.size) (λk a b=>a)).trans ((Chg.grown (C:=λk=>w1.heap.size<=k) g6 (λk e=>l5 k e)).mono (λ_ _ h=>.inl h))).mono (λ_ _ h=>.inl h))).below (Nat.le_refl _) (λk e=>e);have hr:=(hb.block nb (gE S2.out.row).1).trans S2.out.row;refine ⟨S2.out.fates hb ?_ (λg hg=>?_),?_,?_,λo=>frozen_of_row w6 nb o _ _ hr⟩
   ·unfold Z3f;have e1:((f :: ft).drop 1 ++ (f :: ft).take 1).map iv=ft.map iv ++ [.int .i64 f]:=by simp [iv]
    have e2:((f :: ft).drop 1 ++ (f :: ft).take 1).length=fl+1:=by rw [HFL.out];simp
    rw [e1,e2];exact o6
   ·rcases l6 g hg with q | q
    ·exact l5 g q
    have:=ba.size;have:=b5.size;omega
   ·rcases o6.2 with ⟨e,h0⟩ | ⟨g,c,_,e,_⟩
    ·omega
    exact ⟨_,_,e⟩
   rw [World.cell?_of_block (w:=w1) (hb.block nb (gE S2.out.row).1)];exact n6)
  clear HRW HFL;go_upto_region 4 with (fail)
  by_cases hf0:fl=0
  ·subst hf0;by_cases hc1:fcap=1
   ·subst hc1;have SRC:=Hd (show ∀j u,(ft.map iv)[j]?=some u->(w1.alloc (.cells #[] 3)).cell? ((⟨fb,0,none⟩:Addr).add j)=some u from λj u hu=>by
     have:=(List.getElem?_eq_some_iff.1 hu).1;rw [LEN.out] at this;omega)
    go_wp2_with (first
     | (refine Z0m rfl (.tmp 19) (.tmp 24) 47 (by rfl) 0 3 ti (.int .i64 0) 1 8 Tryz.underlying47 hi hz0 hz1 hz2 (by rfl) (by decide) (.slice (some ⟨w1.heap.size,0,none⟩) 0 0) 0 [] (by rfl) OWN0.out ⟨fb,0,none⟩ 0 0 (ft.map iv) (by rfl) LEN.out SRC.out ONE.out (by unfold maxLen;omega) (by omega) (by omega) 0 (by omega) ?_;intro v5 w5 o5 g5 l5;obtain ⟨⟨xo,xc,rfl⟩,hb5,hl5,n5⟩:=ST5.out v5 w5 o5 g5 l5;have HB5:=Hd hb5;have HO5:=Hd o5;have HL5:=Hd hl5;clear o5 g5 l5 hb5 hl5)
     | (refine Z0m rfl (.tmp 25) (.tmp 27) 47 (by rfl) 0 3 ti (.int .i64 0) 1 8 Tryz.underlying47 hi hz0 hz1 hz2 (by rfl) (by decide) (.slice xo 0 xc) 0 (ft.map iv) (by rfl) (Z07 HO5.out (λg _ hl=>Below.heap_alloc w5 _ g hl)) ⟨w5.heap.size,0,none⟩ 1 1 [.int .i64 f] (by rfl) (by rfl) (Z0w w5 [.int .i64 f] _ _ rfl) (by intro u hu;simp at hu;subst hu;rfl) (by unfold maxLen;omega) (by omega) (by omega) (0+1) (by omega) ?_;intro v6 w6 o6 g6 l6;obtain ⟨hs6,⟨yo,yc,rfl⟩,hc6,hf6⟩:=ST6.out _ w5 v6 w6 HB5.out HO5.out HL5.out o6 g6 l6;have HS6:=Hd hs6;clear o6 g6 l6 hs6))
    go_meet;exact ⟨by rw [HFF.out];rfl,_,HS6.out⟩
   skip
   go_wp2_with (first
    | (refine Z0m rfl (.tmp 19) (.tmp 24) 47 (by rfl) 0 3 ti (.int .i64 0) 1 8 Tryz.underlying47 hi hz0 hz1 hz2 (by rfl) (by decide) (.slice (some ⟨w1.heap.size,0,none⟩) 0 0) 0 [] (by rfl) OWN0.out ⟨fb,1,none⟩ 0 (fcap - 1) (ft.map iv) (by rfl) LEN.out SRC.out ONE.out (by unfold maxLen;omega) (by omega) (by omega) 0 (by omega) ?_;intro v5 w5 o5 g5 l5;obtain ⟨⟨xo,xc,rfl⟩,hb5,hl5,n5⟩:=ST5.out v5 w5 o5 g5 l5;have HB5:=Hd hb5;have HO5:=Hd o5;have HL5:=Hd hl5;clear o5 g5 l5 hb5 hl5)
    | (refine Z0m rfl (.tmp 25) (.tmp 27) 47 (by rfl) 0 3 ti (.int .i64 0) 1 8 Tryz.underlying47 hi hz0 hz1 hz2 (by rfl) (by decide) (.slice xo 0 xc) 0 (ft.map iv) (by rfl) (Z07 HO5.out (λg _ hl=>Below.heap_alloc w5 _ g hl)) ⟨w5.heap.size,0,none⟩ 1 1 [.int .i64 f] (by rfl) (by rfl) (Z0w w5 [.int .i64 f] _ _ rfl) (by intro u hu;simp at hu;subst hu;rfl) (by unfold maxLen;omega) (by omega) (by omega) (0+1) (by omega) ?_;intro v6 w6 o6 g6 l6;obtain ⟨hs6,⟨yo,yc,rfl⟩,hc6,hf6⟩:=ST6.out _ w5 v6 w6 HB5.out HO5.out HL5.out o6 g6 l6;have HS6:=Hd hs6;clear o6 g6 l6 hs6))
   go_meet;exact ⟨by rw [HFF.out];rfl,_,HS6.out⟩
  have hfl1:(1:Int)<=(fl:Int):=by omega
  have hc1:¬fcap=1:=by omega
  go_wp2_with (first
   | (refine Z0m rfl (.tmp 19) (.tmp 24) 47 (by rfl) 0 3 ti (.int .i64 0) 1 8 Tryz.underlying47 hi hz0 hz1 hz2 (by rfl) (by decide) (.slice (some ⟨w1.heap.size,0,none⟩) 0 0) 0 [] (by rfl) OWN0.out ⟨fb,1,none⟩ fl (fcap - 1) (ft.map iv) (by rfl) LEN.out SRC.out ONE.out (by unfold maxLen;omega) (by omega) (by omega) fl (by omega) ?_;intro v5 w5 o5 g5 l5;obtain ⟨⟨xo,xc,rfl⟩,hb5,hl5,n5⟩:=ST5.out v5 w5 o5 g5 l5;have HB5:=Hd hb5;have HO5:=Hd o5;have HL5:=Hd hl5;clear o5 g5 l5 hb5 hl5)
   | (refine Z0m rfl (.tmp 25) (.tmp 27) 47 (by rfl) 0 3 ti (.int .i64 0) 1 8 Tryz.underlying47 hi hz0 hz1 hz2 (by rfl) (by decide) (.slice xo fl xc) fl (ft.map iv) (by rfl) (Z07 HO5.out (λg _ hl=>Below.heap_alloc w5 _ g hl)) ⟨w5.heap.size,0,none⟩ 1 1 [.int .i64 f] (by rfl) (by rfl) (Z0w w5 [.int .i64 f] _ _ rfl) (by intro u hu;simp at hu;subst hu;rfl) (by unfold maxLen;omega) (by omega) (by omega) (fl+1) (by omega) ?_;intro v6 w6 o6 g6 l6;obtain ⟨hs6,⟨yo,yc,rfl⟩,hc6,hf6⟩:=ST6.out _ w5 v6 w6 HB5.out HO5.out HL5.out o6 g6 l6;have HS6:=Hd hs6;clear o6 g6 l6 hs6))
  go_meet;exact ⟨by rw [HFF.out];rfl,_,HS6.out⟩
 case rest=>
 obtain ⟨rfl,fvx,hcut⟩:=hcut;obtain ⟨wa,rfl⟩:∃wa:World,wa=wc:=⟨_,rfl⟩;have S2:=Hd hcut;clear hcut S1 hb0 hL;by_cases h1:f0=1
 ·have y1:(f0 == 1)=true:=by rw [h1];rfl
  have HE:=Hd (show Za4 nw m (.slice ao m.list.length cap) fs qs=qs from by unfold Za4;rw [if_pos (by rw [<-HF0.out];exact h1)]);clear h1;go_wp2_with fail
  refine bodyPost_ret (results_none rfl _ _ _) rfl ?_;rw [HE.out];exact ⟨rfl,_,_,S2.out⟩
 have y1:(f0 == 1)=false:=by simpa using h1
 have HN1:=Hd h1;clear h1;obtain ⟨late,hlate⟩:∃late:Int,late=(if 3<=f0∧f0<=12 then 3 * (f0 - 2) else 0):=⟨_,rfl⟩;have la0:0<=late∧late<=1000:=by rw [hlate];split <;> omega
 obtain ⟨la0,la1⟩:=la0;obtain ⟨t7,ht7⟩:∃t7,t7=decide (3<=f0∧f0<=12):=⟨_,rfl⟩;have HLT:=Hd hlate;have HT7:=Hd ht7;clear hlate ht7;go_upto_region 7 with (fail)
 go_cut [38] from 33 to 38 (λt wc=>t = .bool t7∧wc=wa)
 case first=>
  by_cases z1:3<=f0
  ·have d1:decide (3<=f0)=true:=decide_eq_true z1;by_cases z2:f0<=12
   ·have d2:decide (f0<=12)=true:=decide_eq_true z2;have HE:=Hd (show t7=true from by rw [HT7.out];exact decide_eq_true ⟨z1,z2⟩);go_wp2_with fail
    go_meet;exact ⟨by rw [HE.out],rfl⟩
   have d2:decide (f0<=12)=false:=decide_eq_false z2;have HE:=Hd (show t7=false from by rw [HT7.out];exact decide_eq_false (λq=>z2 q.2));go_wp2_with fail
   go_meet;exact ⟨by rw [HE.out],rfl⟩
  have d1:decide (3<=f0)=false:=decide_eq_false z1;have HE:=Hd (show t7=false from by rw [HT7.out];exact decide_eq_false (λq=>z1 q.1));go_wp2_with fail
  go_meet;exact ⟨by rw [HE.out],rfl⟩
 case rest=>
 obtain ⟨rfl,hw⟩:=hcut;rw [hw];clear hw;go_upto_if 38 with (fail)
 go_cut [5] from 5 to 41 (λt wc=>t = .int .i64 late∧wc=wa)
 case first=>
  rcases t7 with _ | _
  ·have HE:=Hd (show late=0 from by rw [HLT.out,if_neg (of_decide_eq_false HT7.out.symm)]);go_wp2_with fail
   go_meet;exact ⟨by rw [HE.out],rfl⟩
  have HE:=Hd (show late=3 * (f0 - 2) from by rw [HLT.out,if_pos (of_decide_eq_true HT7.out.symm)]);have ew1:IntKind.wrap .i64 (f0 - 2)=f0 - 2:=by rw [IntKind.wrap_i64];omega
  have ew2:IntKind.wrap .i64 (3 * (f0 - 2))=3 * (f0 - 2):=by rw [IntKind.wrap_i64];omega
  go_wp2_with fail
  go_meet;exact ⟨by rw [HE.out],rfl⟩
 case rest=>
 obtain ⟨rfl,hw⟩:=hcut;rw [hw];clear hw HT7;have ew3:IntKind.wrap .i64 (nw+1)=nw+1:=by rw [IntKind.wrap_i64];omega
 have ew4:IntKind.wrap .i64 (nw+1+late)=nw+1+late:=by rw [IntKind.wrap_i64];omega
 have ew5:IntKind.wrap .i64 (nw+3)=nw+3:=by rw [IntKind.wrap_i64];omega
 clear hfl;go_upto_region 9 with (fail)
 go_cut [] (λwc=>∃v2,Zgy W nb mb n li la nw nv qv (.slice fao L fcap) cv br m (.slice ao m.list.length cap) v2 fvx (qs ++ [((m,(.slice ao m.list.length cap)),nw+1+late)]) (fs.drop 1 ++ fs.take 1) wc)
 case first=>
  obtain ⟨qvx,qs1,fs1,hq1,hq2,hq3⟩:∃qvx qs1 fs1,qvx=qv∧qs1=qs∧fs1=fs.drop 1 ++ fs.take 1:=⟨_,_,_,rfl,rfl,rfl⟩;have HQ2:=Hd hq2;have HQ3:=Hd hq3;have HA:=Hd (show Zgy W nb mb n li la nw nv qv (.slice fao L fcap) cv br m (.slice ao m.list.length cap) qvx fvx qs1 fs1 wa from by rw [hq1,hq2,hq3];exact S2.out);have HQL:=Hd (show qs1.length<=100000000001 from by rw [hq2];have:=HQL.out;omega);obtain ⟨qao,qcp,rfl⟩:=(show ∃a c,qvx = .slice a qs1.length c from by
   rcases HA.out.que.2 with ⟨e,h0⟩ | ⟨g,c,_,e,_⟩
   ·exact ⟨none,0,by rw [e,h0]⟩
   exact ⟨_,_,e⟩)
  clear S2 hq1 hq2 hq3;obtain ⟨ti,hi,hz0,hz1,hz2⟩:=info_parts Tryz.infoFlight;have HROW:=Hd HA.out.row;have HMSG:=Hd HA.out.msg;have KPA:=Hd (show ∀W:World,W.heap[mb]?=some (.cells #[.int .i64 m.kind,.int .i64 m.frm,.int .i64 m.to,.int .i64 m.height,.int .i64 m.round,.int .i64 m.valid,.string m.dig,.slice ao m.list.length cap] 36 (0,0))->W.cell? ⟨nb,4,none⟩=some (.int .i64 nw)->(λW=>W.cell? ⟨nb,4,none⟩=some (.int .i64 nw)∧W.cell? ⟨mb,0,none⟩=some (.int .i64 m.kind)∧W.cell? ⟨mb,1,none⟩=some (.int .i64 m.frm)∧W.cell? ⟨mb,2,none⟩=some (.int .i64 m.to)∧W.cell? ⟨mb,3,none⟩=some (.int .i64 m.height)∧W.cell? ⟨mb,4,none⟩=some (.int .i64 m.round)∧W.cell? ⟨mb,5,none⟩=some (.int .i64 m.valid)∧W.cell? ⟨mb,6,none⟩=some (.string m.dig)∧W.cell? ⟨mb,7,none⟩=some (.slice ao m.list.length cap)) W from λW h h4=>by
   obtain ⟨c0,c1,c2,c3,c4,c5,c6,c7,fz⟩:=Z1y.of h;exact ⟨h4,c0,c1,c2,c3,c4,c5,c6,c7⟩)
  have n4:=cell_of_row wa nb 4 _ _ _ HROW.out;have n5:=cell_of_row wa nb 5 _ _ _ HROW.out;simp [Z1b,iv] at n4 n5;obtain ⟨wz,hwz⟩:∃wz,wz=(wa.alloc (.cells #[.int .i64 m.kind,.int .i64 m.frm,.int .i64 m.to,.int .i64 m.height,.int .i64 m.round,.int .i64 m.valid,.string m.dig,.slice ao m.list.length cap,.int .i64 (nw+1+late)] 205)).drew:=⟨_,rfl⟩;have HBZ:=Hd (show Below wa.heap.size wa wz from by rw [hwz];exact ((Below.refl _ _).alloc (Nat.le_refl _) _).drew);have HOD:=Hd (show wz.ownsRow 0 205 9 (Value.slice qao qs1.length qcp) qs1.length (qs1.flatMap Z4n) from Z07 HA.out.que (λg _ hl=>HBZ.out.block g hl));have NEW:=Hd (show ∀j u,(Z4n ((m,.slice ao m.list.length cap),nw+1+late))[j]?=some u->wz.cell? ((⟨wa.heap.size,0,none⟩:Addr).add j)=some u from by
   rw [hwz];exact Z0w wa (Z4n ((m,.slice ao m.list.length cap),nw+1+late)) 205 wa.heap.size rfl)
  have HMZ:=Hd ((HBZ.out.block mb (gE HMSG.out).1).trans HMSG.out);have HNZ:=Hd ((HBZ.out.block nb (gE HROW.out).1).trans HROW.out);have KP0:=Hd (show (λW=>W.cell? ⟨nb,4,none⟩=some (.int .i64 nw)∧W.cell? ⟨mb,0,none⟩=some (.int .i64 m.kind)∧W.cell? ⟨mb,1,none⟩=some (.int .i64 m.frm)∧W.cell? ⟨mb,2,none⟩=some (.int .i64 m.to)∧W.cell? ⟨mb,3,none⟩=some (.int .i64 m.height)∧W.cell? ⟨mb,4,none⟩=some (.int .i64 m.round)∧W.cell? ⟨mb,5,none⟩=some (.int .i64 m.valid)∧W.cell? ⟨mb,6,none⟩=some (.string m.dig)∧W.cell? ⟨mb,7,none⟩=some (.slice ao m.list.length cap)) wa.drew from KPA.out wa.drew HMSG.out n4);have KPZ:=Hd (show (λW=>W.cell? ⟨nb,4,none⟩=some (.int .i64 nw)∧W.cell? ⟨mb,0,none⟩=some (.int .i64 m.kind)∧W.cell? ⟨mb,1,none⟩=some (.int .i64 m.frm)∧W.cell? ⟨mb,2,none⟩=some (.int .i64 m.to)∧W.cell? ⟨mb,3,none⟩=some (.int .i64 m.height)∧W.cell? ⟨mb,4,none⟩=some (.int .i64 m.round)∧W.cell? ⟨mb,5,none⟩=some (.int .i64 m.valid)∧W.cell? ⟨mb,6,none⟩=some (.string m.dig)∧W.cell? ⟨mb,7,none⟩=some (.slice ao m.list.length cap)) wz from KPA.out wz HMZ.out (by rw [cell_of_row wz nb 4 _ _ _ HNZ.out];rfl));have FIN:=Hd (show ∀(v2:Value) (w7:World),w7.ownsRow 0 205 9 v2 (qs1.length+1) (qs1.flatMap Z4n ++ Z4n ((m,.slice ao m.list.length cap),nw+1+late))->wz.grownBy w7 ((Value.slice qao qs1.length qcp)).ownBlock->(∀g,v2.ownBlock=some g->((Value.slice qao qs1.length qcp)).ownBlock=some g∨wz.heap.size<=g) ->
    Zgy W nb mb n li la nw nv qv (.slice fao L fcap) cv br m (.slice ao m.list.length cap) v2 fvx (qs1 ++ [((m,.slice ao m.list.length cap),nw+1+late)]) fs1 (w7.setCell ⟨nb,5,none⟩ v2)∧(∃g c,v2 = .slice (some ⟨g,0,none⟩) (qs1.length+1) c)∧w7.cell? ⟨nb,5,none⟩=some (Value.slice qao qs1.length qcp)∧(∀o,w7.frozen? ⟨nb,o,none⟩=false)∧(λW=>W.cell? ⟨nb,4,none⟩=some (.int .i64 nw)∧W.cell? ⟨mb,0,none⟩=some (.int .i64 m.kind)∧W.cell? ⟨mb,1,none⟩=some (.int .i64 m.frm)∧W.cell? ⟨mb,2,none⟩=some (.int .i64 m.to)∧W.cell? ⟨mb,3,none⟩=some (.int .i64 m.height)∧W.cell? ⟨mb,4,none⟩=some (.int .i64 m.round)∧W.cell? ⟨mb,5,none⟩=some (.int .i64 m.valid)∧W.cell? ⟨mb,6,none⟩=some (.string m.dig)∧W.cell? ⟨mb,7,none⟩=some (.slice ao m.list.length cap)) w7∧(λW=>W.cell? ⟨nb,4,none⟩=some (.int .i64 nw)∧W.cell? ⟨mb,0,none⟩=some (.int .i64 m.kind)∧W.cell? ⟨mb,1,none⟩=some (.int .i64 m.frm)∧W.cell? ⟨mb,2,none⟩=some (.int .i64 m.to)∧W.cell? ⟨mb,3,none⟩=some (.int .i64 m.height)∧W.cell? ⟨mb,4,none⟩=some (.int .i64 m.round)∧W.cell? ⟨mb,5,none⟩=some (.int .i64 m.valid)∧W.cell? ⟨mb,6,none⟩=some (.string m.dig)∧W.cell? ⟨mb,7,none⟩=some (.slice ao m.list.length cap)) (w7.setCell ⟨nb,5,none⟩ v2) from by
   intro v2 w7 own gr hn;have hz:=HBZ.out.size;have p1:=Za3 (i:=5) HNZ.out (by decide) HOD.out own gr;have hmz:=HMZ.out;have hm7:w7.heap[mb]?=some (.cells #[.int .i64 m.kind,.int .i64 m.frm,.int .i64 m.to,.int .i64 m.height,.int .i64 m.round,.int .i64 m.valid,.string m.dig,.slice ao m.list.length cap] 36 (0,0)):=(gr.block mb (gE hmz).1 (λe=>by
    obtain ⟨cc,hc⟩:=Z1e HOD.out e.symm;exact Z0p hmz hc (by decide) rfl)).trans hmz
   have hm8:(w7.setCell ⟨nb,5,none⟩ v2).heap[mb]?=some (.cells #[.int .i64 m.kind,.int .i64 m.frm,.int .i64 m.to,.int .i64 m.height,.int .i64 m.round,.int .i64 m.valid,.string m.dig,.slice ao m.list.length cap] 36 (0,0)):=(Below.heap_setCell _ ⟨nb,5,none⟩ _ mb (λe=>Z0p hmz HNZ.out (by decide) e)).trans hm7;refine ⟨HA.out.push hz HBZ.out p1 hm8 own hn,?_,?_,λo=>frozen_of_row w7 nb o _ _ p1.1,KPA.out w7 hm7 (by rw [cell_of_row w7 nb 4 _ _ _ p1.1];rfl),KPA.out _ hm8 (by rw [cell_of_row _ nb 4 _ _ _ p1.2.1];rfl)⟩
   ·rcases own.2 with ⟨_,h0⟩ | ⟨g,c,_,hv,_⟩
    ·omega
    exact ⟨g,c,hv⟩
   rw [cell_of_row w7 nb 5 _ _ _ p1.1];rfl)
  have n5a:=Z0h n5 (.cells #[.int .i64 m.kind,.int .i64 m.frm,.int .i64 m.to,.int .i64 m.height,.int .i64 m.round,.int .i64 m.valid,.string m.dig,.slice ao m.list.length cap,.int .i64 (nw+1+late)] 205);clear HROW HMSG KPA n4 HMZ HNZ;refine wp_region_held_drew (S:=λW=>W.cell? ⟨nb,4,none⟩=some (.int .i64 nw)∧W.cell? ⟨mb,0,none⟩=some (.int .i64 m.kind)∧W.cell? ⟨mb,1,none⟩=some (.int .i64 m.frm)∧W.cell? ⟨mb,2,none⟩=some (.int .i64 m.to)∧W.cell? ⟨mb,3,none⟩=some (.int .i64 m.height)∧W.cell? ⟨mb,4,none⟩=some (.int .i64 m.round)∧W.cell? ⟨mb,5,none⟩=some (.int .i64 m.valid)∧W.cell? ⟨mb,6,none⟩=some (.string m.dig)∧W.cell? ⟨mb,7,none⟩=some (.slice ao m.list.length cap)) (by kernel_rfl) (KP0.out) (λhHeld=>?_);refine hyw (i:=0) hHeld ?_;try simp only [Act.put,zz]
  refine hyw (i:=1) hHeld ?_;try simp only [Act.put,zz]
  refine hyw (i:=2) hHeld ?_;try simp only [Act.put,zz]
  refine hyw (i:=3) hHeld ?_;try simp only [Act.put,zz]
  refine hyw (i:=5) hHeld ?_;try simp only [Act.put,zz]
  refine hyw (i:=6) hHeld ?_;try simp only [Act.put,zz]
  refine hyw (i:=7) hHeld ?_;try simp only [Act.put,zz]
  refine hyw (i:=8) hHeld ?_;try simp only [Act.put,zz]
  refine hyw (i:=9) hHeld ?_;try simp only [Act.put,zz]
  refine hyw (i:=10) hHeld ?_;try simp only [Act.put,zz]
  refine hyw (i:=11) hHeld ?_;try simp only [Act.put,zz]
  refine hyw (i:=12) hHeld ?_;try simp only [Act.put,zz]
  refine hyw (i:=13) hHeld ?_;try simp only [Act.put,zz]
  refine wpAnyH_ready (rs:=[4,14]) (by kernel_rfl) (by simp) ?_;refine AllReadyH.cons (o:=_) rfl (λK hK=>?_) (AllReadyH.cons (o:=_) rfl (λK hK=>?_) AllReadyH.nil)
  ·go_simp;clear hHeld;go_wp2_with fail
   refine hK.out _ _ (KP0.out) (λhHeld=>?_);clear hK K;try simp only [Act.put,zz]
   refine wpAnyH_ready (rs:=[14]) (by kernel_rfl) (by simp) ?_;refine AllReadyH.cons (o:=_) rfl (λK hK=>?_) AllReadyH.nil;go_simp;clear hHeld;go_wp2_with fail
   refine hK.out _ _ (by rw [<-hwz];exact KPZ.out) (λhHeld=>?_);clear hK K;try simp only [Act.put,zz]
   refine wpAnyH_ready (rs:=[15]) (by kernel_rfl) (by simp) ?_;refine AllReadyH.cons (o:=_) rfl (λK hK=>?_) AllReadyH.nil;clear hHeld;refine Z2d (by rfl) (.tmp 46) (.tmp 56) 46 (by rfl) 0 205 ti zF 9 96 Tryz.underlying46 hi hz0 hz1 hz2 (by rfl) (by decide) (Value.slice qao qs1.length qcp) qs1.length (qs1.flatMap Z4n) ?_ ?_ ⟨wa.heap.size,0,none⟩ 1 1 (Z4n ((m,.slice ao m.list.length cap),nw+1+late)) ?_ (by rfl) ?_ (Z7j _ _ _ _ _) ?_ ?_ ?_ ?_;(simp [Act.eval,Act.put]);(rw [<-hwz];with_reducible exact HOD.out);(simp [Act.eval,Act.put]);(rw [<-hwz];with_reducible exact NEW.out);(unfold maxLen;have:=HQL.out;omega);(have:=HQL.out;omega);omega;rw [<-hwz];intro v2 w7 own2 gr2 hn2;obtain ⟨hfin,⟨g2,cp2,rfl⟩,hx7,hf7,hs7,hs8⟩:=FIN.out v2 w7 own2 gr2 hn2;have HF:=Hd hfin;have HS7:=Hd hs7;have HS8:=Hd hs8;clear hfin own2 gr2 hn2 hs7 hs8
   refine hK.out _ _ (HS7.out) (λhHeld=>?_);clear hK K;try simp only [Act.put,zz]
   refine hyw (i:=16) hHeld ?_;try simp only [Act.put,zz]
   refine hyw (i:=17) hHeld ?_;try simp only [Act.put,zz]
   refine wpAnyH_ready (rs:=[18]) (by kernel_rfl) (by simp) ?_;refine AllReadyH.cons (o:=_) rfl (λK hK=>?_) AllReadyH.nil;go_simp;clear hHeld;go_wp2_with fail
   refine hK.out _ _ (HS8.out) (λhHeld=>?_);clear hK K;try simp only [Act.put,zz]
   refine wpAnyH_done (by kernel_rfl) ?_ _;go_wp2
   go_meet;rw [<-HQ2.out,<-HQ3.out];exact ⟨_,HF.out⟩
  go_simp;clear hHeld;go_wp2_with fail
  refine hK.out _ _ (by rw [<-hwz];exact KPZ.out) (λhHeld=>?_);clear hK K;try simp only [Act.put,zz]
  refine wpAnyH_ready (rs:=[4]) (by kernel_rfl) (by simp) ?_;refine AllReadyH.cons (o:=_) rfl (λK hK=>?_) AllReadyH.nil;go_simp;clear hHeld;go_wp2_with fail
  refine hK.out _ _ (by rw [<-hwz];exact KPZ.out) (λhHeld=>?_);clear hK K;try simp only [Act.put,zz]
  refine wpAnyH_ready (rs:=[15]) (by kernel_rfl) (by simp) ?_;refine AllReadyH.cons (o:=_) rfl (λK hK=>?_) AllReadyH.nil;clear hHeld;refine Z2d (by rfl) (.tmp 46) (.tmp 56) 46 (by rfl) 0 205 ti zF 9 96 Tryz.underlying46 hi hz0 hz1 hz2 (by rfl) (by decide) (Value.slice qao qs1.length qcp) qs1.length (qs1.flatMap Z4n) ?_ ?_ ⟨wa.heap.size,0,none⟩ 1 1 (Z4n ((m,.slice ao m.list.length cap),nw+1+late)) ?_ (by rfl) ?_ (Z7j _ _ _ _ _) ?_ ?_ ?_ ?_;(simp [Act.eval,Act.put]);(rw [<-hwz];with_reducible exact HOD.out);(simp [Act.eval,Act.put]);(rw [<-hwz];with_reducible exact NEW.out);(unfold maxLen;have:=HQL.out;omega);(have:=HQL.out;omega);omega;rw [<-hwz];intro v2 w7 own2 gr2 hn2;obtain ⟨hfin,⟨g2,cp2,rfl⟩,hx7,hf7,hs7,hs8⟩:=FIN.out v2 w7 own2 gr2 hn2;have HF:=Hd hfin;have HS7:=Hd hs7;have HS8:=Hd hs8;clear hfin own2 gr2 hn2 hs7 hs8
  refine hK.out _ _ (HS7.out) (λhHeld=>?_);clear hK K;try simp only [Act.put,zz]
  refine hyw (i:=16) hHeld ?_;try simp only [Act.put,zz]
  refine hyw (i:=17) hHeld ?_;try simp only [Act.put,zz]
  refine wpAnyH_ready (rs:=[18]) (by kernel_rfl) (by simp) ?_;refine AllReadyH.cons (o:=_) rfl (λK hK=>?_) AllReadyH.nil;go_simp;clear hHeld;go_wp2_with fail
  refine hK.out _ _ (HS8.out) (λhHeld=>?_);clear hK K;try simp only [Act.put,zz]
  refine wpAnyH_done (by kernel_rfl) ?_ _;go_wp2
  go_meet;rw [<-HQ2.out,<-HQ3.out];exact ⟨_,HF.out⟩
 case rest=>
 obtain ⟨v9,hcut⟩:=hcut;obtain ⟨wa,rfl⟩:∃wa:World,wa=wc:=⟨_,rfl⟩;have S9:=Hd hcut;clear hcut S2;by_cases h2:f0=2
 ·have y2:(f0 == 2)=true:=by rw [h2];rfl
  have HE:=Hd (show Za4 nw m (.slice ao m.list.length cap) fs qs=(qs ++ [((m,(.slice ao m.list.length cap)),nw+1+late)]) ++ [((m,(.slice ao m.list.length cap)),nw+3)] from by
   unfold Za4;rw [<-HF0.out,if_neg HN1.out,<-HLT.out,if_pos h2];simp)
  clear h2 HLT HF0 HN1;obtain ⟨qvx,qs1,fs1,hq1,hq2,hq3⟩:∃qvx qs1 fs1,qvx=v9∧qs1=qs ++ [((m,(.slice ao m.list.length cap)),nw+1+late)]∧fs1=fs.drop 1 ++ fs.take 1:=⟨_,_,_,rfl,rfl,rfl⟩;have HQ2:=Hd hq2;have HQ3:=Hd hq3;have HA:=Hd (show Zgy W nb mb n li la nw nv qv (.slice fao L fcap) cv br m (.slice ao m.list.length cap) qvx fvx qs1 fs1 wa from by rw [hq1,hq2,hq3];exact S9.out);have HQL:=Hd (show qs1.length<=100000000001 from by rw [hq2,List.length_append];have:=HQL.out;simp;omega);obtain ⟨qao,qcp,rfl⟩:=(show ∃a c,qvx = .slice a qs1.length c from by
   rcases HA.out.que.2 with ⟨e,h0⟩ | ⟨g,c,_,e,_⟩
   ·exact ⟨none,0,by rw [e,h0]⟩
   exact ⟨_,_,e⟩)
  clear S9 hq1 hq2 hq3;go_upto_region 11 with (fail)
  obtain ⟨ti,hi,hz0,hz1,hz2⟩:=info_parts Tryz.infoFlight;have HROW:=Hd HA.out.row;have HMSG:=Hd HA.out.msg;have KPA:=Hd (show ∀W:World,W.heap[mb]?=some (.cells #[.int .i64 m.kind,.int .i64 m.frm,.int .i64 m.to,.int .i64 m.height,.int .i64 m.round,.int .i64 m.valid,.string m.dig,.slice ao m.list.length cap] 36 (0,0))->W.cell? ⟨nb,4,none⟩=some (.int .i64 nw)->(λW=>W.cell? ⟨nb,4,none⟩=some (.int .i64 nw)∧W.cell? ⟨mb,0,none⟩=some (.int .i64 m.kind)∧W.cell? ⟨mb,1,none⟩=some (.int .i64 m.frm)∧W.cell? ⟨mb,2,none⟩=some (.int .i64 m.to)∧W.cell? ⟨mb,3,none⟩=some (.int .i64 m.height)∧W.cell? ⟨mb,4,none⟩=some (.int .i64 m.round)∧W.cell? ⟨mb,5,none⟩=some (.int .i64 m.valid)∧W.cell? ⟨mb,6,none⟩=some (.string m.dig)∧W.cell? ⟨mb,7,none⟩=some (.slice ao m.list.length cap)) W from λW h h4=>by
   obtain ⟨c0,c1,c2,c3,c4,c5,c6,c7,fz⟩:=Z1y.of h;exact ⟨h4,c0,c1,c2,c3,c4,c5,c6,c7⟩)
  have n4:=cell_of_row wa nb 4 _ _ _ HROW.out;have n5:=cell_of_row wa nb 5 _ _ _ HROW.out;simp [Z1b,iv] at n4 n5;obtain ⟨wz,hwz⟩:∃wz,wz=(wa.alloc (.cells #[.int .i64 m.kind,.int .i64 m.frm,.int .i64 m.to,.int .i64 m.height,.int .i64 m.round,.int .i64 m.valid,.string m.dig,.slice ao m.list.length cap,.int .i64 (nw+3)] 205)).drew:=⟨_,rfl⟩;have HBZ:=Hd (show Below wa.heap.size wa wz from by rw [hwz];exact ((Below.refl _ _).alloc (Nat.le_refl _) _).drew);have HOD:=Hd (show wz.ownsRow 0 205 9 (Value.slice qao qs1.length qcp) qs1.length (qs1.flatMap Z4n) from Z07 HA.out.que (λg _ hl=>HBZ.out.block g hl));have NEW:=Hd (show ∀j u,(Z4n ((m,.slice ao m.list.length cap),nw+3))[j]?=some u->wz.cell? ((⟨wa.heap.size,0,none⟩:Addr).add j)=some u from by
   rw [hwz];exact Z0w wa (Z4n ((m,.slice ao m.list.length cap),nw+3)) 205 wa.heap.size rfl)
  have HMZ:=Hd ((HBZ.out.block mb (gE HMSG.out).1).trans HMSG.out);have HNZ:=Hd ((HBZ.out.block nb (gE HROW.out).1).trans HROW.out);have KP0:=Hd (show (λW=>W.cell? ⟨nb,4,none⟩=some (.int .i64 nw)∧W.cell? ⟨mb,0,none⟩=some (.int .i64 m.kind)∧W.cell? ⟨mb,1,none⟩=some (.int .i64 m.frm)∧W.cell? ⟨mb,2,none⟩=some (.int .i64 m.to)∧W.cell? ⟨mb,3,none⟩=some (.int .i64 m.height)∧W.cell? ⟨mb,4,none⟩=some (.int .i64 m.round)∧W.cell? ⟨mb,5,none⟩=some (.int .i64 m.valid)∧W.cell? ⟨mb,6,none⟩=some (.string m.dig)∧W.cell? ⟨mb,7,none⟩=some (.slice ao m.list.length cap)) wa.drew from KPA.out wa.drew HMSG.out n4);have KPZ:=Hd (show (λW=>W.cell? ⟨nb,4,none⟩=some (.int .i64 nw)∧W.cell? ⟨mb,0,none⟩=some (.int .i64 m.kind)∧W.cell? ⟨mb,1,none⟩=some (.int .i64 m.frm)∧W.cell? ⟨mb,2,none⟩=some (.int .i64 m.to)∧W.cell? ⟨mb,3,none⟩=some (.int .i64 m.height)∧W.cell? ⟨mb,4,none⟩=some (.int .i64 m.round)∧W.cell? ⟨mb,5,none⟩=some (.int .i64 m.valid)∧W.cell? ⟨mb,6,none⟩=some (.string m.dig)∧W.cell? ⟨mb,7,none⟩=some (.slice ao m.list.length cap)) wz from KPA.out wz HMZ.out (by rw [cell_of_row wz nb 4 _ _ _ HNZ.out];rfl));have FIN:=Hd (show ∀(v2:Value) (w7:World),w7.ownsRow 0 205 9 v2 (qs1.length+1) (qs1.flatMap Z4n ++ Z4n ((m,.slice ao m.list.length cap),nw+3))->wz.grownBy w7 ((Value.slice qao qs1.length qcp)).ownBlock->(∀g,v2.ownBlock=some g->((Value.slice qao qs1.length qcp)).ownBlock=some g∨wz.heap.size<=g) ->
    Zgy W nb mb n li la nw nv qv (.slice fao L fcap) cv br m (.slice ao m.list.length cap) v2 fvx (qs1 ++ [((m,.slice ao m.list.length cap),nw+3)]) fs1 (w7.setCell ⟨nb,5,none⟩ v2)∧(∃g c,v2 = .slice (some ⟨g,0,none⟩) (qs1.length+1) c)∧w7.cell? ⟨nb,5,none⟩=some (Value.slice qao qs1.length qcp)∧(∀o,w7.frozen? ⟨nb,o,none⟩=false)∧(λW=>W.cell? ⟨nb,4,none⟩=some (.int .i64 nw)∧W.cell? ⟨mb,0,none⟩=some (.int .i64 m.kind)∧W.cell? ⟨mb,1,none⟩=some (.int .i64 m.frm)∧W.cell? ⟨mb,2,none⟩=some (.int .i64 m.to)∧W.cell? ⟨mb,3,none⟩=some (.int .i64 m.height)∧W.cell? ⟨mb,4,none⟩=some (.int .i64 m.round)∧W.cell? ⟨mb,5,none⟩=some (.int .i64 m.valid)∧W.cell? ⟨mb,6,none⟩=some (.string m.dig)∧W.cell? ⟨mb,7,none⟩=some (.slice ao m.list.length cap)) w7∧(λW=>W.cell? ⟨nb,4,none⟩=some (.int .i64 nw)∧W.cell? ⟨mb,0,none⟩=some (.int .i64 m.kind)∧W.cell? ⟨mb,1,none⟩=some (.int .i64 m.frm)∧W.cell? ⟨mb,2,none⟩=some (.int .i64 m.to)∧W.cell? ⟨mb,3,none⟩=some (.int .i64 m.height)∧W.cell? ⟨mb,4,none⟩=some (.int .i64 m.round)∧W.cell? ⟨mb,5,none⟩=some (.int .i64 m.valid)∧W.cell? ⟨mb,6,none⟩=some (.string m.dig)∧W.cell? ⟨mb,7,none⟩=some (.slice ao m.list.length cap)) (w7.setCell ⟨nb,5,none⟩ v2) from by
   intro v2 w7 own gr hn;have hz:=HBZ.out.size;have p1:=Za3 (i:=5) HNZ.out (by decide) HOD.out own gr;have hmz:=HMZ.out;have hm7:w7.heap[mb]?=some (.cells #[.int .i64 m.kind,.int .i64 m.frm,.int .i64 m.to,.int .i64 m.height,.int .i64 m.round,.int .i64 m.valid,.string m.dig,.slice ao m.list.length cap] 36 (0,0)):=(gr.block mb (gE hmz).1 (λe=>by
    obtain ⟨cc,hc⟩:=Z1e HOD.out e.symm;exact Z0p hmz hc (by decide) rfl)).trans hmz
   have hm8:(w7.setCell ⟨nb,5,none⟩ v2).heap[mb]?=some (.cells #[.int .i64 m.kind,.int .i64 m.frm,.int .i64 m.to,.int .i64 m.height,.int .i64 m.round,.int .i64 m.valid,.string m.dig,.slice ao m.list.length cap] 36 (0,0)):=(Below.heap_setCell _ ⟨nb,5,none⟩ _ mb (λe=>Z0p hmz HNZ.out (by decide) e)).trans hm7;refine ⟨HA.out.push hz HBZ.out p1 hm8 own hn,?_,?_,λo=>frozen_of_row w7 nb o _ _ p1.1,KPA.out w7 hm7 (by rw [cell_of_row w7 nb 4 _ _ _ p1.1];rfl),KPA.out _ hm8 (by rw [cell_of_row _ nb 4 _ _ _ p1.2.1];rfl)⟩
   ·rcases own.2 with ⟨_,h0⟩ | ⟨g,c,_,hv,_⟩
    ·omega
    exact ⟨g,c,hv⟩
   rw [cell_of_row w7 nb 5 _ _ _ p1.1];rfl)
  have n5a:=Z0h n5 (.cells #[.int .i64 m.kind,.int .i64 m.frm,.int .i64 m.to,.int .i64 m.height,.int .i64 m.round,.int .i64 m.valid,.string m.dig,.slice ao m.list.length cap,.int .i64 (nw+3)] 205);clear HROW HMSG KPA n4 HMZ HNZ;refine wp_region_held_drew (S:=λW=>W.cell? ⟨nb,4,none⟩=some (.int .i64 nw)∧W.cell? ⟨mb,0,none⟩=some (.int .i64 m.kind)∧W.cell? ⟨mb,1,none⟩=some (.int .i64 m.frm)∧W.cell? ⟨mb,2,none⟩=some (.int .i64 m.to)∧W.cell? ⟨mb,3,none⟩=some (.int .i64 m.height)∧W.cell? ⟨mb,4,none⟩=some (.int .i64 m.round)∧W.cell? ⟨mb,5,none⟩=some (.int .i64 m.valid)∧W.cell? ⟨mb,6,none⟩=some (.string m.dig)∧W.cell? ⟨mb,7,none⟩=some (.slice ao m.list.length cap)) (by kernel_rfl) (KP0.out) (λhHeld=>?_);refine hyw (i:=0) hHeld ?_;try simp only [Act.put,zz]
  refine hyw (i:=1) hHeld ?_;try simp only [Act.put,zz]
  refine hyw (i:=2) hHeld ?_;try simp only [Act.put,zz]
  refine hyw (i:=3) hHeld ?_;try simp only [Act.put,zz]
  refine hyw (i:=5) hHeld ?_;try simp only [Act.put,zz]
  refine hyw (i:=6) hHeld ?_;try simp only [Act.put,zz]
  refine hyw (i:=7) hHeld ?_;try simp only [Act.put,zz]
  refine hyw (i:=8) hHeld ?_;try simp only [Act.put,zz]
  refine hyw (i:=9) hHeld ?_;try simp only [Act.put,zz]
  refine hyw (i:=10) hHeld ?_;try simp only [Act.put,zz]
  refine hyw (i:=11) hHeld ?_;try simp only [Act.put,zz]
  refine wpAnyH_ready (rs:=[4,12]) (by kernel_rfl) (by simp) ?_;refine AllReadyH.cons (o:=_) rfl (λK hK=>?_) (AllReadyH.cons (o:=_) rfl (λK hK=>?_) AllReadyH.nil)
  ·go_simp;clear hHeld;go_wp2_with fail
   refine hK.out _ _ (KP0.out) (λhHeld=>?_);clear hK K;try simp only [Act.put,zz]
   refine wpAnyH_ready (rs:=[12]) (by kernel_rfl) (by simp) ?_;refine AllReadyH.cons (o:=_) rfl (λK hK=>?_) AllReadyH.nil;go_simp;clear hHeld;go_wp2_with fail
   refine hK.out _ _ (by rw [<-hwz];exact KPZ.out) (λhHeld=>?_);clear hK K;try simp only [Act.put,zz]
   refine wpAnyH_ready (rs:=[13]) (by kernel_rfl) (by simp) ?_;refine AllReadyH.cons (o:=_) rfl (λK hK=>?_) AllReadyH.nil;clear hHeld;refine Z2d (by rfl) (.tmp 66) (.tmp 74) 46 (by rfl) 0 205 ti zF 9 96 Tryz.underlying46 hi hz0 hz1 hz2 (by rfl) (by decide) (Value.slice qao qs1.length qcp) qs1.length (qs1.flatMap Z4n) ?_ ?_ ⟨wa.heap.size,0,none⟩ 1 1 (Z4n ((m,.slice ao m.list.length cap),nw+3)) ?_ (by rfl) ?_ (Z7j _ _ _ _ _) ?_ ?_ ?_ ?_;(simp [Act.eval,Act.put]);(rw [<-hwz];with_reducible exact HOD.out);(simp [Act.eval,Act.put]);(rw [<-hwz];with_reducible exact NEW.out);(unfold maxLen;have:=HQL.out;omega);(have:=HQL.out;omega);omega;rw [<-hwz];intro v2 w7 own2 gr2 hn2;obtain ⟨hfin,⟨g2,cp2,rfl⟩,hx7,hf7,hs7,hs8⟩:=FIN.out v2 w7 own2 gr2 hn2;have HF:=Hd hfin;have HS7:=Hd hs7;have HS8:=Hd hs8;clear hfin own2 gr2 hn2 hs7 hs8
   refine hK.out _ _ (HS7.out) (λhHeld=>?_);clear hK K;try simp only [Act.put,zz]
   refine hyw (i:=14) hHeld ?_;try simp only [Act.put,zz]
   refine hyw (i:=15) hHeld ?_;try simp only [Act.put,zz]
   refine wpAnyH_ready (rs:=[16]) (by kernel_rfl) (by simp) ?_;refine AllReadyH.cons (o:=_) rfl (λK hK=>?_) AllReadyH.nil;go_simp;clear hHeld;go_wp2_with fail
   refine hK.out _ _ (HS8.out) (λhHeld=>?_);clear hK K;try simp only [Act.put,zz]
   refine wpAnyH_done (by kernel_rfl) ?_ _;go_wp2
   refine bodyPost_end (results_none rfl _ _ _) rfl ?_;rw [HE.out,<-HQ2.out,<-HQ3.out];exact ⟨rfl,_,_,HF.out⟩
  go_simp;clear hHeld;go_wp2_with fail
  refine hK.out _ _ (by rw [<-hwz];exact KPZ.out) (λhHeld=>?_);clear hK K;try simp only [Act.put,zz]
  refine wpAnyH_ready (rs:=[4]) (by kernel_rfl) (by simp) ?_;refine AllReadyH.cons (o:=_) rfl (λK hK=>?_) AllReadyH.nil;go_simp;clear hHeld;go_wp2_with fail
  refine hK.out _ _ (by rw [<-hwz];exact KPZ.out) (λhHeld=>?_);clear hK K;try simp only [Act.put,zz]
  refine wpAnyH_ready (rs:=[13]) (by kernel_rfl) (by simp) ?_;refine AllReadyH.cons (o:=_) rfl (λK hK=>?_) AllReadyH.nil;clear hHeld;refine Z2d (by rfl) (.tmp 66) (.tmp 74) 46 (by rfl) 0 205 ti zF 9 96 Tryz.underlying46 hi hz0 hz1 hz2 (by rfl) (by decide) (Value.slice qao qs1.length qcp) qs1.length (qs1.flatMap Z4n) ?_ ?_ ⟨wa.heap.size,0,none⟩ 1 1 (Z4n ((m,.slice ao m.list.length cap),nw+3)) ?_ (by rfl) ?_ (Z7j _ _ _ _ _) ?_ ?_ ?_ ?_;(simp [Act.eval,Act.put]);(rw [<-hwz];with_reducible exact HOD.out);(simp [Act.eval,Act.put]);(rw [<-hwz];with_reducible exact NEW.out);(unfold maxLen;have:=HQL.out;omega);(have:=HQL.out;omega);omega;rw [<-hwz];intro v2 w7 own2 gr2 hn2;obtain ⟨hfin,⟨g2,cp2,rfl⟩,hx7,hf7,hs7,hs8⟩:=FIN.out v2 w7 own2 gr2 hn2;have HF:=Hd hfin;have HS7:=Hd hs7;have HS8:=Hd hs8;clear hfin own2 gr2 hn2 hs7 hs8
  refine hK.out _ _ (HS7.out) (λhHeld=>?_);clear hK K;try simp only [Act.put,zz]
  refine hyw (i:=14) hHeld ?_;try simp only [Act.put,zz]
  refine hyw (i:=15) hHeld ?_;try simp only [Act.put,zz]
  refine wpAnyH_ready (rs:=[16]) (by kernel_rfl) (by simp) ?_;refine AllReadyH.cons (o:=_) rfl (λK hK=>?_) AllReadyH.nil;go_simp;clear hHeld;go_wp2_with fail
  refine hK.out _ _ (HS8.out) (λhHeld=>?_);clear hK K;try simp only [Act.put,zz]
  refine wpAnyH_done (by kernel_rfl) ?_ _;go_wp2
  refine bodyPost_end (results_none rfl _ _ _) rfl ?_;rw [HE.out,<-HQ2.out,<-HQ3.out];exact ⟨rfl,_,_,HF.out⟩
 have y2:(f0 == 2)=false:=by simpa using h2
 have HE:=Hd (show Za4 nw m (.slice ao m.list.length cap) fs qs=qs ++ [((m,(.slice ao m.list.length cap)),nw+1+late)] from by
  unfold Za4;rw [<-HF0.out,if_neg HN1.out,<-HLT.out,if_neg h2])
 clear h2;go_wp2_with fail
 refine bodyPost_end (results_none rfl _ _ _) rfl ?_;rw [HE.out];exact ⟨rfl,_,_,S9.out⟩
end
end
end Go.Proofs.YtifcdjmcoibblaaGreatDoor
