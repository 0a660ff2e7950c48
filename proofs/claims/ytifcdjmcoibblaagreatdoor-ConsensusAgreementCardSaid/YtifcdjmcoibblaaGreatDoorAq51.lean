/- Fat Dsb Bla -/
import Derived.Test.YtifcdjmcoibblaaGreatDoorAq50
set_option linter.unusedVariables false
set_option linter.unusedSimpArgs false
set_option linter.unusedSectionVars false
set_option maxRecDepth 100000
set_option maxHeartbeats 80000000
namespace Go.Proofs.YtifcdjmcoibblaaGreatDoor
section
open Go.RowKit
section
variable {base:Nat} {w1 W W':World} {nb gn nc:Nat} {cur:Array Value} {xs:List Nat} {st:Z0g} {A B:Nat->Prop}
theorem Z0q.noFates (h:Z0q base w1 nb gn nc cur xs st A W):Z0q base w1 nb gn nc cur xs {st with fates:=[]} A (W.setCell ⟨nb,6,none⟩ (.slice none 0 0))∧Z0d A W (W.setCell ⟨nb,6,none⟩ (.slice none 0 0)):=by
 obtain ⟨Rs,qv,fv,cv,qs,h⟩:=h;have ho:∀(g:Nat) (cur:Array Value) (t2:Nat),W.heap[g]?=some (Obj.cells cur t2 (0,0))->t2≠50->(W.setCell ⟨nb,6,none⟩ (.slice none 0 0)).heap[g]?=W.heap[g]?:=λg cur t2 hg hn=>Below.heap_setCell _ ⟨nb,6,none⟩ _ g (λe=>Z0p hg h.row hn e);obtain ⟨h1,h2⟩:=h.turn (B:=A) (W':=W.setCell ⟨nb,6,none⟩ (.slice none 0 0)) (st':={st with fates:=[]}) (qv':=qv) (fv':=.slice none 0 0) (cv':=cv) (qs':=qs) (Chg.set _ nb 6 _ (.inl rfl)) (Z05 h.row _) rfl
  (Z09 h.que (λg cur _ hc=>ho g cur _ hc (by decide))) h.qst (λp hp=>.inl hp) (Z3f.nil _) (Z09 h.cst (λg cur _ hc=>ho g cur _ hc (by decide))) (λk hk=>hk) (λk hk=>by
   rcases hk with q | q | q
   ·exact .inl (.inl q)
   ·cases q
   exact .inl (.inr (.inr q)))
 exact ⟨⟨Rs,qv,_,cv,qs,h1⟩,h2⟩
theorem Z0q.fate (h:Z0q base w1 nb gn nc cur xs st A W):∃fv,W.cell? ⟨nb,6,none⟩=some fv∧W.ownsRow 0 3 1 fv st.fates.length (st.fates.map iv) ∧
  ∀(wz w7:World) (v2:Value) (f:Int),Below W.heap.size W wz->w7.ownsRow 0 3 1 v2 (st.fates.length+1) (st.fates.map iv ++ [iv f])->wz.grownBy w7 fv.ownBlock->(∀g,v2.ownBlock=some g->fv.ownBlock=some g∨wz.heap.size<=g) ->
   Z0q base w1 nb gn nc cur xs {st with fates:=st.fates ++ [f]} A (w7.setCell ⟨nb,6,none⟩ v2)∧Z0d A W (w7.setCell ⟨nb,6,none⟩ v2)∧Z0d A W w7∧w7.cell? ⟨nb,6,none⟩=some fv∧∀o,w7.frozen? ⟨nb,o,none⟩=false:=by
 obtain ⟨Rs,qv,fv,cv,qs,h⟩:=h;refine ⟨fv,by rw [h.cell 6];rfl,h.fat,λwz w7 v2 f hb own gr hl=>?_⟩;have h2:=h.later hb;obtain ⟨p0,p1,p2,p3⟩:=Za3 (i:=6) h2.row (by decide) h2.fat own gr;have hne:∀(g:Nat) (cc:Array Value) (t:Nat),wz.heap[g]?=some (.cells cc t (0,0))->t≠50->t≠3->(w7.setCell ⟨nb,6,none⟩ v2).heap[g]?=wz.heap[g]?:=λg cc t hg n1 n2=>p3.block g (gE hg).1 (λe=>by
  rcases e with e | e
  ·exact Z0p hg h2.row n1 e
  obtain ⟨c,hc⟩:=Z1e h2.fat e;exact Z0p hg hc n2 rfl)
 obtain ⟨k1,k2⟩:=h2.turn (B:=A) (W':=w7.setCell ⟨nb,6,none⟩ v2) (st':={st with fates:=st.fates ++ [f]}) (qv':=qv) (fv':=v2) (cv':=cv) (qs':=qs) (p3.mono (λk _ e=>by
   rcases e with e | e
   ·exact .inl e
   exact .inr (.inr (.inl e)))) p1 rfl
  (Z09 h2.que (λg cc _ hc=>hne g cc _ hc (by decide) (by decide))) h2.qst (λp hp=>.inl hp) (by
   show World.ownsRow _ _ _ _ _ _ _;rw [List.length_append,List.map_append];exact p2) (Z09 h2.cst (λg cc _ hc=>hne g cc _ hc (by decide) (by decide))) (λk hk=>hk) (λk hk=>by
   rcases hk with q | q | q
   ·exact .inl (.inl q)
   ·rcases hl k q with e | e
    ·exact .inl (.inr (.inl e))
    exact .inr (.inl e)
   exact .inl (.inr (.inr q)))
 have hs:=Nat.le_trans hb.size gr.size;refine ⟨⟨Rs,qv,v2,cv,qs,k1⟩,(h.keepB hb).trans k2 (λ_ q=>q),⟨hs,λk hk=>?_⟩,?_,λo=>frozen_of_row w7 nb o _ _ p0⟩
 ·rw [gr.block k (Nat.lt_of_lt_of_le (h.lt hk) hb.size) (λe=>(h.bes k hk).2.2 (.inr (.inr (.inr (.inl e.symm)))))];exact hb.block k (h.lt hk)
 rw [cell_of_row w7 nb 6 _ _ _ p0];rfl
end
end
section
open Go.RowKit
theorem Zh4 (st:Z0g) (i:Nat):(st.restart i).now=st.now:=by
 unfold Z0g.restart;split
 ·rfl
 split <;> rfl
theorem Zn7 (z:Int):∀u∈[iv z],u.oneCell'=true:=by
 intro u hu;obtain rfl:u=iv z:=by simpa using hu
 rfl
def Zsl (base:Nat) (w1:World) (nb:Nat) (A:Nat->Prop) (W:World) (H F N K T G M:Nat) (e:Ending) (w':World):Prop:=
 e = .returned (.tuple #[])∧∃gn nc cur xs st,Z0q base w1 nb gn nc cur xs st A w'∧Z0d A W w'∧Z2i H F N st∧Lim st (K+300000) (T+40) (G+2)∧st.now<=((M+10:Nat):Int)
section
variable {base:Nat} {w1 W W':World} {nb gn nc:Nat} {cur:Array Value} {xs:List Nat} {st:Z0g} {A B:Nat->Prop} {H F N K T G M:Nat}
theorem Zh5 (n:Num H F N) (h:Z0q base w1 nb gn nc cur xs st A W) (g:Z2i H F N st) (hL:Lim st K T G) (hm:st.now<=(M:Int)) (hK:K<=100000000) (hT:T<=1000000) (hG:G<=990) (hM:M<=1000000) (o:OpR) (hok:o.Ok) :
  Calls Tryz.prog 53 #[pv nb,o.val] W (Zsl base w1 nb A W H F N K T G M):=by
 have hl:xs.length=H:=by rw [h.len];exact g.len
 have n0:=n.h3;have n1:=n.hN;have n2:=n.n7;have n3:=n.n4;have HNM:=Hd n;have HG:=Hd g;have HLM:=Hd hL;have HM:=Hd hm;have HKK:=Hd (show K<=100000000∧T<=1000000∧G<=990∧M<=1000000 from ⟨hK,hT,hG,hM⟩);have HOK:=Hd hok;have HXH:=Hd hl;have h8:(H:Int)<=7:=by omega
 obtain ⟨q,hq12,hpq⟩:=Z10 o.kd 12 (by omega);obtain ⟨ka,hka,hpa⟩:=Z10 o.a 4 (by omega);obtain ⟨t,ht,hpt⟩:=Z10 o.b H (by omega);obtain ⟨k3,hk3,hp3⟩:=Z10 o.a 3 (by omega);have PQ:=Hd (show ∀W,Calls Tryz.prog 14 #[.int .i64 o.kd,.int .i64 12] W λe w'=>e = .returned (.int .i64 (q:Int))∧w'=W from λW=>(Z2e o.kd 12 W hok.kd.1 hok.kd.2 (by omega) (by omega)).mono λe w' q=>⟨by rw [q.1];exact congrArg _ (congrArg _ hpq),q.2.symm⟩);have PA:=Hd (show ∀W,Calls Tryz.prog 14 #[.int .i64 o.a,.int .i64 4] W λe w'=>e = .returned (.int .i64 (ka:Int))∧w'=W from λW=>(Z2e o.a 4 W hok.a.1 hok.a.2 (by omega) (by omega)).mono λe w' q=>⟨by rw [q.1];exact congrArg _ (congrArg _ hpa),q.2.symm⟩);have P3:=Hd (show ∀W,Calls Tryz.prog 14 #[.int .i64 o.a,.int .i64 3] W λe w'=>e = .returned (.int .i64 (k3:Int))∧w'=W from λW=>(Z2e o.a 3 W hok.a.1 hok.a.2 (by omega) (by omega)).mono λe w' q=>⟨by rw [q.1];exact congrArg _ (congrArg _ hp3),q.2.symm⟩);have PT:=Hd (show ∀W,Calls Tryz.prog 14 #[.int .i64 o.b,.int .i64 (H:Int)] W λe w'=>e = .returned (.int .i64 (t:Int))∧w'=W from λW=>(Z2e o.b H W hok.b.1 hok.b.2 (by omega) (by omega)).mono λe w' q=>⟨by rw [q.1];exact congrArg _ (congrArg _ hpt),q.2.symm⟩);obtain ⟨kt,hkt,hp10⟩:=Z10 o.a 10 (by omega);have P10:=Hd (show ∀W,Calls Tryz.prog 14 #[.int .i64 o.a,.int .i64 10] W λe w'=>e = .returned (.int .i64 (kt:Int))∧w'=W from λW=>(Z2e o.a 10 W hok.a.1 hok.a.2 (by omega) (by omega)).mono λe w' q=>⟨by rw [q.1];exact congrArg _ (congrArg _ hp10),q.2.symm⟩);obtain ⟨k9,hk9,hp9⟩:=Z10 o.a 9 (by omega);have P9:=Hd (show ∀W,Calls Tryz.prog 14 #[.int .i64 o.a,.int .i64 9] W λe w'=>e = .returned (.int .i64 (k9:Int))∧w'=W from λW=>(Z2e o.a 9 W hok.a.1 hok.a.2 (by omega) (by omega)).mono λe w' q=>⟨by rw [q.1];exact congrArg _ (congrArg _ hp9),q.2.symm⟩);have HTH:=Hd ht;have q0:(0:Int)<=(q:Int):=by omega
 have q12:(q:Int)<12:=by omega
 have ka0:(0:Int)<=(ka:Int):=by omega
 have ka4:(ka:Int)<4:=by omega
 have HX:=Hd h;obtain ⟨ob,hob⟩:∃ob,ob=W.heap.size:=⟨_,rfl⟩;obtain ⟨wo,hwo⟩:∃wo,wo=W.alloc (.cells o.cells.toArray 52):=⟨_,rfl⟩;have HRO:=Hd (show wo.heap[ob]?=some (.cells o.cells.toArray 52 (0,0)) from by rw [hwo,hob];exact World.alloc_heap_new W _);have HBO:=Hd (show Below W.heap.size W wo from by rw [hwo];exact (Below.refl _ W).alloc (Nat.le_refl _) _);obtain ⟨A2,hA2⟩:∃A2:Nat->Prop,A2=λk=>A k∨New W wo k:=⟨_,rfl⟩;have HAA:=Hd (show ∀k,A k->A2 k from λk hk=>by rw [hA2];exact .inl hk);have HAO:=Hd (show A2 ob from by rw [hA2];exact .inr ⟨Nat.le_of_eq hob.symm,(gE HRO.out).1⟩);have HXO:=Hd (show Z0q base w1 nb gn nc cur xs st A2 wo from by rw [hA2];exact HX.out.grow HBO.out);have HKO:=Hd (HX.out.keepB HBO.out);have OC:=Hd (show ∀W2,Z0d A2 wo W2->∀(k:Nat) (u:Value),o.cells[k]?=some u->W2.cell? ⟨ob,k,none⟩=some u from λW2 hW k u hu=>by
  rw [cell_of_row W2 ob k _ _ _ ((hW.2 ob HAO.out).trans HRO.out)];simpa using hu)
 have LIE:=Hd (Zrl n HXO.out g o hok);have HOE:=Hd hob;have HWO:=Hd hwo;have oc:=OC.out wo (Z0d.refl _ _);clear hok hpq hpa hpt hp3 hp10 hp9 h g hL hm n n0 n1 n2 n3 hl ht hA2 hob hwo hK hT hG hM;unfold OpR.val pv at *;unfold OpR.cells at *;go_enter Tryz.func53,Tryz.ntmps53
 go_upto_region 1 with (fail)
 rw [<-HOE.out];rw [show W.alloc _=wo from HWO.out.symm];have o0:=oc 0 _ rfl;go_upto_region 3 with (go_at_call 14;(with_reducible refine (PQ.out _).mono ?_);rintro e wq ⟨rfl,hwq⟩;rw [hwq];clear hwq wq)
 have FIN:=Hd (show ∀(gn nc:Nat) (cur:Array Value) (xs:List Nat) (s1:Z0g) (w':World),Z0q base w1 nb gn nc cur xs s1 A2 w'->Z0d A2 wo w'->Z2i H F N s1->Lim s1 (K+300000) (T+40) (G+2)->s1.now<=((M+10:Nat):Int)->Zsl base w1 nb A W H F N K T G M (.returned (.tuple #[])) w' from λgn nc cur xs s1 w' a b c d e=>⟨rfl,gn,nc,cur,xs,s1,a.less HAA.out,HKO.out.trans b HAA.out,c,d,e⟩);clear o0;by_cases hq2:q<=2
 ·obtain ⟨g0,hg0⟩:∃b,((q:Int) == 0)=b:=⟨_,rfl⟩;obtain ⟨g1,hg1⟩:∃b,((q:Int) == 1)=b:=⟨_,rfl⟩;have z2:g0=false->g1=false->((q:Int) == 2)=true:=λa b=>by
   rw [<-hg0] at a;rw [<-hg1] at b;simp at a b ⊢;omega
  have Z2:=Hd z2;clear z2 hq2;go_cut [12] from 12 to 13 (λt wc=>t = .bool g0∧wc=wo)
  case first=>
   go_wp2_with fail
   go_meet;exact ⟨rfl,rfl⟩
  case rest=>
  obtain ⟨rfl,hw⟩:=hcut;rw [hw];clear hw;go_upto_if 12 with (fail)
  go_cut [12] from 12 to 15 (λt wc=>t = .bool true∧wc=wo)
  case first=>
   have Z2:=Z2.out;rcases g0 with _ | _
   ·rcases g1 with _ | _
    ·have z8:=Z2 rfl rfl;clear Z2;go_wp2_with fail
     go_meet;exact ⟨rfl,rfl⟩
    clear Z2;go_wp2_with fail
    go_meet;exact ⟨rfl,rfl⟩
   clear Z2;go_wp2_with fail
   go_meet;exact ⟨rfl,rfl⟩
  case rest=>
  obtain ⟨rfl,hw⟩:=hcut;rw [hw];clear hw Z2 hg0 hg1;go_wp2_with fail
  go_loopw [4] (λjv wk=>∃(j:Nat) (s1:Z0g),j<=ka+1∧jv = .int .i64 (j:Int)∧Z0q base w1 nb gn nc cur xs s1 A2 wk∧Z0d A2 wo wk∧Z2i H F N s1∧Lim s1 (K+64000 * j) (T+8 * j) G∧s1.now<=((M+j:Nat):Int)) (λjv _=>ka+1 - (intOf jv).toNat)
  case atStart=>exact ⟨0,st,Nat.zero_le _,rfl,HXO.out,Z0d.refl _ _,HG.out,HLM.out.mono (by omega) (by omega) (Nat.le_refl _),HM.out⟩
  case round=>
   obtain ⟨j,s1,hj,rfl,hn1,hk1,hg1,hl1,hm1⟩:=hrel;have HN1:=Hd hn1;have HK1:=Hd hk1;have HG1:=Hd hg1;have HL1:=Hd hl1;have HM1:=Hd hm1;have j0:(0:Int)<=(j:Int):=by omega
   have o1:=OC.out _ hk1 1 _ rfl;clear hn1 hk1 hg1 hl1 hm1;by_cases hjk:j<=ka
   ·have j1:(j:Int)<=(ka:Int):=by omega
    have AL:=Hd (Zrk HNM.out HN1.out HG1.out HL1.out (by have:=HKK.out;omega) (by have:=HKK.out;omega) (by have:=HKK.out;omega) (by have:=HM1.out;have:=HKK.out;omega));unfold pv at AL;go_wp2_with (first
     | (go_at_call 14;(with_reducible refine (PA.out _).mono ?_);rintro e wq ⟨rfl,hwq⟩;rw [hwq];clear hwq wq)
     | (go_at_call 56;(with_reducible refine AL.out.mono ?_);rintro e w5 ⟨rfl,hn5,hk5⟩;have HN5:=Hd hn5;have HK5:=Hd hk5;clear hn5 hk5))
    go_roundw
    case rel=>
     have hnow:=(Zrj s1).1;have:=HM1.out;have:=HKK.out;exact ⟨j+1,s1.all,by omega,by go_num,HN5.out,HK1.out.trans HK5.out (λ_ q=>q),HG1.out.all HNM.out,(HL1.out.all HNM.out HG1.out (by omega)).mono (by omega) (by omega) (Nat.le_refl _),by rw [hnow];omega⟩
    case measure=>simp [intOf];omega
   have j1:¬(j:Int)<=(ka:Int):=by omega
   have HE:=Hd (FIN.out _ _ _ _ _ _ HN1.out HK1.out HG1.out (HL1.out.mono (by omega) (by omega) (by omega)) (by have:=HM1.out;omega));go_wp2_with (go_at_call 14;(with_reducible refine (PA.out _).mono ?_);rintro e wq ⟨rfl,hwq⟩;rw [hwq];clear hwq wq)
   refine bodyPost_end (results_none rfl _ _ _) rfl ?_;exact HE.out
 have y0:((q:Int) == 0)=false:=by simp;omega
 have y1:((q:Int) == 1)=false:=by simp;omega
 have y2:((q:Int) == 2)=false:=by simp;omega
 by_cases hq3:q=3
 ·have y3:((q:Int) == 3)=true:=by simp;omega
  clear hq2;have DV:=Hd (HXO.out.deliver HG.out HLM.out.cap (by have:=HKK.out;omega));unfold pv at DV;go_upto_region 12 with (go_at_call 102;(with_reducible refine DV.out.mono ?_);rintro e w5 ⟨rfl,hn5,hk5⟩;have HN5:=Hd hn5;have HK5:=Hd hk5;clear hn5 hk5)
  have HG5:=Hd HG.out.deliver;have HL5:=Hd HLM.out.deliver;obtain ⟨s5,hs5⟩:∃s5,st.deliver.ss[t]?=some s5:=⟨_,List.getElem?_eq_getElem (by rw [HG5.out.len];exact HTH.out)⟩;have hm5:=List.mem_of_getElem? hs5;have TK:=Hd (show ∀W2,Below w5.heap.size w5 W2->Calls Tryz.prog 103 #[.pointer (some ⟨nb,0,none⟩),.int .i64 (t:Int)] W2 λe w'=>e = .returned (.tuple #[])∧Z0q base w1 nb gn nc cur xs (st.deliver.tickS t s5) A2 w'∧Z0d A2 wo w' from λW2 hW=>
   (Zib (HN5.out.later hW) hs5 HL5.out.cap (by have:=HKK.out;omega) (by have:=HL5.out.tk s5 hm5;have:=HKK.out;omega) (by have:=HL5.out.ht s5 hm5;have:=HKK.out;omega) HL5.out.l0 (by have:=HL5.out.l1;have:=HKK.out;omega)).mono λe w' ⟨a,b,c⟩=>⟨a,b,(HK5.out.trans (HN5.out.keepB hW) (λ_ q=>q)).trans c (λ_ q=>q)⟩)
  have HTS:=Hd (show Z2i H F N (st.deliver.tickS t s5)∧Lim (st.deliver.tickS t s5) (K+300000) (T+40) (G+2)∧(st.deliver.tickS t s5).now=st.now from by
   have e:st.deliver.tick t=st.deliver.tickS t s5:=by unfold Z0g.tick;rw [hs5]
   have a:=HG5.out.tick HNM.out t;have b:=HL5.out.tick HNM.out HG5.out t;rw [e] at a b;exact ⟨a,b.mono (by omega) (by omega) (by omega),(Zd1 st.deliver t s5).2.2.2⟩)
  have SK:=Hd (show ∀(s1:Z0g) W2,Z0q base w1 nb gn nc cur xs s1 A2 W2->Z0d A2 wo W2->W2.cell? ⟨ob,2,none⟩=some (.int .i64 o.b)∧W2.cell? ⟨nb,2,none⟩=some (.slice (some ⟨gn,0,none⟩) H nc) from λs1 W2 a b=>by
   have c:=a.cells.2.2.1;rw [HXH.out] at c;exact ⟨OC.out W2 b 2 _ rfl,c⟩)
  have KB:=Hd (show ∀W2,Below w5.heap.size w5 W2->W2.cell? ⟨ob,2,none⟩=some (.int .i64 o.b)∧W2.cell? ⟨nb,2,none⟩=some (.slice (some ⟨gn,0,none⟩) H nc) from λW2 hW=>SK.out _ _ (HN5.out.later hW) (HK5.out.trans (HN5.out.keepB hW) (λ_ q=>q)));clear hs5 hm5;refine wp_region_held_drew (S:=λW2=>W2.cell? ⟨ob,2,none⟩=some (.int .i64 o.b)∧W2.cell? ⟨nb,2,none⟩=some (.slice (some ⟨gn,0,none⟩) H nc)) (by kernel_rfl) (KB.out _ (Below.refl _ w5).drew) (λhHeld=>?_);refine hyw (i:=0) hHeld ?_;try simp only [Act.put,zz]
  refine hyw (i:=1) hHeld ?_;try simp only [Act.put,zz]
  refine hyw (i:=2) hHeld ?_;try simp only [Act.put,zz]
  refine hyw (i:=3) hHeld ?_;try simp only [Act.put,zz]
  refine hyw (i:=4) hHeld ?_;try simp only [Act.put,zz]
  refine hyw (i:=5) hHeld ?_;try simp only [Act.put,zz]
  refine hyw (i:=6) hHeld ?_;try simp only [Act.put,zz]
  refine hyw (i:=7) hHeld ?_;try simp only [Act.put,zz]
  refine wpAnyH_ready (rs:=[8]) (by kernel_rfl) (by simp) ?_;refine AllReadyH.cons (o:=_) rfl (λK hK=>?_) AllReadyH.nil;go_simp;go_at_call 14
  (with_reducible refine (PT.out _).mono ?_)
  rintro e wq ⟨rfl,hwq⟩;rw [hwq];clear hwq wq;clear hHeld;go_wp2_with fail
  refine hK.out _ _ (KB.out _ (Below.refl _ w5).drew) (λhHeld=>?_);clear hK K;try simp only [Act.put,zz]
  refine wpAnyH_ready (rs:=[9]) (by kernel_rfl) (by simp) ?_;refine AllReadyH.cons (o:=_) rfl (λK hK=>?_) AllReadyH.nil;go_simp;go_at_call 103
  (with_reducible refine (TK.out _ (Below.refl _ w5).drew).mono ?_)
  rintro e w6 ⟨rfl,hn6,hk6⟩;have HN6:=Hd hn6;have HK6:=Hd hk6;clear hn6 hk6;clear hHeld;go_wp2_with fail
  refine hK.out _ _ (SK.out _ _ HN6.out HK6.out) (λhHeld=>?_);clear hK K;try simp only [Act.put,zz]
  refine wpAnyH_done (by kernel_rfl) ?_ _;have HE:=Hd (FIN.out _ _ _ _ _ _ HN6.out HK6.out HTS.out.1 HTS.out.2.1 (by rw [HTS.out.2.2];have:=HM.out;omega));go_wp2_with fail
  refine bodyPost_end (results_none rfl _ _ _) rfl ?_;exact HE.out
 have y3:((q:Int) == 3)=false:=by simp;omega
 by_cases hq4:q=4
 ·have y4:((q:Int) == 4)=true:=by simp;omega
  clear hq2 hq3 hq4;obtain ⟨fv0,n6,_⟩:=HXO.out.fate;have fz:=HXO.out.frozen;obtain ⟨wf,hwf⟩:∃wf,wf=wo.setCell ⟨nb,6,none⟩ (.slice none 0 0):=⟨_,rfl⟩;have HXF:=Hd (show Z0q base w1 nb gn nc cur xs {st with fates:=[]} A2 wf from by rw [hwf];exact HXO.out.noFates.1);have HKF:=Hd (show Z0d A2 wo wf from by rw [hwf];exact HXO.out.noFates.2);have k90:(k9:Int)<=8:=by omega
  go_wp2_with fail
  rw [<-hwf];clear n6 fz hwf;go_loopw [5] (λjv wk=>∃(j:Nat) (fs:List Int),j<=k9∧jv = .int .i64 (j:Int)∧fs.length=j∧(∀f∈fs,0<=f∧f<=13)∧Z0q base w1 nb gn nc cur xs {st with fates:=fs} A2 wk∧Z0d A2 wo wk) (λjv _=>k9 - (intOf jv).toNat)
  case atStart=>exact ⟨0,[],Nat.zero_le _,rfl,rfl,λf hf=>(by cases hf),HXF.out,HKF.out⟩
  case round=>
   clear HXF HKF;obtain ⟨j,fs,hj,rfl,hfl,hfs,hn1,hk1⟩:=hrel;have HN1:=Hd hn1;have HK1:=Hd hk1;have HFS:=Hd hfs;have HFL:=Hd hfl;have j0:(0:Int)<=(j:Int):=by omega
   have o1:=OC.out _ hk1 1 _ rfl;clear hn1 hk1 hfs hfl;by_cases hjk:j<k9
   ·have j1:(j:Int)<(k9:Int):=by omega
    obtain ⟨fv,hfc,hfo,hfn⟩:=HN1.out.fate;have HFN:=Hd hfn;have fl8:fs.length<=8:=by have:=HFL.out;omega
    have hpr:-9223372036854775808<=IntKind.wrap .i64 (o.b+IntKind.wrap .i64 ((j:Int) * o.c))∧IntKind.wrap .i64 (o.b+IntKind.wrap .i64 ((j:Int) * o.c))<=9223372036854775807:=by generalize IntKind.wrap .i64 ((j:Int) * o.c)=z;rw [IntKind.wrap_i64];omega
    obtain ⟨kf,hkf,hpf⟩:=Z10 (IntKind.wrap .i64 (o.b+IntKind.wrap .i64 ((j:Int) * o.c))) 14 (by omega);have PF:=Hd (show ∀W,Calls Tryz.prog 14 #[.int .i64 (IntKind.wrap .i64 (o.b+IntKind.wrap .i64 ((j:Int) * o.c))),.int .i64 14] W λe w'=>e = .returned (.int .i64 (kf:Int))∧w'=W from λW=>(Z2e _ 14 W hpr.1 hpr.2 (by omega) (by omega)).mono λe w' q=>⟨by rw [q.1];exact congrArg _ (congrArg _ hpf),q.2.symm⟩);have HFS1:=Hd (show ∀f∈fs ++ [(kf:Int)],0<=f∧f<=13 from λf hf=>by
     rcases List.mem_append.1 hf with q | q
     ·exact HFS.out f q
     obtain rfl:f=(kf:Int):=by simpa using q
     omega)
    obtain ⟨ti,hi,hz0,hz1,hz2⟩:=info_parts Tryz.infoI;have KPA:=Hd (show ∀W2,Z0d A2 wr W2->(λW2=>W2.cell? ⟨ob,2,none⟩=some (.int .i64 o.b)∧W2.cell? ⟨ob,3,none⟩=some (.int .i64 o.c)) W2 from λW2 hW=>⟨OC.out W2 (HK1.out.trans hW (λ_ q=>q)) 2 _ rfl,OC.out W2 (HK1.out.trans hW (λ_ q=>q)) 3 _ rfl⟩);obtain ⟨wz,hwz⟩:∃wz,wz=(wr.alloc (.cells #[.int .i64 (kf:Int)] 3)).drew:=⟨_,rfl⟩;have HBZ:=Hd (show Below wr.heap.size wr wz from by rw [hwz];exact ((Below.refl _ _).alloc (Nat.le_refl _) _).drew);have HOD:=Hd (show wz.ownsRow 0 3 1 fv fs.length (fs.map iv) from Z07 hfo (λg _ hl=>HBZ.out.block g hl));have NEW:=Hd (show ∀(j:Nat) (u:Value),[iv (kf:Int)][j]?=some u->wz.cell? ((⟨wr.heap.size,0,none⟩:Addr).add j)=some u from by rw [hwz];exact Z0w wr [iv (kf:Int)] 3 wr.heap.size rfl);have KP0:=Hd (show (λW2=>W2.cell? ⟨ob,2,none⟩=some (.int .i64 o.b)∧W2.cell? ⟨ob,3,none⟩=some (.int .i64 o.c)) wr.drew from KPA.out _ (HN1.out.keepB (Below.refl _ wr).drew));have KPZ:=Hd (show (λW2=>W2.cell? ⟨ob,2,none⟩=some (.int .i64 o.b)∧W2.cell? ⟨ob,3,none⟩=some (.int .i64 o.c)) wz from KPA.out _ (HN1.out.keepB HBZ.out));have FIN:=Hd (show ∀(v2:Value) (w7:World),w7.ownsRow 0 3 1 v2 (fs.length+1) (fs.map iv ++ [iv (kf:Int)])->wz.grownBy w7 fv.ownBlock->(∀g,v2.ownBlock=some g->fv.ownBlock=some g∨wz.heap.size<=g) ->
      Z0q base w1 nb gn nc cur xs {st with fates:=fs ++ [(kf:Int)]} A2 (w7.setCell ⟨nb,6,none⟩ v2)∧Z0d A2 wo (w7.setCell ⟨nb,6,none⟩ v2)∧w7.cell? ⟨nb,6,none⟩=some fv∧(λW2=>W2.cell? ⟨ob,2,none⟩=some (.int .i64 o.b)∧W2.cell? ⟨ob,3,none⟩=some (.int .i64 o.c)) w7∧(λW2=>W2.cell? ⟨ob,2,none⟩=some (.int .i64 o.b)∧W2.cell? ⟨ob,3,none⟩=some (.int .i64 o.c)) (w7.setCell ⟨nb,6,none⟩ v2)∧(∀o,w7.frozen? ⟨nb,o,none⟩=false)∧∃g c,v2 = .slice (some ⟨g,0,none⟩) (fs.length+1) c from by
     intro v2 w7 own gr hl;obtain ⟨a1,a2,a3,a4,a5⟩:=HFN.out wz w7 v2 (kf:Int) HBZ.out own gr hl;refine ⟨a1,HK1.out.trans a2 (λ_ q=>q),a4,KPA.out _ a3,KPA.out _ a2,a5,?_⟩;rcases own.2 with ⟨_,h0⟩ | ⟨g,c,_,hv,_⟩
     ·omega
     exact ⟨g,c,hv⟩)
    have n6:=Z0h hfc (.cells #[.int .i64 (kf:Int)] 3);clear hfn hfo hpr hpf;go_upto_region 18 with (go_at_call 14;(with_reducible refine (P9.out _).mono ?_);rintro e wq ⟨rfl,hwq⟩;rw [hwq];clear hwq wq)
    refine wp_region_held_drew (S:=λW2=>W2.cell? ⟨ob,2,none⟩=some (.int .i64 o.b)∧W2.cell? ⟨ob,3,none⟩=some (.int .i64 o.c)) (by kernel_rfl) (KP0.out) (λhHeld=>?_);refine hyw (i:=0) hHeld ?_;try simp only [Act.put,zz]
    refine hyw (i:=1) hHeld ?_;try simp only [Act.put,zz]
    refine hyw (i:=2) hHeld ?_;try simp only [Act.put,zz]
    refine hyw (i:=3) hHeld ?_;try simp only [Act.put,zz]
    refine hyw (i:=5) hHeld ?_;try simp only [Act.put,zz]
    refine hyw (i:=6) hHeld ?_;try simp only [Act.put,zz]
    refine hyw (i:=7) hHeld ?_;try simp only [Act.put,zz]
    refine hyw (i:=8) hHeld ?_;try simp only [Act.put,zz]
    refine hyw (i:=9) hHeld ?_;try simp only [Act.put,zz]
    refine hyw (i:=10) hHeld ?_;try simp only [Act.put,zz]
    refine hyw (i:=11) hHeld ?_;try simp only [Act.put,zz]
    refine wpAnyH_ready (rs:=[4,12]) (by kernel_rfl) (by simp) ?_;refine AllReadyH.cons (o:=_) rfl (λK hK=>?_) (AllReadyH.cons (o:=_) rfl (λK hK=>?_) AllReadyH.nil)
    ·go_simp;clear hHeld;go_wp2_with fail
     refine hK.out _ _ (KP0.out) (λhHeld=>?_);clear hK K;try simp only [Act.put,zz]
     refine wpAnyH_ready (rs:=[12]) (by kernel_rfl) (by simp) ?_;refine AllReadyH.cons (o:=_) rfl (λK hK=>?_) AllReadyH.nil;go_simp;go_at_call 14
     (with_reducible refine (PF.out _).mono ?_)
     rintro e wq ⟨rfl,hwq⟩;rw [hwq];clear hwq wq;clear hHeld;go_wp2_with fail
     refine hK.out _ _ (KP0.out) (λhHeld=>?_);clear hK K;try simp only [Act.put,zz]
     refine wpAnyH_ready (rs:=[13]) (by kernel_rfl) (by simp) ?_;refine AllReadyH.cons (o:=_) rfl (λK hK=>?_) AllReadyH.nil;go_simp;clear hHeld;go_wp2_with fail
     refine hK.out _ _ ((by rw [<-hwz];exact KPZ.out)) (λhHeld=>?_);clear hK K;try simp only [Act.put,zz]
     refine wpAnyH_ready (rs:=[14]) (by kernel_rfl) (by simp) ?_;refine AllReadyH.cons (o:=_) rfl (λK hK=>?_) AllReadyH.nil;clear hHeld;refine Z2d (by rfl) (.tmp 55) (.tmp 64) 47 (by rfl) 0 3 ti (.int .i64 0) 1 8 Tryz.underlying47 hi hz0 hz1 hz2 (by rfl) (by decide) fv fs.length (fs.map iv) ?_ ?_ ⟨wr.heap.size,0,none⟩ 1 1 [iv (kf:Int)] ?_ (by rfl) ?_ (Zn7 _) ?_ ?_ ?_ ?_
     (simp [Act.eval,Act.put])
     (rw [<-hwz];with_reducible exact HOD.out)
     (simp [Act.eval,Act.put])
     (rw [<-hwz];with_reducible exact NEW.out)
     (unfold maxLen;omega)
     omega;omega;rw [<-hwz];intro v2 w7 own2 gr2 hn2;obtain ⟨hx7,hk8,hf7,hs7,hs8,hz7,g2,cp2,rfl⟩:=FIN.out v2 w7 own2 gr2 hn2;have HX7:=Hd hx7;have HK8:=Hd hk8;have HS7:=Hd hs7;have HS8:=Hd hs8;clear hx7 hk8 hs7 hs8 own2 gr2 hn2;refine hK.out _ _ (HS7.out) (λhHeld=>?_);clear hK K;try simp only [Act.put,zz]
     refine hyw (i:=15) hHeld ?_;try simp only [Act.put,zz]
     refine hyw (i:=16) hHeld ?_;try simp only [Act.put,zz]
     refine wpAnyH_ready (rs:=[17]) (by kernel_rfl) (by simp) ?_;refine AllReadyH.cons (o:=_) rfl (λK hK=>?_) AllReadyH.nil;go_simp;clear hHeld;go_wp2_with fail
     refine hK.out _ _ (HS8.out) (λhHeld=>?_);clear hK K;try simp only [Act.put,zz]
     refine wpAnyH_done (by kernel_rfl) ?_ _;go_wp2_with fail
     go_roundw
     case rel=>exact ⟨j+1,fs ++ [(kf:Int)],by omega,by go_num,by rw [List.length_append,HFL.out];rfl,HFS1.out,HX7.out,HK8.out⟩
     case measure=>simp [intOf];omega
    go_simp;go_at_call 14
    (with_reducible refine (PF.out _).mono ?_)
    rintro e wq ⟨rfl,hwq⟩;rw [hwq];clear hwq wq;clear hHeld;go_wp2_with fail
    refine hK.out _ _ (KP0.out) (λhHeld=>?_);clear hK K;try simp only [Act.put,zz]
    refine wpAnyH_ready (rs:=[4,13]) (by kernel_rfl) (by simp) ?_;refine AllReadyH.cons (o:=_) rfl (λK hK=>?_) (AllReadyH.cons (o:=_) rfl (λK hK=>?_) AllReadyH.nil)
    ·go_simp;clear hHeld;go_wp2_with fail
     refine hK.out _ _ (KP0.out) (λhHeld=>?_);clear hK K;try simp only [Act.put,zz]
     refine wpAnyH_ready (rs:=[13]) (by kernel_rfl) (by simp) ?_;refine AllReadyH.cons (o:=_) rfl (λK hK=>?_) AllReadyH.nil;go_simp;clear hHeld;go_wp2_with fail
     refine hK.out _ _ ((by rw [<-hwz];exact KPZ.out)) (λhHeld=>?_);clear hK K;try simp only [Act.put,zz]
     refine wpAnyH_ready (rs:=[14]) (by kernel_rfl) (by simp) ?_;refine AllReadyH.cons (o:=_) rfl (λK hK=>?_) AllReadyH.nil;clear hHeld;refine Z2d (by rfl) (.tmp 55) (.tmp 64) 47 (by rfl) 0 3 ti (.int .i64 0) 1 8 Tryz.underlying47 hi hz0 hz1 hz2 (by rfl) (by decide) fv fs.length (fs.map iv) ?_ ?_ ⟨wr.heap.size,0,none⟩ 1 1 [iv (kf:Int)] ?_ (by rfl) ?_ (Zn7 _) ?_ ?_ ?_ ?_
     (simp [Act.eval,Act.put])
     (rw [<-hwz];with_reducible exact HOD.out)
     (simp [Act.eval,Act.put])
     (rw [<-hwz];with_reducible exact NEW.out)
     (unfold maxLen;omega)
     omega;omega;rw [<-hwz];intro v2 w7 own2 gr2 hn2;obtain ⟨hx7,hk8,hf7,hs7,hs8,hz7,g2,cp2,rfl⟩:=FIN.out v2 w7 own2 gr2 hn2;have HX7:=Hd hx7;have HK8:=Hd hk8;have HS7:=Hd hs7;have HS8:=Hd hs8;clear hx7 hk8 hs7 hs8 own2 gr2 hn2;refine hK.out _ _ (HS7.out) (λhHeld=>?_);clear hK K;try simp only [Act.put,zz]
     refine hyw (i:=15) hHeld ?_;try simp only [Act.put,zz]
     refine hyw (i:=16) hHeld ?_;try simp only [Act.put,zz]
     refine wpAnyH_ready (rs:=[17]) (by kernel_rfl) (by simp) ?_;refine AllReadyH.cons (o:=_) rfl (λK hK=>?_) AllReadyH.nil;go_simp;clear hHeld;go_wp2_with fail
     refine hK.out _ _ (HS8.out) (λhHeld=>?_);clear hK K;try simp only [Act.put,zz]
     refine wpAnyH_done (by kernel_rfl) ?_ _;go_wp2_with fail
     go_roundw
     case rel=>exact ⟨j+1,fs ++ [(kf:Int)],by omega,by go_num,by rw [List.length_append,HFL.out];rfl,HFS1.out,HX7.out,HK8.out⟩
     case measure=>simp [intOf];omega
    go_simp;clear hHeld;go_wp2_with fail
    refine hK.out _ _ ((by rw [<-hwz];exact KPZ.out)) (λhHeld=>?_);clear hK K;try simp only [Act.put,zz]
    refine wpAnyH_ready (rs:=[4]) (by kernel_rfl) (by simp) ?_;refine AllReadyH.cons (o:=_) rfl (λK hK=>?_) AllReadyH.nil;go_simp;clear hHeld;go_wp2_with fail
    refine hK.out _ _ ((by rw [<-hwz];exact KPZ.out)) (λhHeld=>?_);clear hK K;try simp only [Act.put,zz]
    refine wpAnyH_ready (rs:=[14]) (by kernel_rfl) (by simp) ?_;refine AllReadyH.cons (o:=_) rfl (λK hK=>?_) AllReadyH.nil;clear hHeld;refine Z2d (by rfl) (.tmp 55) (.tmp 64) 47 (by rfl) 0 3 ti (.int .i64 0) 1 8 Tryz.underlying47 hi hz0 hz1 hz2 (by rfl) (by decide) fv fs.length (fs.map iv) ?_ ?_ ⟨wr.heap.size,0,none⟩ 1 1 [iv (kf:Int)] ?_ (by rfl) ?_ (Zn7 _) ?_ ?_ ?_ ?_
    (simp [Act.eval,Act.put])
    (rw [<-hwz];with_reducible exact HOD.out)
    (simp [Act.eval,Act.put])
    (rw [<-hwz];with_reducible exact NEW.out)
    (unfold maxLen;omega)
    omega;omega;rw [<-hwz];intro v2 w7 own2 gr2 hn2;obtain ⟨hx7,hk8,hf7,hs7,hs8,hz7,g2,cp2,rfl⟩:=FIN.out v2 w7 own2 gr2 hn2;have HX7:=Hd hx7;have HK8:=Hd hk8;have HS7:=Hd hs7;have HS8:=Hd hs8;clear hx7 hk8 hs7 hs8 own2 gr2 hn2;refine hK.out _ _ (HS7.out) (λhHeld=>?_);clear hK K;try simp only [Act.put,zz]
    refine hyw (i:=15) hHeld ?_;try simp only [Act.put,zz]
    refine hyw (i:=16) hHeld ?_;try simp only [Act.put,zz]
    refine wpAnyH_ready (rs:=[17]) (by kernel_rfl) (by simp) ?_;refine AllReadyH.cons (o:=_) rfl (λK hK=>?_) AllReadyH.nil;go_simp;clear hHeld;go_wp2_with fail
    refine hK.out _ _ (HS8.out) (λhHeld=>?_);clear hK K;try simp only [Act.put,zz]
    refine wpAnyH_done (by kernel_rfl) ?_ _;go_wp2_with fail
    go_roundw
    case rel=>exact ⟨j+1,fs ++ [(kf:Int)],by omega,by go_num,by rw [List.length_append,HFL.out];rfl,HFS1.out,HX7.out,HK8.out⟩
    case measure=>simp [intOf];omega
   have j1:¬(j:Int)<(k9:Int):=by omega
   have HE:=Hd (FIN.out _ _ _ _ _ _ HN1.out HK1.out (HG.out.fates fs) ((HLM.out.fates fs (by have:=HFL.out;omega) (λf hf=>by have:=HFS.out f hf;omega)).mono (by omega) (by omega) (by omega)) (by have:=HM.out;show st.now<=_;omega));go_wp2_with (go_at_call 14;(with_reducible refine (P9.out _).mono ?_);rintro e wq ⟨rfl,hwq⟩;rw [hwq];clear hwq wq)
   refine bodyPost_end (results_none rfl _ _ _) rfl ?_;exact HE.out
 have y4:((q:Int) == 4)=false:=by simp;omega
 by_cases hq5:q=5
 ·have y5:((q:Int) == 5)=true:=by simp;omega
  clear hq2 hq3 hq4;have o1:=OC.out wo (Z0d.refl _ _) 1 _ rfl;by_cases hz:k3=0
  ·have y7:((k3:Int) == 0)=true:=by simp;omega
   have HH:=Hd (show ∀s∈st.ss,s.height<1199 from λs hs=>by have:=HLM.out.ht s hs;have:=HKK.out;omega);have RT:=Hd (show ∀W2,Below wo.heap.size wo W2->Calls Tryz.prog 104 #[.pointer (some ⟨nb,0,none⟩),.int .i64 (t:Int)] W2 λe w'=>e = .returned (.tuple #[])∧∃cur' xs',Z0q base w1 nb gn nc cur' xs' (st.restart t) A2 w'∧Z0d A2 wo w' from λW2 hW=>
    (Zh1 HNM.out (HXO.out.later hW) HG.out HTH.out HH.out).mono λe w' ⟨a,c,x,b,d⟩=>⟨a,c,x,b,(HXO.out.keepB hW).trans d (λ_ q=>q)⟩)
   have HTS:=Hd (show Z2i H F N (st.restart t)∧Lim (st.restart t) (K+300000) (T+40) (G+2)∧(st.restart t).now=st.now from
    ⟨HG.out.restart HNM.out t HH.out,(HLM.out.restart t HG.out.h0).mono (by omega) (by omega) (by omega),Zh4 st t⟩)
   have SK:=Hd (show ∀(cur':Array Value) (xs':List Nat) (s1:Z0g) W2,Z0q base w1 nb gn nc cur' xs' s1 A2 W2->Z2i H F N s1->Z0d A2 wo W2->W2.cell? ⟨ob,2,none⟩=some (.int .i64 o.b)∧W2.cell? ⟨nb,2,none⟩=some (.slice (some ⟨gn,0,none⟩) H nc) from λcur' xs' s1 W2 a g b=>by
    have c:=a.cells.2.2.1;rw [a.len,g.len] at c;exact ⟨OC.out W2 b 2 _ rfl,c⟩)
   have KB:=Hd (show ∀W2,Below wo.heap.size wo W2->W2.cell? ⟨ob,2,none⟩=some (.int .i64 o.b)∧W2.cell? ⟨nb,2,none⟩=some (.slice (some ⟨gn,0,none⟩) H nc) from λW2 hW=>SK.out _ _ _ _ (HXO.out.later hW) HG.out (HXO.out.keepB hW));go_upto_region 21 with (go_at_call 14;(with_reducible refine (P3.out _).mono ?_);rintro e wq ⟨rfl,hwq⟩;rw [hwq];clear hwq wq)
   refine wp_region_held_drew (S:=λW2=>W2.cell? ⟨ob,2,none⟩=some (.int .i64 o.b)∧W2.cell? ⟨nb,2,none⟩=some (.slice (some ⟨gn,0,none⟩) H nc)) (by kernel_rfl) (KB.out _ (Below.refl _ wo).drew) (λhHeld=>?_);refine hyw (i:=0) hHeld ?_;try simp only [Act.put,zz]
   refine hyw (i:=1) hHeld ?_;try simp only [Act.put,zz]
   refine hyw (i:=2) hHeld ?_;try simp only [Act.put,zz]
   refine hyw (i:=3) hHeld ?_;try simp only [Act.put,zz]
   refine hyw (i:=4) hHeld ?_;try simp only [Act.put,zz]
   refine hyw (i:=5) hHeld ?_;try simp only [Act.put,zz]
   refine hyw (i:=6) hHeld ?_;try simp only [Act.put,zz]
   refine hyw (i:=7) hHeld ?_;try simp only [Act.put,zz]
   refine wpAnyH_ready (rs:=[8]) (by kernel_rfl) (by simp) ?_;refine AllReadyH.cons (o:=_) rfl (λK hK=>?_) AllReadyH.nil;go_simp;go_at_call 14
   (with_reducible refine (PT.out _).mono ?_)
   rintro e wq ⟨rfl,hwq⟩;rw [hwq];clear hwq wq;clear hHeld;go_wp2_with fail
   refine hK.out _ _ (KB.out _ (Below.refl _ wo).drew) (λhHeld=>?_);clear hK K;try simp only [Act.put,zz]
   refine wpAnyH_ready (rs:=[9]) (by kernel_rfl) (by simp) ?_;refine AllReadyH.cons (o:=_) rfl (λK hK=>?_) AllReadyH.nil;go_simp;go_at_call 104
   (with_reducible refine (RT.out _ (Below.refl _ wo).drew).mono ?_)
   rintro e w6 ⟨rfl,cur6,xs6,hn6,hk6⟩;have HN6:=Hd hn6;have HK6:=Hd hk6;clear hn6 hk6;clear hHeld;go_wp2_with fail
   refine hK.out _ _ (SK.out _ _ _ _ HN6.out HTS.out.1 HK6.out) (λhHeld=>?_);clear hK K;try simp only [Act.put,zz]
   refine wpAnyH_done (by kernel_rfl) ?_ _;have HE:=Hd (FIN.out _ _ _ _ _ _ HN6.out HK6.out HTS.out.1 HTS.out.2.1 (by rw [HTS.out.2.2];have:=HM.out;omega));go_wp2_with fail
   refine bodyPost_end (results_none rfl _ _ _) rfl ?_;exact HE.out
  have y7:((k3:Int) == 0)=false:=by simp;omega
  have HE:=Hd (FIN.out _ _ _ _ _ _ HXO.out (Z0d.refl _ _) HG.out (HLM.out.mono (by omega) (by omega) (by omega)) (by have:=HM.out;omega));go_wp2_with (go_at_call 14;(with_reducible refine (P3.out _).mono ?_);rintro e wq ⟨rfl,hwq⟩;rw [hwq];clear hwq wq)
  refine bodyPost_end (results_none rfl _ _ _) rfl ?_;exact HE.out
 have y5:((q:Int) == 5)=false:=by simp;omega
 by_cases hq6:q=6
 ·have y6:((q:Int) == 6)=true:=by simp;omega
  clear hq2 hq3 hq4 hq5;obtain ⟨nw,hnw⟩:∃nw,nw=st.now:=⟨_,rfl⟩;have hnw0:0<=nw:=by rw [hnw];exact HLM.out.cap.n0
  have hnw1:nw<=1000000:=by rw [hnw];have:=HM.out;have:=HKK.out;omega
  have HNW:=Hd hnw;have kt10:(kt:Int)<10:=by omega
  have kt0:(0:Int)<=(kt:Int):=by omega
  have ewn:IntKind.wrap .i64 (nw+(kt:Int))=nw+(kt:Int):=by rw [IntKind.wrap_i64];omega
  have n4:=HXO.out.cells.2.2.2.2.1;rw [<-hnw] at n4;obtain ⟨qv,fv,cv,hrow⟩:=HXO.out.row;have fz:=λo=>frozen_of_row wo nb o _ _ hrow;have HXT:=Hd (show Z0q base w1 nb gn nc cur xs {st with now:=nw+(kt:Int)} A2 (wo.setCell ⟨nb,4,none⟩ (.int .i64 (nw+(kt:Int)))).drew from (HXO.out.time (nw+(kt:Int))).1.later (Below.refl _ _).drew);have HKT:=Hd (show Z0d A2 wo (wo.setCell ⟨nb,4,none⟩ (.int .i64 (nw+(kt:Int)))).drew from (HXO.out.time (nw+(kt:Int))).2.trans ((HXO.out.time (nw+(kt:Int))).1.keepB (Below.refl _ _).drew) (λ_ q=>q));have SKO:=Hd (show wo.drew.cell? ⟨ob,1,none⟩=some (.int .i64 o.a) from OC.out _ (HXO.out.keepB (Below.refl _ wo).drew) 1 _ rfl);have SKT:=Hd (show (wo.drew.setCell ⟨nb,4,none⟩ (.int .i64 (nw+(kt:Int)))).cell? ⟨ob,1,none⟩=some (.int .i64 o.a) from OC.out _ HKT.out 1 _ rfl);have HLT:=Hd (HLM.out.later (t:=nw+(kt:Int)) (by omega) (by omega));have HGT:=Hd (show Z2i H F N (Z0g.deliver {st with now:=nw+(kt:Int)})∧Lim (Z0g.deliver {st with now:=nw+(kt:Int)}) K T G from ⟨(HG.out.later _).deliver,HLT.out.deliver⟩);have DV:=Hd (HXT.out.deliver (HG.out.later _) HLT.out.cap (by have:=HKK.out;omega));unfold pv at DV;clear hrow hnw;go_upto_region 23 with (fail)
  refine wp_region_held_drew (S:=λW2=>W2.cell? ⟨ob,1,none⟩=some (.int .i64 o.a)) (by kernel_rfl) SKO.out (λhHeld=>?_);refine hyw (i:=0) hHeld ?_;try simp only [Act.put,zz]
  refine hyw (i:=1) hHeld ?_;try simp only [Act.put,zz]
  refine hyw (i:=2) hHeld ?_;try simp only [Act.put,zz]
  refine hyw (i:=3) hHeld ?_;try simp only [Act.put,zz]
  refine hyw (i:=5) hHeld ?_;try simp only [Act.put,zz]
  refine hyw (i:=6) hHeld ?_;try simp only [Act.put,zz]
  refine wpAnyH_ready (rs:=[4,7]) (by kernel_rfl) (by simp) ?_;refine AllReadyH.cons (o:=_) rfl (λK hK=>?_) (AllReadyH.cons (o:=_) rfl (λK hK=>?_) AllReadyH.nil)
  ·go_simp;clear hHeld;go_wp2_with fail
   refine hK.out _ _ (SKO.out) (λhHeld=>?_);clear hK K;try simp only [Act.put,zz]
   refine wpAnyH_ready (rs:=[7]) (by kernel_rfl) (by simp) ?_;refine AllReadyH.cons (o:=_) rfl (λK hK=>?_) AllReadyH.nil;go_simp;go_at_call 14
   (with_reducible refine (P10.out _).mono ?_)
   rintro e wq ⟨rfl,hwq⟩;rw [hwq];clear hwq wq;clear hHeld;go_wp2_with fail
   refine hK.out _ _ (SKO.out) (λhHeld=>?_);clear hK K;try simp only [Act.put,zz]
   refine hyw (i:=8) hHeld ?_;try simp only [Act.put,zz]
   refine hyw (i:=9) hHeld ?_;try simp only [Act.put,zz]
   refine hyw (i:=10) hHeld ?_;try simp only [Act.put,zz]
   refine wpAnyH_ready (rs:=[11]) (by kernel_rfl) (by simp) ?_;refine AllReadyH.cons (o:=_) rfl (λK hK=>?_) AllReadyH.nil;go_simp;clear hHeld;go_wp2_with fail
   refine hK.out _ _ (SKT.out) (λhHeld=>?_);clear hK K;try simp only [Act.put,zz]
   refine wpAnyH_done (by kernel_rfl) ?_ _;go_wp2_with (go_at_call 102;(with_reducible refine DV.out.mono ?_);rintro e w5 ⟨rfl,hn5,hk5⟩;have HE:=Hd (FIN.out _ _ _ _ _ _ hn5 (HKT.out.trans hk5 (λ_ q=>q)) HGT.out.1 (HGT.out.2.mono (by omega) (by omega) (by omega)) (by show nw+(kt:Int)<=_;rw [HNW.out];have:=HM.out;omega));clear hn5 hk5)
   refine bodyPost_end (results_none rfl _ _ _) rfl ?_;exact HE.out
  go_simp;go_at_call 14
  (with_reducible refine (P10.out _).mono ?_)
  rintro e wq ⟨rfl,hwq⟩;rw [hwq];clear hwq wq;clear hHeld;go_wp2_with fail
  refine hK.out _ _ (SKO.out) (λhHeld=>?_);clear hK K;try simp only [Act.put,zz]
  refine wpAnyH_ready (rs:=[4]) (by kernel_rfl) (by simp) ?_;refine AllReadyH.cons (o:=_) rfl (λK hK=>?_) AllReadyH.nil;go_simp;clear hHeld;go_wp2_with fail
  refine hK.out _ _ (SKO.out) (λhHeld=>?_);clear hK K;try simp only [Act.put,zz]
  refine hyw (i:=8) hHeld ?_;try simp only [Act.put,zz]
  refine hyw (i:=9) hHeld ?_;try simp only [Act.put,zz]
  refine hyw (i:=10) hHeld ?_;try simp only [Act.put,zz]
  refine wpAnyH_ready (rs:=[11]) (by kernel_rfl) (by simp) ?_;refine AllReadyH.cons (o:=_) rfl (λK hK=>?_) AllReadyH.nil;go_simp;clear hHeld;go_wp2_with fail
  refine hK.out _ _ (SKT.out) (λhHeld=>?_);clear hK K;try simp only [Act.put,zz]
  refine wpAnyH_done (by kernel_rfl) ?_ _;go_wp2_with (go_at_call 102;(with_reducible refine DV.out.mono ?_);rintro e w5 ⟨rfl,hn5,hk5⟩;have HE:=Hd (FIN.out _ _ _ _ _ _ hn5 (HKT.out.trans hk5 (λ_ q=>q)) HGT.out.1 (HGT.out.2.mono (by omega) (by omega) (by omega)) (by show nw+(kt:Int)<=_;rw [HNW.out];have:=HM.out;omega));clear hn5 hk5)
  refine bodyPost_end (results_none rfl _ _ _) rfl ?_;exact HE.out
 have y6:((q:Int) == 6)=false:=by simp;omega
 have o0:=OC.out wo (Z0d.refl _ _) 0 _ rfl;have o1:=OC.out wo (Z0d.refl _ _) 1 _ rfl;have o2:=OC.out wo (Z0d.refl _ _) 2 _ rfl;have o3:=OC.out wo (Z0d.refl _ _) 3 _ rfl;have o4:=OC.out wo (Z0d.refl _ _) 4 _ rfl;have o5:=OC.out wo (Z0d.refl _ _) 5 _ rfl;have o6:=OC.out wo (Z0d.refl _ _) 6 _ rfl;have o7:=OC.out wo (Z0d.refl _ _) 7 _ rfl;have o8:=OC.out wo (Z0d.refl _ _) 8 _ rfl;have o9:=OC.out wo (Z0d.refl _ _) 9 _ rfl;have o10:=OC.out wo (Z0d.refl _ _) 10 _ rfl;have o11:=OC.out wo (Z0d.refl _ _) 11 _ rfl;have o12:=OC.out wo (Z0d.refl _ _) 12 _ rfl;go_wp2_with (go_at_call 55;(with_reducible refine LIE.out.mono ?_);rintro e w5 ⟨rfl,s1,hl5,hn5,hk5⟩;have HE:=Hd (FIN.out _ _ _ _ _ _ hn5 hk5 (HG.out.lied hl5) ((HLM.out.lied hl5).mono (by omega) (by omega) (by omega)) (by obtain ⟨_,_,_,_,_,rfl⟩:=hl5;have:=HM.out;show st.now<=_;omega));clear hl5 hn5 hk5)
 refine bodyPost_end (results_none rfl _ _ _) rfl ?_;exact HE.out
end
end
section
open Go.RowKit
theorem Tryz.infoPn:(Tryz.prog.info? 25).map (λi=>(i.zero,i.size,i.bytes))=some (some (.pointer none),1,8):=by kernel_rfl
theorem Zq0 {b e k n:Nat} {v:Value} {W:World} {xs:List Value} (h:W.ownsRow b e k v n xs) (g:Nat) (hg:v.ownBlock=some g):b<=g∧g<W.heap.size:=by
 rcases h.2 with ⟨rfl,_⟩ | ⟨g0,cap,cur,rfl,h1,h2,_⟩
 ·simp [Value.ownBlock] at hg
 have:g0=g:=by simpa [Value.ownBlock] using hg
 subst this;exact ⟨h1,(gE h2).1⟩
theorem Zjy {b nb i e sz n n':Nat} {row:Array Value} {xs news:List Value} {v v2:Value} {wz w7:World} (hn:wz.heap[nb]?=some (.cells row 50 (0,0))) (he:50≠e)
  (how:wz.ownsRow b e sz v n xs) (own:w7.ownsRow b e sz v2 n' (xs ++ news)) (gr:wz.grownBy w7 v.ownBlock) :
  w7.heap[nb]?=some (.cells row 50 (0,0))∧(w7.setCell ⟨nb,i,none⟩ v2).heap[nb]?=some (.cells (row.setIfInBounds i v2) 50 (0,0))∧(w7.setCell ⟨nb,i,none⟩ v2).ownsRow b e sz v2 n' (xs ++ news)∧Chg (λk=>k=nb∨v.ownBlock=some k) wz (w7.setCell ⟨nb,i,none⟩ v2):=by
 have h7:w7.heap[nb]?=some (.cells row 50 (0,0)):=(gr.block nb (gE hn).1 (λq=>by
  obtain ⟨c,hc⟩:=Z1e how q.symm;exact Z0p hn hc he rfl)).trans hn
 refine ⟨h7,Z05 h7 _,Z09 own (λg cur _ hg=>Below.heap_setCell _ ⟨nb,i,none⟩ _ g (λq=>Z0p hg h7 (λq=>he q.symm) q)),?_⟩;exact (Chg.grown gr (λk q=>.inr q)).trans (Chg.set _ nb i v2 (.inl (.inl rfl)))
def news (N i:Nat):List StB:=(List.range i).map λ(i:Nat)=>Z42 (i:Int) (N:Int)
theorem Zn8 (N i:Nat):news N (i+1)=news N i ++ [Z42 (i:Int) (N:Int)]:=by
 unfold news;rw [List.range_succ,List.map_append];rfl
theorem Z8r (N i:Nat):(news N i).length=i:=by simp [news]
theorem Zd3 {N i j:Nat} {s:StB} (h:(news N i)[j]?=some s):j<i∧s=Z42 (j:Int) (N:Int):=by
 have hj:=(List.getElem?_eq_some_iff.1 h).1;rw [Z8r] at hj;refine ⟨hj,?_⟩;unfold news at h;rw [List.getElem?_map,List.getElem?_range hj] at h;exact (Option.some.inj h).symm
def Zq1 (N:Nat) (last:Int) (ss:List StB):Z0g:=⟨N,last,0,ss,[],[],[],false⟩
abbrev Zt8 (N:Nat) (last:Int) (v:Value):Array Value:=Z1b (N:Int) (Z03 N) last 0 v (.slice none 0 0) (.slice none 0 0) (.slice none 0 0) false
def Z6m (base:Nat) (w1:World) (N:Nat) (last:Int) (nb i:Nat) (v:Value) (W:World):Prop:=
 ∃xs Rs,xs.length=i∧Net GB base W xs (news N i) Rs∧W.ownsRow base 25 1 v i (xs.map pv)∧(∀g,v.ownBlock=some g->¬Z7b i Rs g)∧Below base w1 W∧0<base∧base<=w1.heap.size∧Glob w1 ∧
  W.heap[nb]?=some (.cells (Zt8 N last v) 50 (0,0))∧base<=nb∧¬Z7b i Rs nb
def Zjz (base:Nat) (w1:World) (N:Nat) (last:Int) (nb i:Nat) (v:Value) (x:Nat) (W:World):Prop:=
 ∃xs Rs,xs.length=i∧Net GB base W (xs ++ [x]) (news N (i+1)) Rs∧W.ownsRow base 25 1 v i (xs.map pv)∧(∀g,v.ownBlock=some g->¬Z7b (i+1) Rs g)∧Below base w1 W∧0<base∧base<=w1.heap.size∧Glob w1 ∧
  W.heap[nb]?=some (.cells (Zt8 N last v) 50 (0,0))∧base<=nb∧¬Z7b (i+1) Rs nb
section
variable {base:Nat} {w1 W W':World} {N:Nat} {last:Int} {nb i x:Nat} {v:Value}
theorem Z6m.nil (hb:Below base w1 W) (h0:0<base) (hl:base<=w1.heap.size) (hG:Glob w1) (hr:W.heap[nb]?=some (.cells (Zt8 N last (.slice none 0 0)) 50 (0,0))) (hn:base<=nb):Z6m base w1 N last nb 0 (.slice none 0 0) W:=
 ⟨[],λ_ _=>False,rfl,Net.nil _ _ _ _,World.ownsRow_nil _ _ _ _,λg hg=>by simp [Value.ownBlock] at hg,hb,h0,hl,hG,hr,hn,λ⟨j,hj,_⟩=>absurd hj (Nat.not_lt_zero j)⟩
theorem Z6m.slice (h:Z6m base w1 N last nb i v W):∃ao cap,v = .slice ao i cap:=by
 obtain ⟨xs,Rs,hl,hn,ho,_⟩:=h;rcases ho.2 with ⟨rfl,h0⟩ | ⟨g,cap,cur,rfl,_⟩
 ·exact ⟨none,0,by rw [<-h0]⟩
 exact ⟨_,_,rfl⟩
theorem Zjz.cells (h:Zjz base w1 N last nb i v x W):W.cell? ⟨nb,0,none⟩=some (.int .i64 (N:Int))∧W.cell? ⟨nb,1,none⟩=some (.int .i64 (Z03 N))∧W.cell? ⟨nb,2,none⟩=some v:=by
 obtain ⟨xs,Rs,hl,hn,ho,hz,hb1,hp,hle,hG,hr,hnb,hnr⟩:=h;refine ⟨?_,?_,?_⟩ <;> (rw [cell_of_row W nb _ _ _ _ hr];rfl)
theorem Z6m.cells (h:Z6m base w1 N last nb i v W):W.cell? ⟨nb,0,none⟩=some (.int .i64 (N:Int))∧W.cell? ⟨nb,1,none⟩=some (.int .i64 (Z03 N))∧W.cell? ⟨nb,2,none⟩=some v:=by
 obtain ⟨xs,Rs,hl,hn,ho,hz,hb1,hp,hle,hG,hr,hnb,hnr⟩:=h;refine ⟨?_,?_,?_⟩ <;> (rw [cell_of_row W nb _ _ _ _ hr];rfl)
theorem Z6m.make (h:Z6m base w1 N last nb i v W) (hi:i<N) (h7:N<=7):Calls Tryz.prog 15 #[.int .i64 (i:Int),.int .i64 (N:Int)] W λe w'=>∃x,e = .returned (.tuple #[pv x,.int .i64 0])∧Zjz base w1 N last nb i v x w':=by
 obtain ⟨xs,Rs,hl,hn,ho,hz,hb,hp,hle,hG,hr,hnb,hnr⟩:=h;have hs:=Nat.le_trans hle hb.size;refine (Zt4 hn hs (id:=(i:Int)) (n:=(N:Int)) (by omega) (by omega) (by omega) (by omega)).mono ?_;rintro e w' ⟨x,Rs',rfl,h1,h2,h3⟩;have ea:(xs ++ [x]).length=i+1:=by simp [hl]
 rw [ea] at h3;have hnl:=(gE hr).1;refine ⟨x,rfl,xs,Rs',hl,by rw [Zn8];exact h1,Z07 ho (λg _ hlt=>h2.block g hlt),λg hg hr2=>?_,hb.trans (h2.mono hs),hp,hle,hG,(h2.block nb hnl).trans hr,hnb,λhr2=>?_⟩
 ·rcases h3 g hr2 with q | q
  ·rw [hl] at q;exact hz g hg q
  have:=(Zq0 ho g hg).2;omega
 rcases h3 nb hr2 with q | q
 ·rw [hl] at q;exact hnr q
 omega
theorem Zjz.push (h:Zjz base w1 N last nb i v x W):∃l:List Value,l.length=i∧W.ownsRow base 25 1 v i l ∧
  ∀(wz w7:World) (v2:Value),Below W.heap.size W wz->w7.ownsRow base 25 1 v2 (i+1) (l ++ [pv x])->wz.grownBy w7 v.ownBlock->(∀g,v2.ownBlock=some g->v.ownBlock=some g∨wz.heap.size<=g) ->
   Z6m base w1 N last nb (i+1) v2 (w7.setCell ⟨nb,2,none⟩ v2)∧w7.cell? ⟨nb,2,none⟩=some v∧∀o,w7.frozen? ⟨nb,o,none⟩=false:=by
 obtain ⟨xs,Rs,hl,hn,ho,hz,hb1,hp,hle,hG,hr,hnb,hnr⟩:=h;refine ⟨xs.map pv,by simp [hl],ho,λwz w7 v2 hb own gr hloc=>?_⟩;have hbs:=Nat.le_trans hle hb1.size;have oz:wz.ownsRow base 25 1 v i (xs.map pv):=Z07 ho (λg _ hlt=>hb.block g hlt);have hnl:=(gE hr).1;have rz:=(hb.block nb hnl).trans hr;have h8:i+1=(xs.map pv ++ [pv x]).length:=by simp [hl]
 obtain ⟨p0,p1,p2,p3⟩:=Zjy (i:=2) rz (by decide) oz own gr;have ea:(xs ++ [x]).length=i+1:=by simp [hl]
 have hkeep:∀k,Z7b (i+1) Rs k->(w7.setCell ⟨nb,2,none⟩ v2).heap[k]?=W.heap[k]?:=λk hk=>by
  have hlt:=hn.lt (by rw [ea];exact hk);have:=hb.size;rw [p3.block k (by omega) (λe=>by
   rcases e with e | e
   ·exact hnr (e ▸ hk)
   exact hz k e hk)]
  exact hb.block k hlt
 have hsz:=Nat.le_trans hb.size p3.size;have hbel:Below base W (w7.setCell ⟨nb,2,none⟩ v2):=(hb.mono hbs).trans (p3.below (Nat.le_trans hbs hb.size) (λk e=>by
  rcases e with e | e
  ·omega
  exact (Zq0 oz k e).1))
 refine ⟨⟨xs ++ [x],Rs,ea,hn.kept (by rw [ea];exact hkeep) hsz,by rw [List.map_append];exact p2,λg hg hr2=>?_,hb1.trans hbel,hp,hle,hG,p1,hnb,hnr⟩,by rw [cell_of_row w7 nb 2 _ _ _ p0];rfl,λo=>frozen_of_row w7 nb o _ _ p0⟩;rcases hloc g hg with q | q
 ·exact hz g q hr2
 have:=hn.lt (by rw [ea];exact hr2);have:=hb.size;omega
theorem Zfd {o:Oper} {a:Act} {Q:Exit->Act->World->Prop} {ops:Array Oper} {rest:List Oper} (hgd:o.guard=none) (s2 x2:Operand)
  (ho:o.op = .call {callee:=.builtin .append,args:=#[s2,x2],argTypes:=#[24,24]})
  (hs:a.eval s2=v) (h:Zjz base w1 N last nb i v x W) (hi:i<7)
  (hx:a.eval x2 = .slice (some ⟨W.heap.size,0,none⟩) 1 1)
  (hk:∀v' W',Z6m base w1 N last nb (i+1) v' (W'.setCell ⟨nb,2,none⟩ v')->W'.cell? ⟨nb,2,none⟩=some v->(∀o,W'.frozen? ⟨nb,o,none⟩=false)->wpList Tryz.prog ops Q rest (a.put o.dst v') W'):wpList Tryz.prog ops Q (o :: rest) a (W.alloc (.cells #[pv x] 25)):=by
 have hsz:base<=W.heap.size:=by
  obtain ⟨xs,Rs,hl,hn,ho,hz,hb1,hp,hle,_⟩:=h;exact Nat.le_trans hle hb1.size
 obtain ⟨l,hl,hown,fin⟩:=h.push;obtain ⟨ti,hti,hz0,hz1,hz2⟩:=info_parts Tryz.infoPn;have hba:=(Below.refl _ W).alloc (Nat.le_refl _) (.cells #[pv x] 25);refine Z0m hgd s2 x2 24 ho base 25 ti (.pointer none) 1 8 Tryz.underlying24 hti hz0 hz1 hz2 (by rfl) (by decide) v i l hs (Z07 hown (λg _ hlt=>hba.block g hlt)) ⟨W.heap.size,0,none⟩ 1 1 [pv x] hx (by rfl) (Z0w W [pv x] _ _ rfl) (by intro u hu;simp at hu;subst hu;rfl) (by unfold maxLen;omega) (by omega) (by simp;omega) (i+1) rfl ?_;intro v' W' o2 gr hloc;obtain ⟨f1,f2,f3⟩:=fin _ W' v' hba o2 gr hloc;exact hk v' W' f1 f2 f3
theorem Z6m.net (h:Z6m base w1 N last nb i v W) (h1:1<=i) (h8:i<=8):∃gn nc cur xs,Z0q base w1 nb gn nc cur xs (Zq1 N last (news N i)) (λ_=>False) W:=by
 obtain ⟨xs,Rs,hl,hn,hown,hz,hb1,hp,hle,hG,hr,hnb,hnr⟩:=h;rcases hown.2 with ⟨_,h0⟩ | ⟨g,cap,cur,rfl,hbg,hg,h3,h4,h5⟩
 ·omega
 subst hl;refine ⟨g,cap,cur,xs,Rs,.slice none 0 0,.slice none 0 0,.slice none 0 0,[],⟨hn,hb1,hp,hle,hG⟩,Nat.le_refl _,h8,?_,hr,hg,λj x hj hx=>?_,Z2g.nil W,rfl,λp hp=>(List.not_mem_nil hp).elim,Z3f.nil W,Z1k.nil W,λk hk=>?_,λk hk=>hk.elim⟩
 ·exact (Z3t (by rw [show (Zq1 N last (news N xs.length)).ss=news N xs.length from rfl,Z8r])).symm
 ·have:=hown.cells (g:=g) rfl j (pv x) (by rw [List.getElem?_map,hx];rfl);simp [Addr.add] at this;have e2:=cell_of_row W g j _ _ _ hg;split at this
  ·rename_i q
   subst q;rw [e2] at this;exact this
  rw [e2] at this;exact this
 rcases hk with rfl | rfl | q | q | q
 ·exact ⟨⟨(gE hr).1,hnr⟩,hnb⟩
 ·exact ⟨⟨(gE hg).1,λq=>hz k rfl q⟩,hbg⟩
 ·cases q
 ·cases q
 cases q
end
section
variable {H F N:Nat} {last:Int}
theorem Ztz (n:Num H F N):Z2i H F N (Zq1 N last (news N H)):=by
 refine ⟨λ_ _ _ _ _=>False,λ_ _ _=>False,rfl,Z8r N H,Agr.start _ (λi hi=>⟨none,[],?_,λd hd=>(by cases hd)⟩),λs hs=>?_,λp hp=>(by cases hp),λc hc=>(by cases hc),rfl⟩
 ·obtain ⟨s,hs⟩:∃s,(news N H)[i]?=some s:=⟨_,List.getElem?_eq_getElem (by rw [Z8r];exact hi)⟩;show sgm (news N H) i=_;rw [Z2z hs,(Zd3 hs).2];rfl
 obtain ⟨i,hi,e⟩:=List.getElem_of_mem hs;have hs2:=List.getElem?_eq_getElem hi;obtain ⟨h1,h2⟩:=Zd3 hs2;rw [<-e,h2];have:=n.hN;have:=n.n7;exact ⟨Fit.new (by omega) (by omega) (by omega),λk v hk=>(by cases hk),λm hm=>(by cases hm)⟩
theorem bgn0 (N H:Nat) (last:Int):Zne N (Zq1 N last (news N H)) (Zq1 N last (news N H)) 0:=
 ⟨rfl,rfl,rfl,rfl,rfl,rfl,rfl,λi s _ hs=>(Zd3 hs).2,λs hs=>by
  obtain ⟨i,hi,e⟩:=List.getElem_of_mem (show s∈news N H from hs);have:=(Zd3 (List.getElem?_eq_getElem hi)).2;rw [<-e,this];exact ⟨rfl,rfl⟩⟩
theorem lim0 {N H:Nat} {st':Z0g} (h:Zne N (Zq1 N 2 (news N H)) st' H):Lim st' 0 0 2:=by
 refine ⟨⟨?_,?_,?_,?_,?_,?_⟩,λs hs=>?_,λs hs=>?_,?_,?_⟩
 ·rw [h.q];exact Nat.le_refl _
 ·rw [h.cs];exact Nat.le_refl _
 ·rw [h.fates];exact Nat.zero_le _
 ·rw [h.fates];intro f hf;cases hf
 ·rw [h.now];exact Int.le_refl _
 ·rw [h.now];show (0:Int)<=_;omega
 ·have:=(h.old s hs).1;omega
 ·have:=(h.old s hs).2;omega
 ·rw [h.last];show (0:Int)<=2;omega
 rw [h.last];show (2:Int)<=((2:Nat):Int);omega
end
end
end Go.Proofs.YtifcdjmcoibblaaGreatDoor
