/- Lie Dst -/
import Derived.Test.YtifcdjmcoibblaaGreatDoorAq49
import Derived.Test.YtifcdjmcoibblaaGreatDoorAq48
set_option linter.unusedVariables false
set_option linter.unusedSimpArgs false
set_option linter.unusedSectionVars false
set_option maxRecDepth 100000
set_option maxHeartbeats 80000000
namespace Go.Proofs.YtifcdjmcoibblaaGreatDoor
section
open Go.RowKit
structure LieM (H N:Nat) (t:Nat) (s:StB) (m:Z0k):Prop where
 tt:m.to=(t:Int)
 f0:(H:Int)<=m.frm
 f1:m.frm<(N:Int)
 ht:m.height=s.height
 kind:m.kind=3∨m.kind=4∨m.kind=5∨m.kind=6
 r0:0<=m.round
 r4:m.round<=4
 prop:m.kind=3->(∃j,j<4∧m.list=fam j∧m.dig=Z0z (fam j))∧-1<=m.valid∧m.valid<m.round
 vote:m.kind≠3->m.valid=0∧m.list = []∧(m.dig=Dg.nil∨∃j,j<4∧m.dig=Z0z (fam j))
def Zt6 (H N:Nat) (st st':Z0g):Prop:=∃(t:Nat) (s:StB) (m:Z0k),st.ss[t]?=some s∧LieM H N t s m∧st'=st.set t (s.receive m (Z04 m))
theorem Zt7 (w:World) (mb:Nat) (v0 v1 v2 v3 v4 v5 v6 v7:Value):Chg (λk=>k=mb) w ((((((((w.setCell ⟨mb,0,none⟩ v0).setCell ⟨mb,1,none⟩ v1).setCell ⟨mb,2,none⟩ v2).setCell ⟨mb,3,none⟩ v3).setCell ⟨mb,4,none⟩ v4).setCell ⟨mb,5,none⟩ v5).setCell ⟨mb,6,none⟩ v6).setCell ⟨mb,7,none⟩ v7):=by
 have c:∀{x:World} (y:World) (i:Nat) (v:Value),Chg (λk=>k=mb) x y->Chg (λk=>k=mb) x (y.setCell ⟨mb,i,none⟩ v):=λy i v h=>h.trans (Chg.set y mb i v (.inl rfl));exact c _ 7 v7 (c _ 6 v6 (c _ 5 v5 (c _ 4 v4 (c _ 3 v3 (c _ 2 v2 (c _ 1 v1 (Chg.set (C:=λk=>k=mb) w mb 0 v0 rfl)))))))
def OpR.val (o:OpR):Value:=.agg o.cells.toArray
section
variable {base:Nat} {w1 W W':World} {nb gn nc:Nat} {cur:Array Value} {xs:List Nat} {st:Z0g} {A B:Nat->Prop} {H F N K T G:Nat}
theorem Zrl (n:Num H F N) (h:Z0q base w1 nb gn nc cur xs st A W) (g:Z2i H F N st) (o:OpR) (hok:o.Ok) :
  Calls Tryz.prog 55 #[pv nb,o.val] W λe w'=>e = .returned (.tuple #[])∧∃st',Zt6 H N st st'∧Z0q base w1 nb gn nc cur xs st' A w'∧Z0d A W w':=by
 have hn:st.n=N:=by obtain ⟨V,E,a⟩:=g;exact a.n
 have hl:xs.length=H:=by rw [h.len];exact g.len
 have hF:Z03 st.n=(F:Int):=by rw [hn];exact n.hf
 have n0:=n.h3;have n1:=n.hN;have n2:=n.n7;have n3:=n.n4;obtain ⟨t,ht,hpt⟩:=Z10 o.b H (by omega);have qt:=Z8q 12 hok.kd.1 hok.kd.2 (by decide);obtain ⟨p,hp,hpp⟩:=Z10 (o.kd.tdiv 12) F (by have:=n.hf;unfold Z03 at this;omega);obtain ⟨x,hx⟩:∃x,xs[t]?=some x:=⟨_,List.getElem?_eq_getElem (by rw [hl];exact ht)⟩;obtain ⟨s,hs⟩:∃s,st.ss[t]?=some s:=⟨_,List.getElem?_eq_getElem (by rw [<-h.len,hl];exact ht)⟩;have HFT:=Hd (h.fit (List.mem_of_getElem? hs));have PT:=Hd (show ∀W,Calls Tryz.prog 14 #[.int .i64 o.b,.int .i64 (H:Int)] W λe w'=>e = .returned (.int .i64 (t:Int))∧w'=W from λW=>(Z2e o.b H W hok.b.1 hok.b.2 (by omega) (by omega)).mono λe w' q=>⟨by rw [q.1];exact congrArg _ (congrArg _ hpt),q.2.symm⟩);have PP:=Hd (show ∀W,Calls Tryz.prog 14 #[.int .i64 (o.kd.tdiv 12),.int .i64 (F:Int)] W λe w'=>e = .returned (.int .i64 (p:Int))∧w'=W from λW=>(Z2e (o.kd.tdiv 12) F W (by omega) (by omega) (by omega) (by omega)).mono λe w' q=>⟨by rw [q.1];exact congrArg _ (congrArg _ hpp),q.2.symm⟩);have MS:=Hd (show ∀W2,Below W.heap.size W W2->Calls Tryz.prog 27 #[.int .i64 (N:Int),.int .i64 (t:Int),opV o.kd o.a o.b o.c o.d o.x0 o.x1 o.x2 o.x3 o.x4 o.x5 o.xd o.xa o.xn o.xc] W2 λe w'=>∃m sl,e = .returned (.agg (Z0l m sl))∧Z0a (New W2 w') w' sl m.list∧Zt5 (N:Int) (t:Int) m∧Below W2.heap.size W2 w' from λW2 hW=>Zh2 o.kd o.a o.b o.c o.d o.x0 o.x1 o.x2 o.x3 o.x4 o.x5 o.xd o.xa o.xn o.xc (N:Int) (t:Int) W2 hok.a hok.b hok.c hok.d ⟨by omega,by omega⟩ ((h.later hW).gl));have HX:=Hd h;have HXS:=Hd hx;have HSS:=Hd hs;have q12:IntKind.wrap .i64 (o.kd.tdiv 12)=o.kd.tdiv 12:=by rw [IntKind.wrap_i64];omega
 have qn1:IntKind.wrap .i64 ((N:Int) - 1)=(N:Int) - 1:=by rw [IntKind.wrap_i64];omega
 have qnp:IntKind.wrap .i64 ((N:Int) - 1 - (p:Int))=(N:Int) - 1 - (p:Int):=by rw [IntKind.wrap_i64];omega
 have th:(t:Int)<(H:Int):=by omega
 have t0:(0:Int)<=(t:Int):=by omega
 have h8:(H:Int)<=8:=by omega
 have HFP:=Hd (show (H:Int)<=(N:Int) - 1 - (p:Int)∧(N:Int) - 1 - (p:Int)<(N:Int) from by omega);have HLN:=Hd hl;have HFN:=Hd hF;have HNN:=Hd hn;obtain ⟨ob,hob⟩:∃ob,ob=W.heap.size:=⟨_,rfl⟩;obtain ⟨wo,hwo⟩:∃wo,wo=W.alloc (.cells o.cells.toArray 52):=⟨_,rfl⟩;have HRO:=Hd (show wo.heap[ob]?=some (.cells o.cells.toArray 52 (0,0)) from by rw [hwo,hob];exact World.alloc_heap_new W _);have HBO:=Hd (show Below W.heap.size W wo from by rw [hwo];exact (Below.refl _ W).alloc (Nat.le_refl _) _);have HXO:=Hd (HX.out.later HBO.out);have HOB:=Hd ((gE HRO.out).1);have HWO:=Hd hwo;have HOE:=Hd hob;clear hok hpt hpp qt h g n hn hl hF hx hs hob hwo n0 n1 n2 n3 hp ht;unfold OpR.val pv;unfold OpR.cells at *;go_enter Tryz.func55,Tryz.ntmps55
 go_upto_region 1 with (fail)
 rw [<-HOE.out,<-HWO.out];have OK:=Hd (show ∀W2,Below wo.heap.size wo W2->W2.heap[ob]?=some (.cells [.int .i64 o.kd,.int .i64 o.a,.int .i64 o.b,.int .i64 o.c,.int .i64 o.d,.int .i64 o.x0,.int .i64 o.x1,.int .i64 o.x2,.int .i64 o.x3,.int .i64 o.x4,.int .i64 o.x5,.string o.xd,.slice o.xa o.xn o.xc].toArray 52 (0,0)) from λW2 hW=>(hW.block ob HOB.out).trans HRO.out);have NK:=Hd (show ∀W2,Below wo.heap.size wo W2->W2.cell? ⟨nb,0,none⟩=some (.int .i64 (N:Int))∧W2.cell? ⟨nb,1,none⟩=some (.int .i64 (F:Int))∧W2.cell? ⟨nb,2,none⟩=some (.slice (some ⟨gn,0,none⟩) H nc)∧W2.cell? ⟨gn,t,none⟩=some (.pointer (some ⟨x,0,none⟩)) from λW2 hW=>by
  have q:=HXO.out.later hW;obtain ⟨a0,a1,a2,_⟩:=q.cells;rw [HNN.out] at a0;rw [HFN.out] at a1;rw [HLN.out] at a2;exact ⟨a0,a1,a2,q.node HXS.out⟩)
 go_cut [4] from 4 to 13 (λv wc=>v = .int .i64 (t:Int)∧Below wo.heap.size wo wc)
 case first=>
  have SK:=Hd (show ∀W2,Below wo.heap.size wo W2->W2.cell? ⟨ob,2,none⟩=some (.int .i64 o.b)∧W2.cell? ⟨nb,2,none⟩=some (.slice (some ⟨gn,0,none⟩) H nc) from λW2 hW=>⟨by rw [cell_of_row W2 ob 2 _ _ _ (OK.out W2 hW)];rfl,(NK.out W2 hW).2.2.1⟩);refine wp_region_held_drew (S:=λW2=>W2.cell? ⟨ob,2,none⟩=some (.int .i64 o.b)∧W2.cell? ⟨nb,2,none⟩=some (.slice (some ⟨gn,0,none⟩) H nc)) (by kernel_rfl) (SK.out _ (Below.refl _ wo).drew) (λhHeld=>?_);refine hyw (i:=0) hHeld ?_;try simp only [Act.put,zz]
  refine hyw (i:=1) hHeld ?_;try simp only [Act.put,zz]
  refine hyw (i:=2) hHeld ?_;try simp only [Act.put,zz]
  refine hyw (i:=3) hHeld ?_;try simp only [Act.put,zz]
  refine hyw (i:=4) hHeld ?_;try simp only [Act.put,zz]
  refine hyw (i:=5) hHeld ?_;try simp only [Act.put,zz]
  refine hyw (i:=6) hHeld ?_;try simp only [Act.put,zz]
  refine wpAnyH_ready (rs:=[7]) (by kernel_rfl) (by simp) ?_;refine AllReadyH.cons (o:=_) rfl (λK hK=>?_) AllReadyH.nil;go_simp;go_at_call 14
  (with_reducible refine (PT.out _).mono ?_)
  rintro e wq ⟨rfl,hwq⟩;rw [hwq];clear hwq wq;clear hHeld;go_wp2_with fail
  refine hK.out _ _ (SK.out _ (Below.refl _ wo).drew) (λhHeld=>?_);clear hK K;try simp only [Act.put,zz]
  refine hyw (i:=8) hHeld ?_;try simp only [Act.put,zz]
  refine wpAnyH_done (by kernel_rfl) ?_ _;go_wp2_with fail
  go_meet;exact ⟨rfl,(Below.refl _ wo).drew⟩
 case rest=>
 obtain ⟨rfl,hb2⟩:=hcut;obtain ⟨w2,rfl⟩:∃w2:World,w2=wc:=⟨_,rfl⟩;have HB2:=Hd hb2;clear hb2 PT;go_upto_region 2 with (fail)
 go_cut [5] from 5 to 20 (λv wc=>∃mb m sl,v = .pointer (some ⟨mb,0,none⟩)∧Below w2.heap.size w2 wc∧w2.heap.size<=mb∧wc.heap[mb]?=some (.cells (Z0l m sl) 36 (0,0))∧Z0a (New w2 wc) wc sl m.list∧Zt5 (N:Int) (t:Int) m)
 case first=>
  have SK:=Hd (show ∀W2,Below w2.heap.size w2 W2->W2.cell? ⟨nb,0,none⟩=some (.int .i64 (N:Int))∧W2.cell? ⟨ob,0,none⟩=some (.int .i64 o.kd)∧W2.cell? ⟨ob,1,none⟩=some (.int .i64 o.a)∧W2.cell? ⟨ob,2,none⟩=some (.int .i64 o.b)∧W2.cell? ⟨ob,3,none⟩=some (.int .i64 o.c)∧W2.cell? ⟨ob,4,none⟩=some (.int .i64 o.d)∧W2.cell? ⟨ob,5,none⟩=some (.int .i64 o.x0)∧W2.cell? ⟨ob,6,none⟩=some (.int .i64 o.x1)∧W2.cell? ⟨ob,7,none⟩=some (.int .i64 o.x2)∧W2.cell? ⟨ob,8,none⟩=some (.int .i64 o.x3)∧W2.cell? ⟨ob,9,none⟩=some (.int .i64 o.x4)∧W2.cell? ⟨ob,10,none⟩=some (.int .i64 o.x5)∧W2.cell? ⟨ob,11,none⟩=some (.string o.xd)∧W2.cell? ⟨ob,12,none⟩=some (.slice o.xa o.xn o.xc) from λW2 hW=>by
   have q:=HB2.out.trans (hW.mono HB2.out.size);have r:=OK.out W2 q;refine ⟨(NK.out W2 q).1,?_,?_,?_,?_,?_,?_,?_,?_,?_,?_,?_,?_,?_⟩ <;> (rw [cell_of_row W2 ob _ _ _ _ r];rfl))
  refine wp_region_held_drew (S:=λW2=>W2.cell? ⟨nb,0,none⟩=some (.int .i64 (N:Int))∧W2.cell? ⟨ob,0,none⟩=some (.int .i64 o.kd)∧W2.cell? ⟨ob,1,none⟩=some (.int .i64 o.a)∧W2.cell? ⟨ob,2,none⟩=some (.int .i64 o.b)∧W2.cell? ⟨ob,3,none⟩=some (.int .i64 o.c)∧W2.cell? ⟨ob,4,none⟩=some (.int .i64 o.d)∧W2.cell? ⟨ob,5,none⟩=some (.int .i64 o.x0)∧W2.cell? ⟨ob,6,none⟩=some (.int .i64 o.x1)∧W2.cell? ⟨ob,7,none⟩=some (.int .i64 o.x2)∧W2.cell? ⟨ob,8,none⟩=some (.int .i64 o.x3)∧W2.cell? ⟨ob,9,none⟩=some (.int .i64 o.x4)∧W2.cell? ⟨ob,10,none⟩=some (.int .i64 o.x5)∧W2.cell? ⟨ob,11,none⟩=some (.string o.xd)∧W2.cell? ⟨ob,12,none⟩=some (.slice o.xa o.xn o.xc)) (by kernel_rfl) (SK.out _ (Below.refl _ w2).drew) (λhHeld=>?_);refine hyw (i:=0) hHeld ?_;try simp only [Act.put,zz]
  refine hyw (i:=1) hHeld ?_;try simp only [Act.put,zz]
  refine hyw (i:=2) hHeld ?_;try simp only [Act.put,zz]
  refine hyw (i:=3) hHeld ?_;try simp only [Act.put,zz]
  refine hyw (i:=4) hHeld ?_;try simp only [Act.put,zz]
  refine hyw (i:=5) hHeld ?_;try simp only [Act.put,zz]
  unfold opV at MS;refine wpAnyH_ready (rs:=[6,7]) (by kernel_rfl) (by simp) ?_;refine AllReadyH.cons (o:=_) rfl (λK hK=>?_) (AllReadyH.cons (o:=_) rfl (λK hK=>?_) AllReadyH.nil)
  ·go_simp;have BY:=Hd (Below.refl w2.heap.size w2).drew;have BX:=Hd (HB2.out.trans (BY.out.mono HB2.out.size));go_at_call 27
   (with_reducible refine (MS.out _ (HBO.out.trans (BX.out.mono HBO.out.size))).mono ?_)
   rintro e w6 ⟨m,sl,rfl,hl6,hlaw,hb6⟩;obtain ⟨aol,capl,rfl,_⟩:=id hl6;have HB6:=Hd (BY.out.trans (hb6.mono BY.out.size));have HL6:=Hd hl6;have HLAW:=Hd hlaw;have HB66:=Hd hb6;unfold Z0l iv;clear hl6 hlaw hb6;clear hHeld;go_wp2_with fail
   refine hK.out _ _ (SK.out _ HB6.out) (λhHeld=>?_);clear hK K;try simp only [Act.put,zz]
   refine wpAnyH_ready (rs:=[7]) (by kernel_rfl) (by simp) ?_;refine AllReadyH.cons (o:=_) rfl (λK hK=>?_) AllReadyH.nil;go_simp;clear hHeld;go_wp2_with fail
   refine hK.out _ _ (SK.out _ (HB6.out.alloc HB6.out.size _)) (λhHeld=>?_);clear hK K;try simp only [Act.put,zz]
   refine wpAnyH_ready (rs:=[8]) (by kernel_rfl) (by simp) ?_;refine AllReadyH.cons (o:=_) rfl (λK hK=>?_) AllReadyH.nil;go_simp;clear hHeld;go_wp2_with fail
   refine hK.out _ _ (SK.out _ (HB6.out.alloc HB6.out.size _)) (λhHeld=>?_);clear hK K;try simp only [Act.put,zz]
   refine wpAnyH_done (by kernel_rfl) ?_ _;go_wp2_with fail
   go_meet;exact ⟨_,m,.slice aol m.list.length capl,rfl,HB6.out.alloc HB6.out.size _,HB6.out.size,World.alloc_heap_new w6 _,(Z6l HL6.out ((Below.refl _ w6).alloc (Nat.le_refl _) _)).mono (λk hk=>hk),HLAW.out⟩
  go_simp;clear hHeld;go_wp2_with fail
  have BY:=Hd (show Below w2.heap.size w2 (w2.alloc (.cells #[.int .i64 0,.int .i64 0,.int .i64 0,.int .i64 0,.int .i64 0,.int .i64 0,.string (ByteArray.mk #[]),.slice none 0 0] 36)).drew from ((Below.refl _ w2).alloc (Nat.le_refl _) _).drew);have BX:=Hd (HB2.out.trans (BY.out.mono HB2.out.size));refine hK.out _ _ (SK.out _ BY.out) (λhHeld=>?_);clear hK K;try simp only [Act.put,zz]
  refine wpAnyH_ready (rs:=[6]) (by kernel_rfl) (by simp) ?_;refine AllReadyH.cons (o:=_) rfl (λK hK=>?_) AllReadyH.nil;go_simp;go_at_call 27
  (with_reducible refine (MS.out _ (HBO.out.trans (BX.out.mono HBO.out.size))).mono ?_)
  rintro e w6 ⟨m,sl,rfl,hl6,hlaw,hb6⟩;obtain ⟨aol,capl,rfl,_⟩:=id hl6;have HB6:=Hd (BY.out.trans (hb6.mono BY.out.size));have HL6:=Hd hl6;have HLAW:=Hd hlaw;have HB66:=Hd hb6;unfold Z0l iv;clear hl6 hlaw hb6;clear hHeld;go_wp2_with fail
  refine hK.out _ _ (SK.out _ HB6.out) (λhHeld=>?_);clear hK K;try simp only [Act.put,zz]
  have HZ:=Hd (show w6.heap[w2.heap.size]?=some (.cells #[.int .i64 0,.int .i64 0,.int .i64 0,.int .i64 0,.int .i64 0,.int .i64 0,.string (ByteArray.mk #[]),.slice none 0 0] 36 (0,0)) from (HB66.out.block w2.heap.size (by show w2.heap.size<(w2.alloc (.cells #[.int .i64 0,.int .i64 0,.int .i64 0,.int .i64 0,.int .i64 0,.int .i64 0,.string (ByteArray.mk #[]),.slice none 0 0] 36)).heap.size;simp)).trans (World.alloc_heap_new w2 _));obtain ⟨z0,z1,z2,z3,z4,z5,z6,z7,zf⟩:=Z1y.of (m:=(⟨0,0,0,0,0,0,ByteArray.mk #[],[]⟩:Z0k)) (ao:=none) (cap:=0) HZ.out;simp only [List.length_nil] at z7;have S8:=Hd (Zrq HZ.out);refine wpAnyH_ready (rs:=[8]) (by kernel_rfl) (by simp) ?_;refine AllReadyH.cons (o:=_) rfl (λK hK=>?_) AllReadyH.nil;go_simp;clear hHeld;go_wp2_with fail
  refine hK.out _ _ (SK.out _ (HB6.out.trans ((Zt7 _ _ _ _ _ _ _ _ _ _).below HB6.out.size (λk e=>Nat.le_of_eq e.symm)))) (λhHeld=>?_);clear hK K;try simp only [Act.put,zz]
  refine wpAnyH_done (by kernel_rfl) ?_ _;go_wp2_with fail
  go_meet;exact ⟨_,m,.slice aol m.list.length capl,rfl,HB6.out.trans ((Zt7 _ _ _ _ _ _ _ _ _ _).below HB6.out.size (λk e=>Nat.le_of_eq e.symm)),Nat.le_refl _,S8.out _ _ _ _ _ _ _ _,(HL6.out.kept (λk _ _ hk hg=>(Zt7 _ _ _ _ _ _ _ _ _ _).block k hk.2 (λe=>Z0p hg HZ.out (by decide) e))).mono (λk hk=>⟨Nat.le_trans BY.out.size hk.1,Nat.lt_of_lt_of_le hk.2 (Zt7 _ _ _ _ _ _ _ _ _ _).size⟩),HLAW.out⟩
 case rest=>
 obtain ⟨mb,m,sl,rfl,hb7,hmb,hr7,hl7,hlaw⟩:=hcut;obtain ⟨w7,rfl⟩:∃w7:World,w7=wc:=⟨_,rfl⟩;obtain ⟨aol,capl,rfl,_⟩:=id hl7;have HLAW:=Hd hlaw;have HR7:=Hd hr7;have HBW:=Hd (HBO.out.trans ((HB2.out.trans (hb7.mono HB2.out.size)).mono HBO.out.size));have HB7:=Hd (HB2.out.trans (hb7.mono HB2.out.size));obtain ⟨A2,hA2⟩:∃A2:Nat->Prop,A2=λk=>A k∨New W w7 k:=⟨_,rfl⟩;have HA2:=Hd hA2;have HX7:=Hd (show Z0q base w1 nb gn nc cur xs st A2 w7 from by rw [hA2];exact HX.out.grow HBW.out);have HMB:=Hd (show A2 mb from by rw [hA2];exact .inr ⟨Nat.le_trans (Nat.le_trans HBO.out.size HB2.out.size) hmb,(gE hr7).1⟩);have HMW:=Hd (show wo.heap.size<=mb from Nat.le_trans HB2.out.size hmb);have HL7:=Hd (show Z0a A2 w7 (.slice aol m.list.length capl) m.list from hl7.mono (λk hk=>by rw [hA2];exact .inr ⟨Nat.le_trans (Nat.le_trans HBO.out.size HB2.out.size) hk.1,hk.2⟩));clear hb7 hmb hr7 hl7 hlaw hA2 MS;go_upto_region 3 with (fail)
 go_cut [] from 21 to 35 (λwc=>Z0q base w1 nb gn nc cur xs st A2 wc∧wc.heap[mb]?=some (.cells (Z0l {m with frm:=(N:Int) - 1 - (p:Int)} (.slice aol m.list.length capl)) 36 (0,0))∧Chg (λk=>k=mb) w7 wc)
 case first=>
  have SK:=Hd (show ∀W2,Chg (λk=>k=mb) w7 W2->W2.cell? ⟨nb,0,none⟩=some (.int .i64 (N:Int))∧W2.cell? ⟨nb,1,none⟩=some (.int .i64 (F:Int))∧W2.cell? ⟨ob,0,none⟩=some (.int .i64 o.kd) from λW2 hW=>by
   obtain ⟨a0,a1,_⟩:=NK.out w7 HB7.out;have r:w7.cell? ⟨ob,0,none⟩=some (.int .i64 o.kd):=by rw [cell_of_row w7 ob 0 _ _ _ (OK.out w7 HB7.out)];rfl
   have hnb:nb<wo.heap.size:=World.block_lt_of_cell? _ _ (NK.out wo (Below.refl _ _)).1;have:=HMW.out;have:=HOB.out;exact ⟨hW.cell a0 (λe=>by have e:nb=mb:=e;omega),hW.cell a1 (λe=>by have e:nb=mb:=e;omega),hW.cell r (λe=>by have e:ob=mb:=e;omega)⟩)
  obtain ⟨m0,m1,m2,m3,m4,m5,m6,m7,mf⟩:=Z1y.of HR7.out;clear m0 m2 m3 m4 m5 m6 m7;refine wp_region_held_drew (S:=λW2=>W2.cell? ⟨nb,0,none⟩=some (.int .i64 (N:Int))∧W2.cell? ⟨nb,1,none⟩=some (.int .i64 (F:Int))∧W2.cell? ⟨ob,0,none⟩=some (.int .i64 o.kd)) (by kernel_rfl) (SK.out _ (Chg.drew _ _)) (λhHeld=>?_);refine hyw (i:=0) hHeld ?_;try simp only [Act.put,zz]
  refine hyw (i:=1) hHeld ?_;try simp only [Act.put,zz]
  refine hyw (i:=2) hHeld ?_;try simp only [Act.put,zz]
  refine hyw (i:=3) hHeld ?_;try simp only [Act.put,zz]
  refine hyw (i:=4) hHeld ?_;try simp only [Act.put,zz]
  refine hyw (i:=5) hHeld ?_;try simp only [Act.put,zz]
  refine hyw (i:=6) hHeld ?_;try simp only [Act.put,zz]
  refine hyw (i:=7) hHeld ?_;try simp only [Act.put,zz]
  refine hyw (i:=8) hHeld ?_;try simp only [Act.put,zz]
  refine hyw (i:=9) hHeld ?_;try simp only [Act.put,zz]
  refine hyw (i:=10) hHeld ?_;try simp only [Act.put,zz]
  refine hyw (i:=11) hHeld ?_;try simp only [Act.put,zz]
  refine wpAnyH_ready (rs:=[12]) (by kernel_rfl) (by simp) ?_;refine AllReadyH.cons (o:=_) rfl (λK hK=>?_) AllReadyH.nil;go_simp;go_at_call 14
  (with_reducible refine (PP.out _).mono ?_)
  rintro e wq ⟨rfl,hwq⟩;rw [hwq];clear hwq wq;clear hHeld;go_wp2_with fail
  refine hK.out _ _ (SK.out _ (Chg.drew _ _)) (λhHeld=>?_);clear hK K;try simp only [Act.put,zz]
  refine hyw (i:=13) hHeld ?_;try simp only [Act.put,zz]
  refine hyw (i:=14) hHeld ?_;try simp only [Act.put,zz]
  refine wpAnyH_ready (rs:=[15]) (by kernel_rfl) (by simp) ?_;refine AllReadyH.cons (o:=_) rfl (λK hK=>?_) AllReadyH.nil;go_simp;clear hHeld;go_wp2_with fail
  refine hK.out _ _ (SK.out _ ((Chg.drew _ _).trans (Chg.set _ mb 1 _ (.inl rfl)))) (λhHeld=>?_);clear hK K;try simp only [Act.put,zz]
  refine wpAnyH_done (by kernel_rfl) ?_ _;go_wp2_with fail
  go_meet;have hr:w7.drew.heap[mb]?=some (.cells (Z0l m (.slice aol m.list.length capl)) 36 (0,0)):=HR7.out;exact ⟨(HX7.out.later (Below.refl _ w7).drew).set HMB.out hr (by decide) 1 _,Z05 hr _,(Chg.drew _ _).trans (Chg.set _ mb 1 _ (.inl rfl))⟩
 case rest=>
 obtain ⟨hx8,hr8,hc8⟩:=hcut;obtain ⟨w8,rfl⟩:∃w8:World,w8=wc:=⟨_,rfl⟩;have HX8:=Hd hx8;have HR8:=Hd hr8;have HL8:=Hd (show Z0a A2 w8 (.slice aol m.list.length capl) m.list from HL7.out.kept (w':=w8) (λk _ _ hk hg=>hc8.block k (HX7.out.lt hk) (λe=>Z0p hg HR7.out (by decide) e)));have NK8:=Hd (show ∀W2,Below w8.heap.size w8 W2->W2.cell? ⟨nb,2,none⟩=some (.slice (some ⟨gn,0,none⟩) H nc)∧W2.cell? ⟨gn,t,none⟩=some (.pointer (some ⟨x,0,none⟩)) from λW2 hW=>by
  have q:=HX8.out.later hW;obtain ⟨_,_,a2,_⟩:=q.cells;rw [HLN.out] at a2;exact ⟨a2,q.node HXS.out⟩)
 have HT8:=Hd (HX8.out.height HXS.out HSS.out);unfold pv at HT8;obtain ⟨a2,nx⟩:=NK8.out w8 (Below.refl _ _);obtain ⟨m0,m1,m2,m3,m4,m5,m6,m7,mf⟩:=Z1y.of (m:={m with frm:=(N:Int) - 1 - (p:Int)}) HR8.out;have HK8:=Hd (show Z0d A W (w8.setCell ⟨mb,3,none⟩ (.int .i64 s.height)) from by
  have hne:∀k,A k->k≠mb:=λk hk e=>by
   have h1:=HX.out.lt hk;have h2:=HMW.out;have h3:=HBO.out.size;omega
  refine (HX.out.keepB HBW.out).trans (B:=A) ⟨Nat.le_trans hc8.size (by simp [World.setCell]),λk hk=>?_⟩ (λ_ q=>q);rw [Below.heap_setCell _ ⟨mb,3,none⟩ _ k (hne k hk)];exact hc8.block k (Nat.lt_of_lt_of_le (HX.out.lt hk) HBW.out.size) (hne k hk))
 clear hx8 hr8 hc8 m0 m1 m2 m4 m5 m6 m7;have HX9:=Hd (HX8.out.set HMB.out HR8.out (by decide) 3 (.int .i64 s.height));have HR9:=Hd (show (w8.setCell ⟨mb,3,none⟩ (.int .i64 s.height)).heap[mb]?=some (.cells (Z0l {m with frm:=(N:Int) - 1 - (p:Int),height:=s.height} (.slice aol m.list.length capl)) 36 (0,0)) from Z05 HR8.out _);have HL9:=Hd (show Z0a A2 (w8.setCell ⟨mb,3,none⟩ (.int .i64 s.height)) (.slice aol m.list.length capl) m.list from HL8.out.kept (λk _ _ hk hg=>Below.heap_setCell _ ⟨mb,3,none⟩ _ k (λe=>Z0p hg HR8.out (by decide) e)));have NK9:=Hd (show ∀W2,Below (w8.setCell ⟨mb,3,none⟩ (.int .i64 s.height)).heap.size (w8.setCell ⟨mb,3,none⟩ (.int .i64 s.height)) W2->W2.cell? ⟨nb,2,none⟩=some (.slice (some ⟨gn,0,none⟩) H nc)∧W2.cell? ⟨gn,t,none⟩=some (.pointer (some ⟨x,0,none⟩)) from λW2 hW=>by
  have q:=HX9.out.later hW;obtain ⟨_,_,a2,_⟩:=q.cells;rw [HLN.out] at a2;exact ⟨a2,q.node HXS.out⟩)
 obtain ⟨w9,hw9⟩:∃w9,w9=w8.setCell ⟨mb,3,none⟩ (.int .i64 s.height):=⟨_,rfl⟩;have HW9:=Hd hw9;rw [<-hw9] at HX9 HR9 HL9 NK9 HK8;have HMM:=Hd (show LieM H N t s {m with frm:=(N:Int) - 1 - (p:Int),height:=s.height} from
  ⟨HLAW.out.tt,HFP.out.1,HFP.out.2,rfl,HLAW.out.kind,HLAW.out.r0,HLAW.out.r4,HLAW.out.prop,HLAW.out.vote⟩)
 have RV:=Hd (show ∀W2,Below w9.heap.size w9 W2->Calls Tryz.prog 20 #[.pointer (some ⟨x,0,none⟩),.agg #[.int .i64 m.kind,.int .i64 ((N:Int) - 1 - (p:Int)),.int .i64 m.to,.int .i64 s.height,.int .i64 m.round,.int .i64 m.valid,.string m.dig,.slice aol m.list.length capl]] W2 λe w'=>e = .returned (.tuple #[])∧Z0q base w1 nb gn nc cur xs (st.set t (s.receive {m with frm:=(N:Int) - 1 - (p:Int),height:=s.height} (Z04 {m with frm:=(N:Int) - 1 - (p:Int),height:=s.height}))) A2 w'∧Z0d A2 w9 w' from λW2 hW=>by
  have:=(HX9.out.later hW).recv HXS.out HSS.out (R0:=A2) (m:={m with frm:=(N:Int) - 1 - (p:Int),height:=s.height}) (v:=.agg (Z0l {m with frm:=(N:Int) - 1 - (p:Int),height:=s.height} (.slice aol m.list.length capl))) ⟨_,rfl,HL9.out.kept (λk _ _ hk _=>hW.block k (HX9.out.lt hk))⟩ (λk hk=>Nat.lt_of_lt_of_le (HX9.out.lt hk) hW.size) (by
    by_cases hk:m.kind=3
    ·obtain ⟨⟨j,hj,e,_⟩,_⟩:=HLAW.out.prop hk;show m.list.length<=60;rw [e];exact Z2x
    ·obtain ⟨_,e,_⟩:=HLAW.out.vote hk;show m.list.length<=60;rw [e];exact Nat.zero_le _) (λ_ hk=>by
    obtain ⟨⟨j,hj,e1,e2⟩,_⟩:=HLAW.out.prop hk;exact ⟨j,hj,e1,e2⟩)
  unfold Z0l iv pv at this;refine this.mono ?_;rintro e w' ⟨rfl,b1,b2⟩;exact ⟨rfl,b1,(HX9.out.keepB hW).trans b2 (λ_ q=>q)⟩)
 obtain ⟨hgt,hhg⟩:∃hgt,hgt=s.height:=⟨_,rfl⟩;have hg1:decide (hgt<1200)=true:=by rw [hhg];exact decide_eq_true HFT.out.ok.inv.num.h1
 have HHG:=Hd hhg;rw [<-hhg] at HT8 HR9 RV HW9;clear hw9 hhg HBO HBW HB7 OK NK PP;go_upto_region 5 with (go_at_call 24;(with_reducible refine HT8.out.mono ?_);rintro e wq ⟨rfl,hwq⟩;rw [hwq];clear hwq wq)
 rw [<-HW9.out];have SK:=Hd (show ∀W2:World,W2.heap[mb]?=some (.cells (Z0l {m with frm:=(N:Int) - 1 - (p:Int),height:=hgt} (.slice aol m.list.length capl)) 36 (0,0))->(W2.cell? ⟨nb,2,none⟩=some (.slice (some ⟨gn,0,none⟩) H nc)∧W2.cell? ⟨gn,t,none⟩=some (.pointer (some ⟨x,0,none⟩)))->W2.cell? ⟨nb,2,none⟩=some (.slice (some ⟨gn,0,none⟩) H nc)∧W2.cell? ⟨gn,t,none⟩=some (.pointer (some ⟨x,0,none⟩))∧W2.cell? ⟨mb,0,none⟩=some (.int .i64 m.kind)∧W2.cell? ⟨mb,1,none⟩=some (.int .i64 ((N:Int) - 1 - (p:Int)))∧W2.cell? ⟨mb,2,none⟩=some (.int .i64 m.to)∧W2.cell? ⟨mb,3,none⟩=some (.int .i64 hgt)∧W2.cell? ⟨mb,4,none⟩=some (.int .i64 m.round)∧W2.cell? ⟨mb,5,none⟩=some (.int .i64 m.valid)∧W2.cell? ⟨mb,6,none⟩=some (.string m.dig)∧W2.cell? ⟨mb,7,none⟩=some (.slice aol m.list.length capl) from λW2 hr hn=>by
  obtain ⟨m0,m1,m2,m3,m4,m5,m6,m7,mf9⟩:=Z1y.of (m:={m with frm:=(N:Int) - 1 - (p:Int),height:=hgt}) hr;exact ⟨hn.1,hn.2,m0,m1,m2,m3,m4,m5,m6,m7⟩)
 obtain ⟨m0,m1,m2,m3,m4,m5,m6,m7,mf9⟩:=Z1y.of (m:={m with frm:=(N:Int) - 1 - (p:Int),height:=hgt}) HR9.out;clear m0 m1 m2 m4 m5 m6 m7 a2 nx mf;have RV2:=Hd (show Calls Tryz.prog 20 #[.pointer (some ⟨x,0,none⟩),.agg #[.int .i64 m.kind,.int .i64 ((N:Int) - 1 - (p:Int)),.int .i64 m.to,.int .i64 hgt,.int .i64 m.round,.int .i64 m.valid,.string m.dig,.slice aol m.list.length capl]] w9.drew λe w'=>e = .returned (.tuple #[])∧(∃st',Zt6 H N st st'∧Z0q base w1 nb gn nc cur xs st' A w'∧Z0d A W w')∧(w'.cell? ⟨nb,2,none⟩=some (.slice (some ⟨gn,0,none⟩) H nc)∧w'.cell? ⟨gn,t,none⟩=some (.pointer (some ⟨x,0,none⟩))∧w'.cell? ⟨mb,0,none⟩=some (.int .i64 m.kind)∧w'.cell? ⟨mb,1,none⟩=some (.int .i64 ((N:Int) - 1 - (p:Int)))∧w'.cell? ⟨mb,2,none⟩=some (.int .i64 m.to)∧w'.cell? ⟨mb,3,none⟩=some (.int .i64 hgt)∧w'.cell? ⟨mb,4,none⟩=some (.int .i64 m.round)∧w'.cell? ⟨mb,5,none⟩=some (.int .i64 m.valid)∧w'.cell? ⟨mb,6,none⟩=some (.string m.dig)∧w'.cell? ⟨mb,7,none⟩=some (.slice aol m.list.length capl)) from (RV.out _ (Below.refl _ w9).drew).mono λe w' ⟨q1,q2,q3⟩=>by
  have hr:w'.heap[mb]?=some (.cells (Z0l {m with frm:=(N:Int) - 1 - (p:Int),height:=hgt} (.slice aol m.list.length capl)) 36 (0,0)):=(q3.2 mb HMB.out).trans HR9.out;have hA:∀k,A k->A2 k:=λk hk=>by rw [HA2.out];exact .inl hk
  have hk:Z0d A W w':=HK8.out.trans q3 hA;obtain ⟨_,_,a2,_⟩:=q2.cells;rw [HLN.out] at a2;exact ⟨q1,⟨_,⟨t,s,_,HSS.out,by rw [<-HHG.out] at HMM;exact HMM.out,rfl⟩,q2.less hA,hk⟩,SK.out _ hr ⟨a2,q2.node HXS.out⟩⟩)
 clear RV;go_upto_region 6 with (fail)
 refine wp_region_held_drew (S:=λW2=>W2.cell? ⟨nb,2,none⟩=some (.slice (some ⟨gn,0,none⟩) H nc)∧W2.cell? ⟨gn,t,none⟩=some (.pointer (some ⟨x,0,none⟩))∧W2.cell? ⟨mb,0,none⟩=some (.int .i64 m.kind)∧W2.cell? ⟨mb,1,none⟩=some (.int .i64 ((N:Int) - 1 - (p:Int)))∧W2.cell? ⟨mb,2,none⟩=some (.int .i64 m.to)∧W2.cell? ⟨mb,3,none⟩=some (.int .i64 hgt)∧W2.cell? ⟨mb,4,none⟩=some (.int .i64 m.round)∧W2.cell? ⟨mb,5,none⟩=some (.int .i64 m.valid)∧W2.cell? ⟨mb,6,none⟩=some (.string m.dig)∧W2.cell? ⟨mb,7,none⟩=some (.slice aol m.list.length capl)) (by kernel_rfl) (SK.out _ HR9.out (NK9.out _ (Below.refl _ w9).drew)) (λhHeld=>?_);refine hyw (i:=0) hHeld ?_;try simp only [Act.put,zz]
 refine hyw (i:=1) hHeld ?_;try simp only [Act.put,zz]
 refine hyw (i:=2) hHeld ?_;try simp only [Act.put,zz]
 refine hyw (i:=3) hHeld ?_;try simp only [Act.put,zz]
 refine hyw (i:=4) hHeld ?_;try simp only [Act.put,zz]
 refine hyw (i:=5) hHeld ?_;try simp only [Act.put,zz]
 refine hyw (i:=6) hHeld ?_;try simp only [Act.put,zz]
 refine hyw (i:=7) hHeld ?_;try simp only [Act.put,zz]
 refine wpAnyH_ready (rs:=[8]) (by kernel_rfl) (by simp) ?_;refine AllReadyH.cons (o:=_) rfl (λK hK=>?_) AllReadyH.nil;go_simp;go_at_call 20
 (with_reducible refine RV2.out.mono ?_)
 rintro e w10 ⟨rfl,hfin,hs10⟩;have HFIN:=Hd hfin;have HS10:=Hd hs10;clear hfin hs10;clear hHeld;go_wp2_with fail
 refine hK.out _ _ (HS10.out) (λhHeld=>?_);clear hK K;try simp only [Act.put,zz]
 refine wpAnyH_done (by kernel_rfl) ?_ _;go_wp2_with fail
 refine bodyPost_end (results_none rfl _ _ _) rfl ?_;exact ⟨rfl,HFIN.out⟩
end
end
section
open Go.RowKit
section
variable {D L:Type} [Dg D] [Inhabited L]
theorem Zd2 (s:NS D L) (m:Msg D L):(s.putVote m).ticks=s.ticks∧(s.putVote m).height=s.height:=by
 unfold NS.putVote;repeat' (first | exact ⟨rfl,rfl⟩ | split)
theorem Zn5 (s:NS D L) (m:Msg D L):(s.say m).ticks=s.ticks∧(s.say m).height=s.height:=by
 unfold NS.say;simp only;split
 ·exact ⟨rfl,rfl⟩
 exact Zd2 _ _
end
theorem Zbm:∀(ks:List (Int×ByteArray)) (u:StB),(ks.foldl (λs k=>s.say (vote 6 k.1 k.2)) u).ticks=u.ticks∧(ks.foldl (λs k=>s.say (vote 6 k.1 k.2)) u).height=u.height
 | [],u=>⟨rfl,rfl⟩
 | k :: ks,u=>by
  obtain ⟨a,b⟩:=Zbm ks (u.say (vote 6 k.1 k.2));obtain ⟨c,d⟩:=Zn5 u (vote 6 k.1 k.2:Z0k);rw [List.foldl_cons];exact ⟨a.trans c,b.trans d⟩
theorem Zab {x:StB} {T G:Int} (ht:x.ticks<=T) (hg:x.height<=G) (hT:0<=T) (height round locked:Int) (hh:height<=G) (l:List ByteArray) (ks:List (Int×ByteArray)):(Z12 x height round locked l ks).1.ticks<=T∧(Z12 x height round locked l ks).1.height<=G:=by
 unfold Z12 NS.resume;split
 ·exact ⟨ht,hg⟩
 split
 ·exact ⟨ht,hg⟩
 simp only;obtain ⟨a,b⟩:=Zbm ks (if 0<=locked then {x.moved height round with lock:=some ⟨locked,Z0z l,l⟩,valid:=some ⟨locked,Z0z l,l⟩,acc:=[Z0z l]} else x.moved height round);rw [a,b];split
 ·exact ⟨hT,hh⟩
 exact ⟨hT,hh⟩
theorem Zn6 {x:StB} {T G:Int} (ht:x.ticks<=T) (hg:x.height<=G) (hT:0<=T) (k:Int) (hk:k<=G) (ok:Bool) (d:ByteArray) (l:List ByteArray):(x.begin k ok d l).1.ticks<=T∧(x.begin k ok d l).1.height<=G:=by
 unfold NS.begin;split
 ·exact ⟨ht,hg⟩
 split
 ·exact ⟨ht,hg⟩
 split
 ·exact ⟨hT,hk⟩
 exact ⟨ht,hg⟩
theorem Zbn (old:StB) (i n:Int):∀m:Nat,(Z3e old (Z42 i n) m).ticks=0∧(Z3e old (Z42 i n) m).height=0
 | 0=>⟨rfl,rfl⟩
 | m+1=>by
  have ih:=Zbn old i n m;show (Z4e old _ _).ticks=0∧(Z4e old _ _).height=0;unfold Z4e;split
  ·unfold NS.learn;repeat' (first | exact ih | split)
  exact ih
section
variable {H F N K T G:Nat} {st:Z0g}
theorem Lim.set {s:StB} (h:Lim st K T G) (i:Nat) (ht:s.ticks<=(T:Int)) (hg:s.height<=(G:Int)):Lim (st.set i s) K T G:=
 ⟨h.cap.set i s,λt q=>by
  rcases List.mem_or_eq_of_mem_set (show t∈st.ss.set i s from q) with q | rfl
  ·exact h.tk t q
  ·exact ht,λt q=>by
  rcases List.mem_or_eq_of_mem_set (show t∈st.ss.set i s from q) with q | rfl
  ·exact h.ht t q
  exact hg,h.l0,h.l1⟩
theorem Lim.restart (h:Lim st K T G) (i:Nat) (hn:∀s∈st.ss,0<=s.height):Lim (st.restart i) K T (G+1):=by
 have h1:=h.mono (Nat.le_refl K) (Nat.le_refl T) (Nat.le_succ G);unfold Z0g.restart;rcases hs:st.ss[i]? with _ | old
 ·exact h1
 simp only;rcases hx:Z2s st.n i old with _ | x
 ·exact h1
 have ho:=h.ht old (List.mem_of_getElem? hs);have hp:=hn old (List.mem_of_getElem? hs);have ha:=Zbn old (i:Int) (st.n:Int) (old.height+1).toNat;have e:Z24 st.n i old=Z3e old (Z42 (i:Int) (st.n:Int)) (old.height+1).toNat:=rfl;rw [<-e] at ha;have hT:(0:Int)<=(T:Int):=by omega
 unfold Z2s at hx;split at hx
 ·cases hx;have:=Zab (T:=(T:Int)) (G:=((G+1:Nat):Int)) (by omega) (by omega) hT (old.height+1) 0 (-1) (by omega) [] [] (x:=Z24 st.n i old);exact h1.set i this.1 this.2
 split at hx
 ·cases hx;have:=Zab (T:=(T:Int)) (G:=((G+1:Nat):Int)) (by omega) (by omega) hT old.height (old.round+1) (Z1w old) (by omega) (Z20 old) old.keys (x:=Z24 st.n i old);have:=Zn6 this.1 this.2 hT old.height (by omega) (Z1f (Z40 i old.height)) (Z0z (Z40 i old.height)) (Z40 i old.height);exact h1.set i this.1 this.2
 cases hx
theorem Lim.lied {st':Z0g} (h:Lim st K T G) (l:Zt6 H N st st'):Lim st' K T G:=by
 obtain ⟨t,s,m,hs,_,rfl⟩:=l;have hm:=List.mem_of_getElem? hs;exact h.set t (by rw [Z7g];exact h.tk s hm) (by rw [(Z3r s m (Z04 m)).1];exact h.ht s hm)
theorem Lim.fates (h:Lim st K T G) (fs:List Int) (hl:fs.length<=100) (hf:∀f∈fs,0<=f∧f<=100):Lim {st with fates:=fs} K T G:=
 ⟨⟨h.cap.q,h.cap.cs,hl,hf,h.cap.n0,h.cap.n1⟩,h.tk,h.ht,h.l0,h.l1⟩
theorem Z2i.fates (g:Z2i H F N st) (fs:List Int):Z2i H F N {st with fates:=fs}:=by
 obtain ⟨V,E,a⟩:=g;exact ⟨V,E,⟨a.n,a.len,a.agr,a.node,a.q,a.cs,a.br⟩⟩
theorem Z2i.lied {st':Z0g} (g:Z2i H F N st) (l:Zt6 H N st st'):Z2i H F N st':=by
 obtain ⟨V,E,a⟩:=g;obtain ⟨t,s,m,hs,hm,rfl⟩:=l;exact ⟨V,E,a.lied (by rw [<-a.len];exact (List.getElem?_eq_some_iff.1 hs).1) hs hm.f0 (λ_ hk=>by
  obtain ⟨⟨j,hj,e1,e2⟩,_⟩:=hm.prop hk;rw [e1,e2];exact GB.fam hj)⟩
theorem Z2i.h0 (g:Z2i H F N st):∀s∈st.ss,0<=s.height:=by
 obtain ⟨V,E,a⟩:=g;exact λs hs=>(a.node s hs).fit.ok.inv.num.h0
end
end
end Go.Proofs.YtifcdjmcoibblaaGreatDoor
