/- Cod Fit Ans1 Clm RawI -/
import Derived.Test.YtifcdjmcoibblaaGreatDoorAq27
set_option linter.unusedVariables false
set_option linter.unusedSimpArgs false
set_option linter.unusedSectionVars false
set_option maxRecDepth 100000
set_option maxHeartbeats 80000000
namespace Go.Proofs.YtifcdjmcoibblaaGreatDoor
section
open Go.RowKit
def Zrp (j:Nat):List (List Nat):=if j=0 then [idL 1] else if j=1 then [idL 1,idL 2] else if j=2 then [idL 3] else if j=3 then [idL 9] else if j=4 then [idL 2] else if j=5 then [idL 4] else if j=6 then [idL 5] else if j=7 then [idL 6] else if j=8 then [idL 7] else []
def fam (j:Nat):List ByteArray:=(Zrp j).map Z64
def Z6f (j:Nat):Nat:=[83,184,209,72,70,31,1,17,248,110].getD j 0
theorem Zlr:((List.range 10).all λj=>(Zg0 (Zsu (Zrp j))).head? == some (Z6f j))=true:=by decide +kernel
theorem Zqr:((List.range 10).all λj=>Z1f (fam j))=true:=by decide +kernel
theorem Zqs:((List.range 10).all λj=>Z0b (Zd5 (fam j)) == Zsu (Zrp j))=true:=by decide +kernel
theorem Z3z {j:Nat} (h:j<10):Z1f (fam j)=true:=List.all_eq_true.1 Zqr j (List.mem_range.2 h)
theorem Zqt {j:Nat} (h:j<10):Z0z (fam j)=Z64 (Zg0 (Zsu (Zrp j))):=by
 rw [Z5o (Z3z h)];unfold Zo8;have:=List.all_eq_true.1 Zqs j (List.mem_range.2 h);rw [eq_of_beq this]
theorem Zcl {j:Nat} (h:j<10):∃t,(Z0z (fam j)).toList=UInt8.ofNat (Z6f j) :: t:=by
 have:=List.all_eq_true.1 Zlr j (List.mem_range.2 h);have hh:=eq_of_beq this;rw [Zqt h];rcases e:Zg0 (Zsu (Zrp j)) with _ | ⟨a,t⟩
 ·rw [e] at hh;cases hh
 rw [e] at hh;injection hh with hh
 exact ⟨t.map UInt8.ofNat,by rw [hh];simp [Z64]⟩
theorem Zoi:((List.range 10).all λi=>(List.range 10).all λj=>i == j || Z6f i != Z6f j)=true:=by decide
theorem Zqu:((List.range 10).all λj=>decide (Z6f j<256))=true:=by decide
theorem Z8m {j:Nat} (h:j<10):Z6f j<256:=of_decide_eq_true (List.all_eq_true.1 Zqu j (List.mem_range.2 h))
theorem Zls {i j:Nat} (hi:i<10) (hj:j<10) (e:Z6f i=Z6f j):i=j:=by
 have h:=List.all_eq_true.1 (List.all_eq_true.1 Zoi i (List.mem_range.2 hi)) j (List.mem_range.2 hj);rw [Bool.or_eq_true] at h;rcases h with h | h
 ·exact eq_of_beq h
 rw [e] at h;simp at h
theorem Zsb {a b:Nat} (ha:a<256) (hb:b<256):(UInt8.ofNat a<UInt8.ofNat b)↔a<b:=by
 rw [UInt8.lt_iff_toNat_lt,UInt8.toNat_ofNat',UInt8.toNat_ofNat'];omega
theorem Zsc {a b:Nat} (ha:a<256) (hb:b<256) (e:UInt8.ofNat a=UInt8.ofNat b):a=b:=by
 have:=congrArg UInt8.toNat e;rw [UInt8.toNat_ofNat',UInt8.toNat_ofNat'] at this;omega
theorem Z9m {i j:Nat} (hi:i<10) (hj:j<10) (e:Z0z (fam i)=Z0z (fam j)):i=j:=by
 obtain ⟨a,ha⟩:=Zcl hi;obtain ⟨b,hb⟩:=Zcl hj;rw [e,hb] at ha;injection ha with h1 _
 exact Zls hi hj (Zsc (Z8m hi) (Z8m hj) h1.symm)
theorem Zoj {a b:ByteArray} {x y:Nat} {s t:List UInt8} (ha:a.toList=UInt8.ofNat x :: s) (hb:b.toList=UInt8.ofNat y :: t) (hx:x<256) (hy:y<256) (hne:x≠y):Op.bytesLess a.toList b.toList=decide (x<y):=by
 rw [ha,hb];unfold Op.bytesLess;have h1:¬UInt8.ofNat x=UInt8.ofNat y:=λe=>hne (Zsc hx hy e);by_cases h:x<y
 ·simp [(Zsb hx hy).2 h,h]
 have:¬UInt8.ofNat x<UInt8.ofNat y:=λq=>h ((Zsb hx hy).1 q);simp [this,h,h1]
theorem Z57:∀l:List UInt8,Op.bytesLess l l=false
 | []=>rfl
 | a :: l=>by unfold Op.bytesLess;simp [Z57 l]
theorem Zlt:∀l:List UInt8,Op.bytesLess l []=false
 | []=>rfl
 | a :: l=>rfl
theorem Z2x {j:Nat}:(fam j).length<=60:=by
 unfold fam Zrp;rw [List.length_map];repeat' split
 all_goals decide
theorem Zok {i j:Nat} (hi:i<10) (hj:j<10) (e:fam i=fam j):i=j:=Z9m hi hj (by rw [e])
def GA (d:ByteArray) (l:List ByteArray):Prop:=∃j,j<10∧l=fam j∧d=Z0z (fam j)
structure Zhz (G:ByteArray->List ByteArray->Prop):Prop where
 law:Zin G
 val:∀d l,G d l->Z1f l=true∧d=Z0z l
theorem Z9n (l:List ByteArray):(Z0z l).size=32:=by unfold Z0z;rw [Z49,Zl6]
theorem Zhz.sz {G:ByteArray->List ByteArray->Prop} (gf:Zhz G) (d:ByteArray) (l:List ByteArray) (h:G d l):szB d:=.inr (by rw [(gf.val d l h).2];exact Z9n l)
theorem GA.law:Zin GA:=⟨λd l l' ⟨i,hi,e1,e2⟩ ⟨j,hj,e3,e4⟩=>by
 have:=Z9m hi hj (e2.symm.trans e4);rw [e1,e3,this],λd l ⟨i,hi,e1,_⟩=>by rw [e1];exact Z2x⟩
theorem GA.gf:Zhz GA:=⟨GA.law,λd l ⟨i,hi,e1,e2⟩=>by rw [e1,e2];exact ⟨Z3z hi,rfl⟩⟩
theorem GA.fam {j:Nat} (h:j<10):GA (Z0z (fam j)) (fam j):=⟨j,h,rfl,rfl⟩
theorem Z4l {j:Nat} (h:j<4):Zqp j=Go.Proofs.YtifcdjmcoibblaaGreatDoor.fam j:=by
 rcases j with _ | _ | _ | _ | j
 ·rfl
 ·rfl
 ·rfl
 ·rfl
 omega
def Z3i (tab:List Nat) {z:Nat} (c:QZ z):ByteArray:=if c.val=0 then ByteArray.mk #[] else Z0z (fam (tab.getD (c.val - 1) 0))
def Z83 (tab:List Nat) {z:Nat} (c:QZ z):List ByteArray:=if c.val=0 then [] else fam (tab.getD (c.val - 1) 0)
def Zsd (tab:List Nat):Bool:=(tab.all λj=>decide (j<10)) && (List.range tab.length).all λi=>(List.range tab.length).all λj=>decide (Z6f (tab.getD i 0)<Z6f (tab.getD j 0)) == decide (i<j)
theorem Zol {tab:List Nat} {z:Nat} (h:Zsd tab=true) (hz:tab.length=z):Ren (Z3i tab:QZ z->ByteArray) (Z83 tab:QZ z->List ByteArray):=by
 unfold Zsd at h;rw [Bool.and_eq_true] at h;obtain ⟨h1,h2⟩:=h;have hj:∀i,i<z->tab.getD i 0<10:=λi hi=>by
  have:=List.all_eq_true.1 h1 (tab.getD i 0) (by rw [List.getD_eq_getElem?_getD,List.getElem?_eq_getElem (by omega)];exact List.getElem_mem _);exact of_decide_eq_true this
 have hlt:∀i j,i<z->j<z->decide (Z6f (tab.getD i 0)<Z6f (tab.getD j 0))=decide (i<j):=λi j hi hj=>eq_of_beq (List.all_eq_true.1 (List.all_eq_true.1 h2 i (List.mem_range.2 (by omega))) j (List.mem_range.2 (by omega)));have hne:∀i j,i<z->j<z->i≠j->Z6f (tab.getD i 0)≠Z6f (tab.getD j 0):=λi j hi hj hij e=>by
  have a:=hlt i j hi hj;have b:=hlt j i hj hi;rw [e] at a b;simp at a b;omega
 have h0:∀c:QZ z,c.val≠0->c.val - 1<z:=λc hc=>by have:=c.isLt;omega
 have nn:∀c:QZ z,c.val≠0->∃t,(Z3i tab c).toList=UInt8.ofNat (Z6f (tab.getD (c.val - 1) 0)) :: t:=λc hc=>by
  unfold Z3i;rw [if_neg hc];exact Zcl (hj _ (h0 c hc))
 have lt:∀a b:QZ z,Op.bytesLess (Z3i tab a).toList (Z3i tab b).toList=decide (a.val<b.val):=λa b=>by
  by_cases ha:a.val=0
  ·by_cases hb:b.val=0
   ·have:Z3i tab b=Z3i tab a:=by unfold Z3i;rw [if_pos ha,if_pos hb]
    rw [this,Z57,ha,hb];rfl
   obtain ⟨t,ht⟩:=nn b hb;have:Z3i tab a=ByteArray.mk #[]:=by unfold Z3i;rw [if_pos ha]
   rw [this,ht,ha,show (ByteArray.mk #[]).toList = [] from by simp];have:(0<b.val):=by omega
   simp [Op.bytesLess,this]
  by_cases hb:b.val=0
  ·have:Z3i tab b=ByteArray.mk #[]:=by unfold Z3i;rw [if_pos hb]
   rw [this,show (ByteArray.mk #[]).toList = [] from by simp,Zlt,hb];rfl
  by_cases hab:a.val=b.val
  ·have:a=b:=Fin.ext hab;rw [this,Z57];simp
  obtain ⟨s,hs⟩:=nn a ha;obtain ⟨t,ht⟩:=nn b hb;have ia:=h0 a ha;have ib:=h0 b hb;rw [Zoj hs ht (Z8m (hj _ ia)) (Z8m (hj _ ib)) (hne _ _ ia ib (by omega)),hlt _ _ ia ib];rw [Bool.eq_iff_iff];simp;omega
 refine ⟨λa b e=>?_,rfl,λa b=>lt a b,rfl⟩;have a1:=lt a b;have a2:=lt b a;rw [e,Z57] at a1;rw [e,Z57] at a2;have b1:=of_decide_eq_false a1.symm;have b2:=of_decide_eq_false a2.symm;exact Fin.ext (by omega)
def Zd6:List Nat:=[3,0,9,1,2]
theorem Zsz:Ren (Z3i Zd6:QZ 5->ByteArray) (Z83 Zd6:QZ 5->List ByteArray):=Zol (by decide) rfl
end
section
open Go.RowKit
theorem Z8a {m:Z0k} (h:Z04 m=true) (hk:m.kind=3∨m.kind=4∨m.kind=6∨m.kind=5):OkM szB m∧InM m:=by
 unfold Z04 at h;rw [Bool.and_eq_true] at h;obtain ⟨hs,h⟩:=h;unfold Z2k Z6e at hs;simp at hs;obtain ⟨⟨⟨a1,a2⟩,⟨a3,a4⟩⟩,a5⟩:=hs;rw [if_neg (by omega),if_neg (by omega)] at h;by_cases h3:m.kind=3
 ·rw [if_pos h3] at h;unfold Z55 Z1d at h;simp at h;obtain ⟨⟨⟨⟨⟨⟨⟨b1,b2⟩,b3⟩,b4⟩,b5⟩,b6⟩,b7⟩,b8⟩:=h;have hd:m.dig=Zo8 m.list:=toList_inj b8;refine ⟨⟨a1,b3,by omega,b6,by omega,.inr ?_⟩,⟨a1,a5,b1,b2,b3,by omega⟩⟩;rw [hd];unfold Zo8;rw [Z49,Zl6]
 rw [if_neg h3] at h;unfold Z3o Z1d at h;simp at h;obtain ⟨_,⟨⟨⟨⟨⟨b1,b2⟩,b3⟩,b4⟩,b5⟩,b6⟩,b7⟩:=h;refine ⟨⟨a1,b3,by omega,by omega,by omega,?_⟩,⟨a1,a5,b1,b2,b3,by omega⟩⟩;rcases b7 with q | q
 ·exact .inl (by simpa using q)
 exact .inr q
section
variable {G:ByteArray->List ByteArray->Prop} {s:StB}
theorem Fit.new {id n:Int} (h0:0<=id) (h1:id<n) (h7:n<=7):Fit G (Z42 id n):=⟨⟨Zq3 Z7s h0 h1 h7,Zt9 _ _ _ _⟩,Zs8 _ _⟩
theorem Fit.begin (gf:Zhz G) (h:Fit G s) (k:Int) {ok:Bool} {d:ByteArray} {l:List ByteArray} (hd:ok=true->G d l):Fit G (s.begin k ok d l).1:=
 ⟨⟨Zkc h.ok.inv k ok l (λq=>gf.sz _ _ (hd q)),Zq5 h.ok.gi k ok hd⟩,Zod h.qi k ok d l⟩
theorem Fit.accept (h:Fit G s) (d:ByteArray):Fit G (s.accept d):=⟨⟨Zih h.ok.inv d,Znj h.ok.gi d⟩,Zlo h.qi d⟩
theorem Fit.learn (h:Fit G s) (k:Int) {ok:Bool} {d:ByteArray} {l:List ByteArray} (hd:ok=true->G d l):Fit G (s.learn k ok d l).1:=
 ⟨⟨Zkd h.ok.inv k ok d l,Zq6 h.ok.gi k ok hd⟩,Zoe h.qi k ok d l⟩
theorem Fit.tick (h:Fit G s):Fit G s.tick.1:=⟨⟨Zh9 h.ok.inv,Zkf h.ok.inv h.ok.gi⟩,Zqn h.ok.inv⟩
theorem Fit.receive (h:Fit G s) {m:Z0k} (hm:Z04 m=true->m.kind=3->G m.dig m.list):Fit G (s.receive m (Z04 m)):=
 ⟨⟨Zfn h.ok.inv (λhv hk=>(Z8a hv hk).1),Zkh h.ok.gi hm⟩,Zj8 h.qi h.ok.inv.num.n7 (λhv hk=>(Z8a hv hk).2)⟩
theorem Fit.out (gf:Zhz G) (h:Fit G s):∀m∈s.tick.2,Zro szB G s.id s.n m:=Zof gf.sz h.ok.inv h.ok.gi h.qi
theorem Zlu (gf:Zhz G) {me n:Int} {m:Z0k} (h:Zro szB G me n m) (h0:0<=me) (h1:me<n) (h7:n<=7):Z04 m=true∧m.list.length<=60∧(m.kind=3->G m.dig m.list):=by
 have hf:=h.frm;have t0:=h.t0;have t1:=h.t1;have tm:=h.tm;have b0:=h.h0;have b1:=h.h1;have b2:=h.r0;have b3:=h.r1;have hs:Z2k m=true:=by
  unfold Z2k Z6e;simp;omega
 have hp:Z1d m=true:=by
  unfold Z1d;simp;omega
 unfold Z04;rw [hs];by_cases h3:m.kind=3
 ·obtain ⟨hg,hv1,hv2⟩:=h.prop h3;obtain ⟨ea,e2⟩:=gf.val _ _ hg;rw [if_neg (by omega),if_neg (by omega),if_pos h3];refine ⟨?_,gf.law.len _ _ hg,λ_=>hg⟩;unfold Z55;rw [hp,ea,e2,Z5o ea];simp;omega
 obtain ⟨hv,hl,hz⟩:=h.vote h3;have hl:m.list = []:=hl;rw [if_neg (by rcases h.kind with q | q | q | q <;> omega),if_neg (by rcases h.kind with q | q | q | q <;> omega),if_neg h3];refine ⟨?_,by rw [hl];exact Nat.zero_le _,λq=>absurd q h3⟩;unfold Z3o Z7a;rw [hp,hv,hl];have hk:(m.kind == 4 || m.kind == 5 || m.kind == 6)=true:=by
  rcases h.kind with q | q | q | q
  ·exact absurd q h3
  ·rw [q];rfl
  ·rw [q];rfl
  rw [q];rfl
 rw [hk];unfold szB at hz;simpa using hz
end
end
section
open Go.RowKit
theorem Zrq {w:World} {g:Nat} {t:TypeId} {a0 a1 a2 a3 a4 a5 a6 a7:Value} (h0:w.heap[g]?=some (.cells #[a0,a1,a2,a3,a4,a5,a6,a7] t (0,0))) (b0 b1 b2 b3 b4 b5 b6 b7:Value):((((((((w.setCell ⟨g,0,none⟩ b0).setCell ⟨g,1,none⟩ b1).setCell ⟨g,2,none⟩ b2).setCell ⟨g,3,none⟩ b3).setCell ⟨g,4,none⟩ b4).setCell ⟨g,5,none⟩ b5).setCell ⟨g,6,none⟩ b6).setCell ⟨g,7,none⟩ b7).heap[g]?=some (.cells #[b0,b1,b2,b3,b4,b5,b6,b7] t (0,0)):=by
 have h1:(w.setCell ⟨g,0,none⟩ b0).heap[g]?=some (.cells #[b0,a1,a2,a3,a4,a5,a6,a7] t (0,0)):=Z05 h0 b0;have h2:((w.setCell ⟨g,0,none⟩ b0).setCell ⟨g,1,none⟩ b1).heap[g]?=some (.cells #[b0,b1,a2,a3,a4,a5,a6,a7] t (0,0)):=Z05 h1 b1;have h3:(((w.setCell ⟨g,0,none⟩ b0).setCell ⟨g,1,none⟩ b1).setCell ⟨g,2,none⟩ b2).heap[g]?=some (.cells #[b0,b1,b2,a3,a4,a5,a6,a7] t (0,0)):=Z05 h2 b2;have h4:((((w.setCell ⟨g,0,none⟩ b0).setCell ⟨g,1,none⟩ b1).setCell ⟨g,2,none⟩ b2).setCell ⟨g,3,none⟩ b3).heap[g]?=some (.cells #[b0,b1,b2,b3,a4,a5,a6,a7] t (0,0)):=Z05 h3 b3;have h5:(((((w.setCell ⟨g,0,none⟩ b0).setCell ⟨g,1,none⟩ b1).setCell ⟨g,2,none⟩ b2).setCell ⟨g,3,none⟩ b3).setCell ⟨g,4,none⟩ b4).heap[g]?=some (.cells #[b0,b1,b2,b3,b4,a5,a6,a7] t (0,0)):=Z05 h4 b4;have h6:((((((w.setCell ⟨g,0,none⟩ b0).setCell ⟨g,1,none⟩ b1).setCell ⟨g,2,none⟩ b2).setCell ⟨g,3,none⟩ b3).setCell ⟨g,4,none⟩ b4).setCell ⟨g,5,none⟩ b5).heap[g]?=some (.cells #[b0,b1,b2,b3,b4,b5,a6,a7] t (0,0)):=Z05 h5 b5;have h7:(((((((w.setCell ⟨g,0,none⟩ b0).setCell ⟨g,1,none⟩ b1).setCell ⟨g,2,none⟩ b2).setCell ⟨g,3,none⟩ b3).setCell ⟨g,4,none⟩ b4).setCell ⟨g,5,none⟩ b5).setCell ⟨g,6,none⟩ b6).heap[g]?=some (.cells #[b0,b1,b2,b3,b4,b5,b6,a7] t (0,0)):=Z05 h6 b6;have h8:((((((((w.setCell ⟨g,0,none⟩ b0).setCell ⟨g,1,none⟩ b1).setCell ⟨g,2,none⟩ b2).setCell ⟨g,3,none⟩ b3).setCell ⟨g,4,none⟩ b4).setCell ⟨g,5,none⟩ b5).setCell ⟨g,6,none⟩ b6).setCell ⟨g,7,none⟩ b7).heap[g]?=some (.cells #[b0,b1,b2,b3,b4,b5,b6,b7] t (0,0)):=Z05 h7 b7;exact h8
theorem Zqv (w:World) (k:Nat):w.drew.heap[k]?=w.heap[k]?:=rfl
theorem Zej {B:Nat} {a w:World} (h:Below B a w) {g:Nat} (hg:B<=g) (b0 b1 b2 b3 b4 b5 b6 b7:Value):Below B a ((((((((w.setCell ⟨g,0,none⟩ b0).setCell ⟨g,1,none⟩ b1).setCell ⟨g,2,none⟩ b2).setCell ⟨g,3,none⟩ b3).setCell ⟨g,4,none⟩ b4).setCell ⟨g,5,none⟩ b5).setCell ⟨g,6,none⟩ b6).setCell ⟨g,7,none⟩ b7):=
 (((((((h.setCell hg b0).setCell hg b1).setCell hg b2).setCell hg b3).setCell hg b4).setCell hg b5).setCell hg b6).setCell hg b7
section
variable {R:Nat->Prop} {w:World} {x:Nat} {p:Ptr} {s:StB}
theorem Zi0 (h:Z00 R w x p s) (xb sb qb vb:Nat) (site qh qr vr kind round:Int) (d:ByteArray) (sl:Value)
  (hx:w.heap[xb]?=some (.cells #[pv x] 25 (0,0))) (hs:w.heap[sb]?=some (.cells #[.int .i64 site] 3 (0,0)))
  (hq:w.heap[qb]?=some (.cells #[.int .i64 qh,.int .i64 qr] 165 (0,0))) (hv:w.heap[vb]?=some (.cells #[.int .i64 vr,.string d,sl] 120 (0,0))) :
  Calls Tryz.prog 111 #[iv kind,iv round,pv xb,pv sb,pv qb,pv vb] w λe w'=>e = .returned (.agg (Z0l ⟨kind,s.id,site,qh,round,0,d,[]⟩ (.slice none 0 0)))∧Below w.heap.size w w':=by
 have H:=Hd h;have b0:=cell_of_row w xb 0 _ _ _ hx;have b1:=cell_of_row w sb 0 _ _ _ hs;have b2:=cell_of_row w qb 0 _ _ _ hq;have b3:=cell_of_row w vb 1 _ _ _ hv;simp [pv] at b0 b1 b2 b3;have c16:=h.nc.c16;have HB:=Hd ((Below.refl _ w).alloc (Nat.le_refl _) (.cells #[.int .i64 0,.int .i64 0,.int .i64 0,.int .i64 0,.int .i64 0,.int .i64 0,.string (ByteArray.mk #[]),.slice none 0 0] 36));clear h hx hs hq hv;unfold pv iv Z0l;go_enter Tryz.func111,Tryz.ntmps111
 go_upto_region 1 with (fail)
 have hr0:=World.alloc_heap_new w (.cells #[.int .i64 0,.int .i64 0,.int .i64 0,.int .i64 0,.int .i64 0,.int .i64 0,.string (ByteArray.mk #[]),.slice none 0 0] 36);have HNA:=H.out.below HB.out;have b0:=Z0h b0 (.cells #[.int .i64 0,.int .i64 0,.int .i64 0,.int .i64 0,.int .i64 0,.int .i64 0,.string (ByteArray.mk #[]),.slice none 0 0] 36);have b1:=Z0h b1 (.cells #[.int .i64 0,.int .i64 0,.int .i64 0,.int .i64 0,.int .i64 0,.int .i64 0,.string (ByteArray.mk #[]),.slice none 0 0] 36);have b2:=Z0h b2 (.cells #[.int .i64 0,.int .i64 0,.int .i64 0,.int .i64 0,.int .i64 0,.int .i64 0,.string (ByteArray.mk #[]),.slice none 0 0] 36);have b3:=Z0h b3 (.cells #[.int .i64 0,.int .i64 0,.int .i64 0,.int .i64 0,.int .i64 0,.int .i64 0,.string (ByteArray.mk #[]),.slice none 0 0] 36);obtain ⟨wa,hwa⟩:∃wa,wa=w.alloc (.cells #[.int .i64 0,.int .i64 0,.int .i64 0,.int .i64 0,.int .i64 0,.int .i64 0,.string (ByteArray.mk #[]),.slice none 0 0] 36):=⟨_,rfl⟩;rw [<-hwa] at HB hr0 HNA b0 b1 b2 b3 ⊢;obtain ⟨rb,hrb⟩:∃rb,rb=w.heap.size:=⟨_,rfl⟩;have HRB:=Hd hrb;rw [<-hrb] at hr0 ⊢;have x16:=HNA.nc.c16;have e0:=cell_of_row wa rb 0 _ _ _ hr0;have e1:=cell_of_row wa rb 1 _ _ _ hr0;have e2:=cell_of_row wa rb 2 _ _ _ hr0;have e3:=cell_of_row wa rb 3 _ _ _ hr0;have e4:=cell_of_row wa rb 4 _ _ _ hr0;have e5:=cell_of_row wa rb 5 _ _ _ hr0;have e6:=cell_of_row wa rb 6 _ _ _ hr0;have e7:=cell_of_row wa rb 7 _ _ _ hr0;have ef:=λo=>frozen_of_row wa rb o _ _ hr0;simp at e0 e1 e2 e3 e4 e5 e6 e7;have HR0:=Hd hr0;clear hwa hrb hr0 HNA c16;go_region
 all_goals (
  go_wp2
  have hrow:=Zrq HR0.out (.int .i64 kind) (.int .i64 s.id) (.int .i64 site) (.int .i64 qh) (.int .i64 round) (.int .i64 0) (.string d) (.slice none 0 0);have hbel:=(Zej HB.out (show w.heap.size<=rb by rw [HRB.out];exact Nat.le_refl _) (.int .i64 kind) (.int .i64 s.id) (.int .i64 site) (.int .i64 qh) (.int .i64 round) (.int .i64 0) (.string d) (.slice none 0 0)).drew;obtain ⟨wf,hwf⟩:∃wf,wf=((((((((wa.setCell ⟨rb,0,none⟩ (.int .i64 kind)).setCell ⟨rb,1,none⟩ (.int .i64 s.id)).setCell ⟨rb,2,none⟩ (.int .i64 site)).setCell ⟨rb,3,none⟩ (.int .i64 qh)).setCell ⟨rb,4,none⟩ (.int .i64 round)).setCell ⟨rb,5,none⟩ (.int .i64 0)).setCell ⟨rb,6,none⟩ (.string d)).setCell ⟨rb,7,none⟩ (.slice none 0 0)).drew:=⟨_,rfl⟩;have hrow2:wf.heap[rb]?=some (.cells #[.int .i64 kind,.int .i64 s.id,.int .i64 site,.int .i64 qh,.int .i64 round,.int .i64 0,.string d,.slice none 0 0] 36 (0,0)):=by rw [hwf,Zqv];exact hrow
  rw [<-hwf] at hbel ⊢;exact bodyPost_ret (results_cell_row rfl _ _ rb _ _ _ _ rfl hrow2 Tryz.underlying36 rfl (by kernel_rfl)) rfl ⟨rfl,hbel⟩)
end
end
section
open Go.RowKit
theorem Zt0 {w:World} {g k:Nat} (b0 b1 b2 b3 b4 b5 b6 b7:Value) (h:k≠g):((((((((w.setCell ⟨g,0,none⟩ b0).setCell ⟨g,1,none⟩ b1).setCell ⟨g,2,none⟩ b2).setCell ⟨g,3,none⟩ b3).setCell ⟨g,4,none⟩ b4).setCell ⟨g,5,none⟩ b5).setCell ⟨g,6,none⟩ b6).setCell ⟨g,7,none⟩ b7).heap[k]?=w.heap[k]?:=by
 rw [Below.heap_setCell _ ⟨g,7,none⟩ _ k h,Below.heap_setCell _ ⟨g,6,none⟩ _ k h,Below.heap_setCell _ ⟨g,5,none⟩ _ k h,Below.heap_setCell _ ⟨g,4,none⟩ _ k h,Below.heap_setCell _ ⟨g,3,none⟩ _ k h,Below.heap_setCell _ ⟨g,2,none⟩ _ k h,Below.heap_setCell _ ⟨g,1,none⟩ _ k h,Below.heap_setCell _ ⟨g,0,none⟩ _ k h]
section
variable {R R0 R1:Nat->Prop} {w:World} {x:Nat} {p:Ptr} {s:StB}
theorem Zlv {v lv:Value} {m:Z0k} {l:List ByteArray} (h:Z00 R w x p s) (hm:Z8d R0 w v m) (hlr:Z0a R1 w lv l) (h1:∀k,R1 k->k<w.heap.size) (hl:l.length<=1000) (hn:1<=s.n) (hh:0<=m.height∧m.height<=1000000) (hr:0<=m.round∧m.round<=1000000) :
  Calls Tryz.prog 112 #[pv x,v,lv] w λe w'=>∃u,e = .returned (.agg (Z0l ⟨m.kind,m.frm,m.to,m.height,s.claimRound m.height m.round,-1,m.dig,l⟩ u))∧Z0a (New w w') w' u l∧Below w.heap.size w w':=by
 obtain ⟨sl,rfl,ao,cap,rfl,hcap,hrow⟩:=hm;have H:=Hd h;have CL:=Hd (λW (hW:Below w.heap.size w W)=>Z3a (hlr.below h1 hW) hl);have IP:=Hd (λW (hW:Below w.heap.size w W)=>Z2p (h.below hW) s.id m.height m.round hn hh hr);have HLen:=Hd hl;obtain ⟨hr0,hr1⟩:=hr;clear hcap hrow h hlr hl h1;unfold Z0l iv pv at *;go_enter Tryz.func112,Tryz.ntmps112
 go_upto_region 1 with (fail)
 obtain ⟨wa,hwa⟩:∃wa,wa=((w.alloc (.cells #[.int .i64 m.kind,.int .i64 m.frm,.int .i64 m.to,.int .i64 m.height,.int .i64 m.round,.int .i64 m.valid,.string m.dig,.slice ao m.list.length cap] 36)).alloc (.cells #[.int .i64 0,.int .i64 0,.int .i64 0,.int .i64 0,.int .i64 0,.int .i64 0,.string (ByteArray.mk #[]),.slice none 0 0] 36)):=⟨_,rfl⟩;have HBA:=Hd (show Below w.heap.size w wa from by rw [hwa];exact ((Below.refl _ _).alloc (Nat.le_refl _) _).alloc (by simp) _);have HMR:=Hd (show wa.heap[w.heap.size]?=some (.cells #[.int .i64 m.kind,.int .i64 m.frm,.int .i64 m.to,.int .i64 m.height,.int .i64 m.round,.int .i64 m.valid,.string m.dig,.slice ao m.list.length cap] 36 (0,0)) from by rw [hwa,Below.heap_alloc _ _ _ (by simp)];exact World.alloc_heap_new w _);have HRR:=Hd (show wa.heap[w.heap.size+1]?=some (.cells #[.int .i64 0,.int .i64 0,.int .i64 0,.int .i64 0,.int .i64 0,.int .i64 0,.string (ByteArray.mk #[]),.slice none 0 0] 36 (0,0)) from by
  rw [hwa];have:=World.alloc_heap_new (w.alloc (.cells #[.int .i64 m.kind,.int .i64 m.frm,.int .i64 m.to,.int .i64 m.height,.int .i64 m.round,.int .i64 m.valid,.string m.dig,.slice ao m.list.length cap] 36)) (.cells #[.int .i64 0,.int .i64 0,.int .i64 0,.int .i64 0,.int .i64 0,.int .i64 0,.string (ByteArray.mk #[]),.slice none 0 0] 36);rwa [World.size_alloc] at this)
 rw [<-hwa];clear hwa;obtain ⟨rb,hrb⟩:∃rb,rb=w.heap.size+1:=⟨_,rfl⟩;have HRBB:=Hd hrb;rw [<-hrb] at HRR ⊢;clear hrb;obtain ⟨mb,hmb⟩:∃mb,mb=w.heap.size:=⟨_,rfl⟩;have HMB:=Hd hmb;rw [<-hmb] at HMR ⊢;clear hmb;go_cut [] (λwc=>∃ao2 cap2,wc.heap[mb]?=some (.cells #[.int .i64 m.kind,.int .i64 m.frm,.int .i64 m.to,.int .i64 m.height,.int .i64 m.round,.int .i64 (-1),.string m.dig,.slice ao2 l.length cap2] 36 (0,0))∧wc.heap[rb]?=some (.cells #[.int .i64 0,.int .i64 0,.int .i64 0,.int .i64 0,.int .i64 0,.int .i64 0,.string (ByteArray.mk #[]),.slice none 0 0] 36 (0,0))∧Z0a (New w wc) wc (.slice ao2 l.length cap2) l∧Below w.heap.size w wc)
 case first=>
  go_wp2_with (go_at_call 67;refine (CL.out _ HBA.out).mono ?_;rintro e w2 ⟨u,rfl,hrow,hb⟩;obtain ⟨ao2,cap2,rfl,hcap2,hrw2⟩:=hrow;have HL2:=Hd (show Z0a (New wa w2) w2 (.slice ao2 l.length cap2) l from ⟨ao2,cap2,rfl,hcap2,hrw2⟩);have HB2:=Hd hb;clear hb hcap2 hrw2;have HM2:=Hd ((HB2.out.block mb (gE HMR.out).1).trans HMR.out);have k5:=cell_of_row w2 mb 5 _ _ _ HM2.out;have k7:=cell_of_row w2 mb 7 _ _ _ HM2.out;have kf:=λo=>frozen_of_row w2 mb o _ _ HM2.out;simp at k5 k7)
  go_meet;have hml:mb<wa.heap.size:=(gE HMR.out).1;have hs2:=HBA.out.size;refine ⟨ao2,cap2,Z05 (Z05 HM2.out _) _,?_,?_,?_⟩
  ·rw [Below.heap_setCell _ ⟨mb,7,none⟩ _ rb (show rb≠mb by have:=HRBB.out;have:=HMB.out;omega),Below.heap_setCell _ ⟨mb,5,none⟩ _ rb (show rb≠mb by have:=HRBB.out;have:=HMB.out;omega)];exact (HB2.out.block rb (gE HRR.out).1).trans HRR.out
  ·refine (HL2.out.kept (λg cur fr hr hc=>?_)).mono (λk hk=>⟨Nat.le_trans hs2 hk.1,by have:=hk.2;simpa [World.setCell] using this⟩);have hg:g≠mb:=by have:=hr.1;omega
   rw [Below.heap_setCell _ ⟨mb,7,none⟩ _ g hg,Below.heap_setCell _ ⟨mb,5,none⟩ _ g hg]
  exact ((HBA.out.trans (HB2.out.mono hs2)).setCell (by rw [HMB.out];exact Nat.le_refl _) _).setCell (by rw [HMB.out];exact Nat.le_refl _) _
 case rest=>
 obtain ⟨ao2,cap2,hmd,hrd,hld,hbd⟩:=hcut;obtain ⟨w3,rfl⟩:∃w3:World,w3=wc:=⟨_,rfl⟩;have HN3:=Hd (H.out.below hbd);have x16:=HN3.out.nc.c16;have y3:=cell_of_row w3 mb 3 _ _ _ hmd;have y4:=cell_of_row w3 mb 4 _ _ _ hmd;simp at y3 y4;obtain ⟨wd,hwd⟩:∃wd,wd=w3.drew:=⟨_,rfl⟩;have HMD:=Hd (show wd.heap[mb]?=some (.cells #[.int .i64 m.kind,.int .i64 m.frm,.int .i64 m.to,.int .i64 m.height,.int .i64 m.round,.int .i64 (-1),.string m.dig,.slice ao2 l.length cap2] 36 (0,0)) from by rw [hwd];exact hmd);have HRD:=Hd (show wd.heap[rb]?=some (.cells #[.int .i64 0,.int .i64 0,.int .i64 0,.int .i64 0,.int .i64 0,.int .i64 0,.string (ByteArray.mk #[]),.slice none 0 0] 36 (0,0)) from by rw [hwd];exact hrd);have HLD:=Hd (show Z0a (New w wd) wd (.slice ao2 l.length cap2) l from by rw [hwd];exact hld.kept (λg cur fr _ _=>rfl));have HBD:=Hd (show Below w.heap.size w wd from by rw [hwd];exact hbd.drew);have IP1:=Hd (IP.out wd HBD.out);clear hmd hrd hld hbd HBA HMR HRR CL IP;obtain ⟨pr,hpr⟩:∃pr,pr=s.proposer s.id m.height m.round:=⟨_,rfl⟩;have HCR:=Hd (show s.claimRound m.height m.round=if pr=false then m.round else if m.round<99 then m.round+1 else m.round - 1 from by rw [hpr];rfl);rw [<-hpr] at IP1;clear hpr;go_upto_region 3 with (fail)
 go_cut [15] (λt wc=>t = .bool (!pr)∧wc=wd)
 case first=>
  go_region_law (go_simp;go_at_call 76;rw [<-hwd];(with_reducible refine IP1.out.mono ?_);rintro e wq ⟨rfl,hwq⟩;rw [hwq];clear hwq wq)
  all_goals (go_wp2_with fail;go_meet;exact ⟨rfl,hwd.symm⟩)
 case rest=>
 obtain ⟨rfl,rfl⟩:=hcut;obtain ⟨wd,rfl⟩:∃wd:World,wd=wc:=⟨_,rfl⟩;clear x16 y3 y4 hwd IP1;rcases pr with _ | _
 ·have HE:=Hd (show s.claimRound m.height m.round=m.round from by rw [HCR.out];rfl);go_upto_region 6 with (fail)
  have e0:=cell_of_row wd mb 0 _ _ _ HMD.out;have e1:=cell_of_row wd mb 1 _ _ _ HMD.out;have e2:=cell_of_row wd mb 2 _ _ _ HMD.out;have e3:=cell_of_row wd mb 3 _ _ _ HMD.out;have e4:=cell_of_row wd mb 4 _ _ _ HMD.out;have e5:=cell_of_row wd mb 5 _ _ _ HMD.out;have e6:=cell_of_row wd mb 6 _ _ _ HMD.out;have e7:=cell_of_row wd mb 7 _ _ _ HMD.out;have g0:=cell_of_row wd rb 0 _ _ _ HRD.out;have g1:=cell_of_row wd rb 1 _ _ _ HRD.out;have g2:=cell_of_row wd rb 2 _ _ _ HRD.out;have g3:=cell_of_row wd rb 3 _ _ _ HRD.out;have g4:=cell_of_row wd rb 4 _ _ _ HRD.out;have g5:=cell_of_row wd rb 5 _ _ _ HRD.out;have g6:=cell_of_row wd rb 6 _ _ _ HRD.out;have g7:=cell_of_row wd rb 7 _ _ _ HRD.out;have gf:=λo=>frozen_of_row wd rb o _ _ HRD.out;simp at e0 e1 e2 e3 e4 e5 e6 e7 g0 g1 g2 g3 g4 g5 g6 g7;go_wp2
  have hrow:=Zrq HRD.out (.int .i64 m.kind) (.int .i64 m.frm) (.int .i64 m.to) (.int .i64 m.height) (.int .i64 m.round) (.int .i64 (-1)) (.string m.dig) (.slice ao2 l.length cap2);have hbel:=Zej HBD.out (show w.heap.size<=rb by rw [HRBB.out];omega) (.int .i64 m.kind) (.int .i64 m.frm) (.int .i64 m.to) (.int .i64 m.height) (.int .i64 m.round) (.int .i64 (-1)) (.string m.dig) (.slice ao2 l.length cap2);obtain ⟨wf,hwf⟩:∃wf,wf=((((((((wd.setCell ⟨rb,0,none⟩ (.int .i64 m.kind)).setCell ⟨rb,1,none⟩ (.int .i64 m.frm)).setCell ⟨rb,2,none⟩ (.int .i64 m.to)).setCell ⟨rb,3,none⟩ (.int .i64 m.height)).setCell ⟨rb,4,none⟩ (.int .i64 m.round)).setCell ⟨rb,5,none⟩ (.int .i64 (-1))).setCell ⟨rb,6,none⟩ (.string m.dig)).setCell ⟨rb,7,none⟩ (.slice ao2 l.length cap2)):=⟨_,rfl⟩;rw [<-hwf] at hrow hbel ⊢;have hoth:∀k,k≠rb->wf.heap[k]?=wd.heap[k]?:=λk hk=>by rw [hwf];exact Zt0 (.int .i64 m.kind) (.int .i64 m.frm) (.int .i64 m.to) (.int .i64 m.height) (.int .i64 m.round) (.int .i64 (-1)) (.string m.dig) (.slice ao2 l.length cap2) hk
  refine bodyPost_ret (results_cell_row rfl _ _ rb _ _ _ _ rfl hrow Tryz.underlying36 rfl (by kernel_rfl)) rfl ⟨.slice ao2 l.length cap2,by rw [HE.out],?_,hbel⟩;refine (HLD.out.kept (λg cur fr hr hc=>hoth g (λe=>by
   subst e;rw [HRD.out] at hc;injection hc with hc;injection hc with _ hc _;exact absurd hc (by decide)))).mono (λk hk=>⟨hk.1,?_⟩)
  have:wf.heap.size=wd.heap.size:=by rw [hwf];simp [World.setCell]
  rw [this];exact hk.2
 have x4:=cell_of_row wd mb 4 _ _ _ HMD.out;simp at x4;by_cases h99:m.round<99
 ·have HE:=Hd (show s.claimRound m.height m.round=m.round+1 from by rw [HCR.out,if_neg (by simp),if_pos h99]);have x4:=cell_of_row wd mb 4 _ _ _ HMD.out;have xf:=λo=>frozen_of_row wd mb o _ _ HMD.out;simp at x4;go_upto_region 6 with (fail)
  obtain ⟨we,hwe⟩:∃we,we=wd.setCell ⟨mb,4,none⟩ (.int .i64 (m.round+1)):=⟨_,rfl⟩;have hme:we.heap[mb]?=some (.cells #[.int .i64 m.kind,.int .i64 m.frm,.int .i64 m.to,.int .i64 m.height,.int .i64 (m.round+1),.int .i64 (-1),.string m.dig,.slice ao2 l.length cap2] 36 (0,0)):=by rw [hwe];exact Z05 HMD.out _
  have hoe:∀k,k≠mb->we.heap[k]?=wd.heap[k]?:=λk hk=>by rw [hwe];exact Below.heap_setCell wd ⟨mb,4,none⟩ _ k hk
  have hse:we.heap.size=wd.heap.size:=by rw [hwe];simp [World.setCell]
  have hbe:Below w.heap.size w we:=by rw [hwe];exact HBD.out.setCell (by rw [HMB.out];exact Nat.le_refl _) _
  have hle:Z0a (New w we) we (.slice ao2 l.length cap2) l:=(HLD.out.kept (λg cur fr hr hc=>hoe g (λe=>by
   subst e;rw [HMD.out] at hc;injection hc with hc;injection hc with _ hc _;exact absurd hc (by decide)))).mono (λk hk=>⟨hk.1,by rw [hse];exact hk.2⟩)
  have hre:we.heap[rb]?=some (.cells #[.int .i64 0,.int .i64 0,.int .i64 0,.int .i64 0,.int .i64 0,.int .i64 0,.string (ByteArray.mk #[]),.slice none 0 0] 36 (0,0)):=(hoe rb (by rw [HRBB.out,HMB.out];omega)).trans HRD.out;rw [<-hwe];clear hwe hoe hse x4 xf HMD HRD HBD HLD;have HMD:=Hd hme;have HRD:=Hd hre;have HBD:=Hd hbe;have HLD:=Hd hle;clear hme hre hbe hle;have e0:=cell_of_row we mb 0 _ _ _ HMD.out;have e1:=cell_of_row we mb 1 _ _ _ HMD.out;have e2:=cell_of_row we mb 2 _ _ _ HMD.out;have e3:=cell_of_row we mb 3 _ _ _ HMD.out;have e4:=cell_of_row we mb 4 _ _ _ HMD.out;have e5:=cell_of_row we mb 5 _ _ _ HMD.out;have e6:=cell_of_row we mb 6 _ _ _ HMD.out;have e7:=cell_of_row we mb 7 _ _ _ HMD.out;have g0:=cell_of_row we rb 0 _ _ _ HRD.out;have g1:=cell_of_row we rb 1 _ _ _ HRD.out;have g2:=cell_of_row we rb 2 _ _ _ HRD.out;have g3:=cell_of_row we rb 3 _ _ _ HRD.out;have g4:=cell_of_row we rb 4 _ _ _ HRD.out;have g5:=cell_of_row we rb 5 _ _ _ HRD.out;have g6:=cell_of_row we rb 6 _ _ _ HRD.out;have g7:=cell_of_row we rb 7 _ _ _ HRD.out;have gf:=λo=>frozen_of_row we rb o _ _ HRD.out;simp at e0 e1 e2 e3 e4 e5 e6 e7 g0 g1 g2 g3 g4 g5 g6 g7;go_wp2
  have hrow:=Zrq HRD.out (.int .i64 m.kind) (.int .i64 m.frm) (.int .i64 m.to) (.int .i64 m.height) (.int .i64 (m.round+1)) (.int .i64 (-1)) (.string m.dig) (.slice ao2 l.length cap2);have hbel:=Zej HBD.out (show w.heap.size<=rb by rw [HRBB.out];omega) (.int .i64 m.kind) (.int .i64 m.frm) (.int .i64 m.to) (.int .i64 m.height) (.int .i64 (m.round+1)) (.int .i64 (-1)) (.string m.dig) (.slice ao2 l.length cap2);obtain ⟨wf,hwf⟩:∃wf,wf=((((((((we.setCell ⟨rb,0,none⟩ (.int .i64 m.kind)).setCell ⟨rb,1,none⟩ (.int .i64 m.frm)).setCell ⟨rb,2,none⟩ (.int .i64 m.to)).setCell ⟨rb,3,none⟩ (.int .i64 m.height)).setCell ⟨rb,4,none⟩ (.int .i64 (m.round+1))).setCell ⟨rb,5,none⟩ (.int .i64 (-1))).setCell ⟨rb,6,none⟩ (.string m.dig)).setCell ⟨rb,7,none⟩ (.slice ao2 l.length cap2)):=⟨_,rfl⟩;rw [<-hwf] at hrow hbel ⊢;have hoth:∀k,k≠rb->wf.heap[k]?=we.heap[k]?:=λk hk=>by rw [hwf];exact Zt0 (.int .i64 m.kind) (.int .i64 m.frm) (.int .i64 m.to) (.int .i64 m.height) (.int .i64 (m.round+1)) (.int .i64 (-1)) (.string m.dig) (.slice ao2 l.length cap2) hk
  refine bodyPost_ret (results_cell_row rfl _ _ rb _ _ _ _ rfl hrow Tryz.underlying36 rfl (by kernel_rfl)) rfl ⟨.slice ao2 l.length cap2,by rw [HE.out],?_,hbel⟩;refine (HLD.out.kept (λg cur fr hr hc=>hoth g (λe=>by
   subst e;rw [HRD.out] at hc;injection hc with hc;injection hc with _ hc _;exact absurd hc (by decide)))).mono (λk hk=>⟨hk.1,?_⟩)
  have:wf.heap.size=we.heap.size:=by rw [hwf];simp [World.setCell]
  rw [this];exact hk.2
 have HE:=Hd (show s.claimRound m.height m.round=m.round - 1 from by rw [HCR.out,if_neg (by simp),if_neg h99]);have x4:=cell_of_row wd mb 4 _ _ _ HMD.out;have xf:=λo=>frozen_of_row wd mb o _ _ HMD.out;simp at x4;go_upto_region 6 with (fail)
 obtain ⟨we,hwe⟩:∃we,we=wd.setCell ⟨mb,4,none⟩ (.int .i64 (m.round - 1)):=⟨_,rfl⟩;have hme:we.heap[mb]?=some (.cells #[.int .i64 m.kind,.int .i64 m.frm,.int .i64 m.to,.int .i64 m.height,.int .i64 (m.round - 1),.int .i64 (-1),.string m.dig,.slice ao2 l.length cap2] 36 (0,0)):=by rw [hwe];exact Z05 HMD.out _
 have hoe:∀k,k≠mb->we.heap[k]?=wd.heap[k]?:=λk hk=>by rw [hwe];exact Below.heap_setCell wd ⟨mb,4,none⟩ _ k hk
 have hse:we.heap.size=wd.heap.size:=by rw [hwe];simp [World.setCell]
 have hbe:Below w.heap.size w we:=by rw [hwe];exact HBD.out.setCell (by rw [HMB.out];exact Nat.le_refl _) _
 have hle:Z0a (New w we) we (.slice ao2 l.length cap2) l:=(HLD.out.kept (λg cur fr hr hc=>hoe g (λe=>by
  subst e;rw [HMD.out] at hc;injection hc with hc;injection hc with _ hc _;exact absurd hc (by decide)))).mono (λk hk=>⟨hk.1,by rw [hse];exact hk.2⟩)
 have hre:we.heap[rb]?=some (.cells #[.int .i64 0,.int .i64 0,.int .i64 0,.int .i64 0,.int .i64 0,.int .i64 0,.string (ByteArray.mk #[]),.slice none 0 0] 36 (0,0)):=(hoe rb (by rw [HRBB.out,HMB.out];omega)).trans HRD.out;rw [<-hwe];clear hwe hoe hse x4 xf HMD HRD HBD HLD;have HMD:=Hd hme;have HRD:=Hd hre;have HBD:=Hd hbe;have HLD:=Hd hle;clear hme hre hbe hle;have e0:=cell_of_row we mb 0 _ _ _ HMD.out;have e1:=cell_of_row we mb 1 _ _ _ HMD.out;have e2:=cell_of_row we mb 2 _ _ _ HMD.out;have e3:=cell_of_row we mb 3 _ _ _ HMD.out;have e4:=cell_of_row we mb 4 _ _ _ HMD.out;have e5:=cell_of_row we mb 5 _ _ _ HMD.out;have e6:=cell_of_row we mb 6 _ _ _ HMD.out;have e7:=cell_of_row we mb 7 _ _ _ HMD.out;have g0:=cell_of_row we rb 0 _ _ _ HRD.out;have g1:=cell_of_row we rb 1 _ _ _ HRD.out;have g2:=cell_of_row we rb 2 _ _ _ HRD.out;have g3:=cell_of_row we rb 3 _ _ _ HRD.out;have g4:=cell_of_row we rb 4 _ _ _ HRD.out;have g5:=cell_of_row we rb 5 _ _ _ HRD.out;have g6:=cell_of_row we rb 6 _ _ _ HRD.out;have g7:=cell_of_row we rb 7 _ _ _ HRD.out;have gf:=λo=>frozen_of_row we rb o _ _ HRD.out;simp at e0 e1 e2 e3 e4 e5 e6 e7 g0 g1 g2 g3 g4 g5 g6 g7;go_wp2
 have hrow:=Zrq HRD.out (.int .i64 m.kind) (.int .i64 m.frm) (.int .i64 m.to) (.int .i64 m.height) (.int .i64 (m.round - 1)) (.int .i64 (-1)) (.string m.dig) (.slice ao2 l.length cap2);have hbel:=Zej HBD.out (show w.heap.size<=rb by rw [HRBB.out];omega) (.int .i64 m.kind) (.int .i64 m.frm) (.int .i64 m.to) (.int .i64 m.height) (.int .i64 (m.round - 1)) (.int .i64 (-1)) (.string m.dig) (.slice ao2 l.length cap2);obtain ⟨wf,hwf⟩:∃wf,wf=((((((((we.setCell ⟨rb,0,none⟩ (.int .i64 m.kind)).setCell ⟨rb,1,none⟩ (.int .i64 m.frm)).setCell ⟨rb,2,none⟩ (.int .i64 m.to)).setCell ⟨rb,3,none⟩ (.int .i64 m.height)).setCell ⟨rb,4,none⟩ (.int .i64 (m.round - 1))).setCell ⟨rb,5,none⟩ (.int .i64 (-1))).setCell ⟨rb,6,none⟩ (.string m.dig)).setCell ⟨rb,7,none⟩ (.slice ao2 l.length cap2)):=⟨_,rfl⟩;rw [<-hwf] at hrow hbel ⊢;have hoth:∀k,k≠rb->wf.heap[k]?=we.heap[k]?:=λk hk=>by rw [hwf];exact Zt0 (.int .i64 m.kind) (.int .i64 m.frm) (.int .i64 m.to) (.int .i64 m.height) (.int .i64 (m.round - 1)) (.int .i64 (-1)) (.string m.dig) (.slice ao2 l.length cap2) hk
 refine bodyPost_ret (results_cell_row rfl _ _ rb _ _ _ _ rfl hrow Tryz.underlying36 rfl (by kernel_rfl)) rfl ⟨.slice ao2 l.length cap2,by rw [HE.out],?_,hbel⟩;refine (HLD.out.kept (λg cur fr hr hc=>hoth g (λe=>by
  subst e;rw [HRD.out] at hc;injection hc with hc;injection hc with _ hc _;exact absurd hc (by decide)))).mono (λk hk=>⟨hk.1,?_⟩)
 have:wf.heap.size=we.heap.size:=by rw [hwf];simp [World.setCell]
 rw [this];exact hk.2
end
end
section
variable {F:Fence} {nF:Nat} {P:Program} (w:World) {ops:Array Oper} {rest:List Oper} {o:Oper} {a:Act} {Q:Exit->Act->World->Prop}
theorem Z4b (hg:o.guard=none) (it:Operand) (hop:o.op=Op.next it false) (b r:Nat) (L left:List (Value×Value))
  (hit:a.eval it = .pointer (some ⟨r,0,none⟩)) (h:Z0f w b r L left)
  (hDone:left = []->wpListIn F nF P ops Q rest (a.put o.dst (.tuple #[.bool false])) w)
  (hMore:∀k v pre post w',left=pre ++ (k,v) :: post->(k,v)∈L->Z0f w' b r L (pre ++ post)->w.grownBy w' (some r)->w'.heap.size=w.heap.size->(Instr.entry (.pointer (some ⟨r,0,none⟩))).run P w' = .ok (.tuple #[k,v]) w'->wpListIn F nF P ops Q rest (a.put o.dst (.tuple #[.bool true,k,v])) w') :
  wpListIn F nF P ops Q (o :: rest) a w:=by
 refine wpListIn_plain hg λK' hK'=>?_;unfold Oper.wpIn;refine ⟨by simp [Oper.about,hop],?_⟩;rw [Oper.semAt_plain F _ _ (by rw [hop];intro c hc';cases hc')];rcases h.next (P:=P) o.type with ⟨h0,hrun⟩ | ⟨k,v,pre,post,w',hl,hm,hrun,hrg,hgr,hsz,hen⟩
 ·simp [execOp,hop,hit,hrun,Result.andThen];exact hK' _ _ (hDone h0)
 simp [execOp,hop,hit,hrun,Result.andThen];exact hK' _ _ (hMore k v pre post w' hl hm hrg hgr hsz hen)
theorem Z3p (hg:o.guard=none) (m:Operand) (t:TypeId) (hop:o.op=Op.range t m) (k e:TypeId) (ht:P.underlying t=some (.map k e)) (b:Nat) (L:List (Value×Value)) (hm:a.eval m = .map (some b)) (h:Z01 w b L)
  (hK:∀ob,Z0f (w.alloc ob) b w.heap.size L L->wpListIn F nF P ops Q rest (a.put o.dst (.pointer (some ⟨w.heap.size,0,none⟩))) (w.alloc ob)):wpListIn F nF P ops Q (o :: rest) a w:=by
 refine wpListIn_plain hg λK' hK'=>?_;obtain ⟨ob,hrun,hr⟩:=h.range (P:=P) ht;unfold Oper.wpIn;refine ⟨by simp [Oper.about,hop],?_⟩;rw [Oper.semAt_plain F _ _ (by rw [hop];intro c hc';cases hc')];simp [execOp,hop,hm,hrun,Result.andThen];exact hK' _ _ (hK ob hr)
end
end Go.Proofs.YtifcdjmcoibblaaGreatDoor
