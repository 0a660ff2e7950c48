/- Cod Fit Ans1 Clm RawI -/
import Derived.Test.YtifcdjmcoibblaaGreatDoorLq27
import Derived.Test.YtifcdjmcoibblaaGreatDoorLq26
import Derived.Test.YtifcdjmcoibblaaGreatDoorLq05
import Derived.Test.YtifcdjmcoibblaaGreatDoorLq04
import Derived.Test.YtifcdjmcoibblaaGreatDoorLq10
import Derived.Test.YtifcdjmcoibblaaGreatDoorLq23
import Derived.Test.YtifcdjmcoibblaaGreatDoorLq01
import Derived.Test.YtifcdjmcoibblaaGreatDoorLq19
import Derived.Maps.OwnIn
import Derived.OwnWalkIn
set_option linter.unusedVariables false
set_option linter.unusedSimpArgs false
set_option linter.unusedSectionVars false
set_option maxRecDepth 100000
set_option maxHeartbeats 80000000
namespace Go.Proofs.YtifcdjmcoibblaaGreatDoor
section
open Go.RowKit
def famL (j:Nat):List (List Nat):=if j=0 then [idL 1] else if j=1 then [idL 1,idL 2] else if j=2 then [idL 3] else if j=3 then [idL 9] else if j=4 then [idL 2] else if j=5 then [idL 4] else if j=6 then [idL 5] else if j=7 then [idL 6] else if j=8 then [idL 7] else []
def fam (j:Nat):List ByteArray:=(famL j).map strB
def headN (j:Nat):Nat:=[83,184,209,72,70,31,1,17,248,110].getD j 0
theorem fam_heads:((List.range 10).all fun j=>(shaW (valW (famL j))).head? == some (headN j))=true:=by decide +kernel
theorem fam_asc:((List.range 10).all fun j=>ascS (fam j))=true:=by decide +kernel
theorem fam_val:((List.range 10).all fun j=>bytesN (valS (fam j)) == valW (famL j))=true:=by decide +kernel
theorem asc_fam {j:Nat} (h:j<10):ascS (fam j)=true:=List.all_eq_true.1 fam_asc j (List.mem_range.2 h)
theorem dig_fam {j:Nat} (h:j<10):digV (fam j)=strB (shaW (valW (famL j))):=by
 rw [digV_asc (asc_fam h)];unfold digS;have:=List.all_eq_true.1 fam_val j (List.mem_range.2 h);rw [eq_of_beq this]
theorem head_fam {j:Nat} (h:j<10):∃t,(digV (fam j)).toList=UInt8.ofNat (headN j) :: t:=by
 have:=List.all_eq_true.1 fam_heads j (List.mem_range.2 h);have hh:=eq_of_beq this;rw [dig_fam h];rcases e:shaW (valW (famL j)) with _ | ⟨a,t⟩
 ·rw [e] at hh;cases hh
 rw [e] at hh;injection hh with hh
 exact ⟨t.map UInt8.ofNat,by rw [hh];simp [strB]⟩
theorem heads_ne:((List.range 10).all fun i=>(List.range 10).all fun j=>i == j || headN i != headN j)=true:=by decide
theorem head_lt:((List.range 10).all fun j=>decide (headN j<256))=true:=by decide
theorem headN_lt {j:Nat} (h:j<10):headN j<256:=of_decide_eq_true (List.all_eq_true.1 head_lt j (List.mem_range.2 h))
theorem headN_inj {i j:Nat} (hi:i<10) (hj:j<10) (e:headN i=headN j):i=j:=by
 have h:=List.all_eq_true.1 (List.all_eq_true.1 heads_ne i (List.mem_range.2 hi)) j (List.mem_range.2 hj);rw [Bool.or_eq_true] at h;rcases h with h | h
 ·exact eq_of_beq h
 rw [e] at h;simp at h
theorem u8_lt {a b:Nat} (ha:a<256) (hb:b<256):(UInt8.ofNat a<UInt8.ofNat b)↔a<b:=by
 rw [UInt8.lt_iff_toNat_lt,UInt8.toNat_ofNat',UInt8.toNat_ofNat'];omega
theorem u8_eq {a b:Nat} (ha:a<256) (hb:b<256) (e:UInt8.ofNat a=UInt8.ofNat b):a=b:=by
 have:=congrArg UInt8.toNat e;rw [UInt8.toNat_ofNat',UInt8.toNat_ofNat'] at this;omega
theorem fam_inj {i j:Nat} (hi:i<10) (hj:j<10) (e:digV (fam i)=digV (fam j)):i=j:=by
 obtain ⟨a,ha⟩:=head_fam hi;obtain ⟨b,hb⟩:=head_fam hj;rw [e,hb] at ha;injection ha with h1 _
 exact headN_inj hi hj (u8_eq (headN_lt hi) (headN_lt hj) h1.symm)
theorem bytes_lt {a b:ByteArray} {x y:Nat} {s t:List UInt8} (ha:a.toList=UInt8.ofNat x :: s) (hb:b.toList=UInt8.ofNat y :: t) (hx:x<256) (hy:y<256) (hne:x≠y):Op.bytesLess a.toList b.toList=decide (x<y):=by
 rw [ha,hb];unfold Op.bytesLess;have h1:¬UInt8.ofNat x=UInt8.ofNat y:=fun e=>hne (u8_eq hx hy e);by_cases h:x<y
 ·simp [(u8_lt hx hy).2 h,h]
 have:¬UInt8.ofNat x<UInt8.ofNat y:=fun q=>h ((u8_lt hx hy).1 q);simp [this,h,h1]
theorem bytes_irr:∀l:List UInt8,Op.bytesLess l l=false
 | []=>rfl
 | a :: l=>by unfold Op.bytesLess;simp [bytes_irr l]
theorem bytes_nil:∀l:List UInt8,Op.bytesLess l []=false
 | []=>rfl
 | a :: l=>rfl
theorem dig_size {j:Nat} (h:j<10):(digV (fam j)).size=32:=by
 rw [dig_fam h,strB_size,sha_len]
theorem fam_len {j:Nat}:(fam j).length≤60:=by
 unfold fam famL;rw [List.length_map];repeat' split
 all_goals decide
theorem fam_inj2 {i j:Nat} (hi:i<10) (hj:j<10) (e:fam i=fam j):i=j:=fam_inj hi hj (by rw [e])
def GA (d:ByteArray) (l:List ByteArray):Prop:=∃j,j<10∧l=fam j∧d=digV (fam j)
structure GFam (G:ByteArray→List ByteArray→Prop):Prop where
 law:GLaw G
 val:∀d l,G d l→ascS l=true∧d=digV l
theorem digV_size (l:List ByteArray):(digV l).size=32:=by unfold digV;rw [strB_size,sha_len]
theorem GFam.sz {G:ByteArray→List ByteArray→Prop} (gf:GFam G) (d:ByteArray) (l:List ByteArray) (h:G d l):szB d:=.inr (by rw [(gf.val d l h).2];exact digV_size l)
theorem GA.law:GLaw GA:=⟨fun d l l' ⟨i,hi,e1,e2⟩ ⟨j,hj,e3,e4⟩=>by
 have:=fam_inj hi hj (e2.symm.trans e4);rw [e1,e3,this],fun d l ⟨i,hi,e1,_⟩=>by rw [e1];exact fam_len⟩
theorem GA.gf:GFam GA:=⟨GA.law,fun d l ⟨i,hi,e1,e2⟩=>by rw [e1,e2];exact ⟨asc_fam hi,rfl⟩⟩
theorem GA.fam {j:Nat} (h:j<10):GA (digV (fam j)) (fam j):=⟨j,h,rfl,rfl⟩
theorem lst_fam {j:Nat} (h:j<4):lstN j=Go.Proofs.YtifcdjmcoibblaaGreatDoor.fam j:=by
 rcases j with _ | _ | _ | _ | j
 ·rfl
 ·rfl
 ·rfl
 ·rfl
 omega
def codeD (tab:List Nat) {z:Nat} (c:QZ z):ByteArray:=if c.val=0 then ByteArray.mk #[] else digV (fam (tab.getD (c.val - 1) 0))
def codeL (tab:List Nat) {z:Nat} (c:QZ z):List ByteArray:=if c.val=0 then [] else fam (tab.getD (c.val - 1) 0)
def tabOk (tab:List Nat):Bool:=(tab.all fun j=>decide (j<10)) && (List.range tab.length).all fun i=>(List.range tab.length).all fun j=>decide (headN (tab.getD i 0)<headN (tab.getD j 0)) == decide (i<j)
theorem code_ren {tab:List Nat} {z:Nat} (h:tabOk tab=true) (hz:tab.length=z):Ren (codeD tab:QZ z→ByteArray) (codeL tab:QZ z→List ByteArray):=by
 unfold tabOk at h;rw [Bool.and_eq_true] at h;obtain ⟨h1,h2⟩:=h;have hj:∀i,i<z→tab.getD i 0<10:=fun i hi=>by
  have:=List.all_eq_true.1 h1 (tab.getD i 0) (by rw [List.getD_eq_getElem?_getD,List.getElem?_eq_getElem (by omega)];exact List.getElem_mem _);exact of_decide_eq_true this
 have hlt:∀i j,i<z→j<z→decide (headN (tab.getD i 0)<headN (tab.getD j 0))=decide (i<j):=fun i j hi hj=>eq_of_beq (List.all_eq_true.1 (List.all_eq_true.1 h2 i (List.mem_range.2 (by omega))) j (List.mem_range.2 (by omega)));have hne:∀i j,i<z→j<z→i≠j→headN (tab.getD i 0)≠headN (tab.getD j 0):=fun i j hi hj hij e=>by
  have a:=hlt i j hi hj;have b:=hlt j i hj hi;rw [e] at a b;simp at a b;omega
 have h0:∀c:QZ z,c.val≠0→c.val - 1<z:=fun c hc=>by have:=c.isLt;omega
 have nn:∀c:QZ z,c.val≠0→∃t,(codeD tab c).toList=UInt8.ofNat (headN (tab.getD (c.val - 1) 0)) :: t:=fun c hc=>by
  unfold codeD;rw [if_neg hc];exact head_fam (hj _ (h0 c hc))
 have lt:∀a b:QZ z,Op.bytesLess (codeD tab a).toList (codeD tab b).toList=decide (a.val<b.val):=fun a b=>by
  by_cases ha:a.val=0
  ·by_cases hb:b.val=0
   ·have:codeD tab b=codeD tab a:=by unfold codeD;rw [if_pos ha,if_pos hb]
    rw [this,bytes_irr,ha,hb];rfl
   obtain ⟨t,ht⟩:=nn b hb;have:codeD tab a=ByteArray.mk #[]:=by unfold codeD;rw [if_pos ha]
   rw [this,ht,ha,show (ByteArray.mk #[]).toList = [] from by simp];have:(0<b.val):=by omega
   simp [Op.bytesLess,this]
  by_cases hb:b.val=0
  ·have:codeD tab b=ByteArray.mk #[]:=by unfold codeD;rw [if_pos hb]
   rw [this,show (ByteArray.mk #[]).toList = [] from by simp,bytes_nil,hb];rfl
  by_cases hab:a.val=b.val
  ·have:a=b:=Fin.ext hab;rw [this,bytes_irr];simp
  obtain ⟨s,hs⟩:=nn a ha;obtain ⟨t,ht⟩:=nn b hb;have ia:=h0 a ha;have ib:=h0 b hb;rw [bytes_lt hs ht (headN_lt (hj _ ia)) (headN_lt (hj _ ib)) (hne _ _ ia ib (by omega)),hlt _ _ ia ib];rw [Bool.eq_iff_iff];simp;omega
 refine ⟨fun a b e=>?_,rfl,fun a b=>lt a b,rfl⟩;have a1:=lt a b;have a2:=lt b a;rw [e,bytes_irr] at a1;rw [e,bytes_irr] at a2;have b1:=of_decide_eq_false a1.symm;have b2:=of_decide_eq_false a2.symm;exact Fin.ext (by omega)
def tab5:List Nat:=[3,0,1,2]
def tab6:List Nat:=[3,0,9,1,2]
def tab8:List Nat:=[6,7,5,4,0,2,8]
theorem ren5:Ren (codeD tab5:QZ 4→ByteArray) (codeL tab5:QZ 4→List ByteArray):=code_ren (by decide) rfl
theorem ren6:Ren (codeD tab6:QZ 5→ByteArray) (codeL tab6:QZ 5→List ByteArray):=code_ren (by decide) rfl
theorem ren8:Ren (codeD tab8:QZ 7→ByteArray) (codeL tab8:QZ 7→List ByteArray):=code_ren (by decide) rfl
end
section
open Go.RowKit
theorem okM_of_valid {m:MsgB} (h:validB m=true) (hk:m.kind=3∨m.kind=4∨m.kind=6∨m.kind=5):OkM szB m∧InM m:=by
 unfold validB at h;rw [Bool.and_eq_true] at h;obtain ⟨hs,h⟩:=h;unfold sitesB siteB at hs;simp at hs;obtain ⟨⟨⟨a1,a2⟩,⟨a3,a4⟩⟩,a5⟩:=hs;rw [if_neg (by omega),if_neg (by omega)] at h;by_cases h3:m.kind=3
 ·rw [if_pos h3] at h;unfold propOk placedB at h;simp at h;obtain ⟨⟨⟨⟨⟨⟨⟨b1,b2⟩,b3⟩,b4⟩,b5⟩,b6⟩,b7⟩,b8⟩:=h;have hd:m.dig=digS m.list:=toList_inj b8;refine ⟨⟨a1,b3,by omega,b6,by omega,.inr ?_⟩,⟨a1,a5,b1,b2,b3,by omega⟩⟩;rw [hd];unfold digS;rw [strB_size,sha_len]
 rw [if_neg h3] at h;unfold voteOk placedB at h;simp at h;obtain ⟨_,⟨⟨⟨⟨⟨b1,b2⟩,b3⟩,b4⟩,b5⟩,b6⟩,b7⟩:=h;refine ⟨⟨a1,b3,by omega,by omega,by omega,?_⟩,⟨a1,a5,b1,b2,b3,by omega⟩⟩;rcases b7 with q | q
 ·exact .inl (by simpa using q)
 exact .inr q
section
variable {G:ByteArray→List ByteArray→Prop} {s:StB}
theorem Fit.new {id n:Int} (h0:0≤id) (h1:id<n) (h7:n≤7):Fit G (newS id n):=⟨⟨new_inv szB_nil h0 h1 h7,new_G _ _ _ _⟩,new_QI _ _⟩
theorem Fit.begin (gf:GFam G) (h:Fit G s) (k:Int) {ok:Bool} {d:ByteArray} {l:List ByteArray} (hd:ok=true→G d l):Fit G (s.begin k ok d l).1:=
 ⟨⟨begin_inv h.ok.inv k ok l (fun q=>gf.sz _ _ (hd q)),begin_G h.ok.gi k ok hd⟩,begin_QI h.qi k ok d l⟩
theorem Fit.accept (h:Fit G s) (d:ByteArray):Fit G (s.accept d):=⟨⟨accept_inv h.ok.inv d,accept_G h.ok.gi d⟩,accept_QI h.qi d⟩
theorem Fit.learn (h:Fit G s) (k:Int) {ok:Bool} {d:ByteArray} {l:List ByteArray} (hd:ok=true→G d l):Fit G (s.learn k ok d l).1:=
 ⟨⟨learn_inv h.ok.inv k ok d l,learn_G h.ok.gi k ok hd⟩,learn_QI h.qi k ok d l⟩
theorem Fit.tick (h:Fit G s):Fit G s.tick.1:=⟨⟨tick_inv h.ok.inv,tick_G h.ok.inv h.ok.gi⟩,tick_QI h.ok.inv⟩
theorem Fit.receive (h:Fit G s) {m:MsgB} (hm:validB m=true→m.kind=3→G m.dig m.list):Fit G (s.receive m (validB m)):=
 ⟨⟨receive_inv h.ok.inv (fun hv hk=>(okM_of_valid hv hk).1),receive_G h.ok.gi hm⟩,receive_QI h.qi h.ok.inv.num.n7 (fun hv hk=>(okM_of_valid hv hk).2)⟩
theorem Fit.out (gf:GFam G) (h:Fit G s):∀m∈s.tick.2,OutM szB G s.id s.n m:=tick_out gf.sz h.ok.inv h.ok.gi h.qi
theorem out_valid (gf:GFam G) {me n:Int} {m:MsgB} (h:OutM szB G me n m) (h0:0≤me) (h1:me<n) (h7:n≤7):validB m=true∧m.list.length≤60∧(m.kind=3→G m.dig m.list):=by
 have hf:=h.frm;have t0:=h.t0;have t1:=h.t1;have tm:=h.tm;have b0:=h.h0;have b1:=h.h1;have b2:=h.r0;have b3:=h.r1;have hs:sitesB m=true:=by
  unfold sitesB siteB;simp;omega
 have hp:placedB m=true:=by
  unfold placedB;simp;omega
 unfold validB;rw [hs];by_cases h3:m.kind=3
 ·obtain ⟨hg,hv1,hv2⟩:=h.prop h3;obtain ⟨ea,e2⟩:=gf.val _ _ hg;rw [if_neg (by omega),if_neg (by omega),if_pos h3];refine ⟨?_,gf.law.len _ _ hg,fun _=>hg⟩;unfold propOk;rw [hp,ea,e2,digV_asc ea];simp;omega
 obtain ⟨hv,hl,hz⟩:=h.vote h3;have hl:m.list = []:=hl;rw [if_neg (by rcases h.kind with q | q | q | q <;> omega),if_neg (by rcases h.kind with q | q | q | q <;> omega),if_neg h3];refine ⟨?_,by rw [hl];exact Nat.zero_le _,fun q=>absurd q h3⟩;unfold voteOk voteB;rw [hp,hv,hl];have hk:(m.kind == 4 || m.kind == 5 || m.kind == 6)=true:=by
  rcases h.kind with q | q | q | q
  ·exact absurd q h3
  ·rw [q];rfl
  ·rw [q];rfl
  rw [q];rfl
 rw [hk];unfold szB at hz;simpa using hz
end
end
section
open Go.RowKit
theorem set8 {w:World} {g:Nat} {t:TypeId} {a0 a1 a2 a3 a4 a5 a6 a7:Value} (h0:w.heap[g]?=some (.cells #[a0,a1,a2,a3,a4,a5,a6,a7] t (0,0))) (b0 b1 b2 b3 b4 b5 b6 b7:Value):((((((((w.setCell ⟨g,0,none⟩ b0).setCell ⟨g,1,none⟩ b1).setCell ⟨g,2,none⟩ b2).setCell ⟨g,3,none⟩ b3).setCell ⟨g,4,none⟩ b4).setCell ⟨g,5,none⟩ b5).setCell ⟨g,6,none⟩ b6).setCell ⟨g,7,none⟩ b7).heap[g]?=some (.cells #[b0,b1,b2,b3,b4,b5,b6,b7] t (0,0)):=by
 have h1:(w.setCell ⟨g,0,none⟩ b0).heap[g]?=some (.cells #[b0,a1,a2,a3,a4,a5,a6,a7] t (0,0)):=heap_setC h0 b0;have h2:((w.setCell ⟨g,0,none⟩ b0).setCell ⟨g,1,none⟩ b1).heap[g]?=some (.cells #[b0,b1,a2,a3,a4,a5,a6,a7] t (0,0)):=heap_setC h1 b1;have h3:(((w.setCell ⟨g,0,none⟩ b0).setCell ⟨g,1,none⟩ b1).setCell ⟨g,2,none⟩ b2).heap[g]?=some (.cells #[b0,b1,b2,a3,a4,a5,a6,a7] t (0,0)):=heap_setC h2 b2;have h4:((((w.setCell ⟨g,0,none⟩ b0).setCell ⟨g,1,none⟩ b1).setCell ⟨g,2,none⟩ b2).setCell ⟨g,3,none⟩ b3).heap[g]?=some (.cells #[b0,b1,b2,b3,a4,a5,a6,a7] t (0,0)):=heap_setC h3 b3;have h5:(((((w.setCell ⟨g,0,none⟩ b0).setCell ⟨g,1,none⟩ b1).setCell ⟨g,2,none⟩ b2).setCell ⟨g,3,none⟩ b3).setCell ⟨g,4,none⟩ b4).heap[g]?=some (.cells #[b0,b1,b2,b3,b4,a5,a6,a7] t (0,0)):=heap_setC h4 b4;have h6:((((((w.setCell ⟨g,0,none⟩ b0).setCell ⟨g,1,none⟩ b1).setCell ⟨g,2,none⟩ b2).setCell ⟨g,3,none⟩ b3).setCell ⟨g,4,none⟩ b4).setCell ⟨g,5,none⟩ b5).heap[g]?=some (.cells #[b0,b1,b2,b3,b4,b5,a6,a7] t (0,0)):=heap_setC h5 b5;have h7:(((((((w.setCell ⟨g,0,none⟩ b0).setCell ⟨g,1,none⟩ b1).setCell ⟨g,2,none⟩ b2).setCell ⟨g,3,none⟩ b3).setCell ⟨g,4,none⟩ b4).setCell ⟨g,5,none⟩ b5).setCell ⟨g,6,none⟩ b6).heap[g]?=some (.cells #[b0,b1,b2,b3,b4,b5,b6,a7] t (0,0)):=heap_setC h6 b6;have h8:((((((((w.setCell ⟨g,0,none⟩ b0).setCell ⟨g,1,none⟩ b1).setCell ⟨g,2,none⟩ b2).setCell ⟨g,3,none⟩ b3).setCell ⟨g,4,none⟩ b4).setCell ⟨g,5,none⟩ b5).setCell ⟨g,6,none⟩ b6).setCell ⟨g,7,none⟩ b7).heap[g]?=some (.cells #[b0,b1,b2,b3,b4,b5,b6,b7] t (0,0)):=heap_setC h7 b7;exact h8
theorem drew_at (w:World) (k:Nat):w.drew.heap[k]?=w.heap[k]?:=rfl
theorem below8 {B:Nat} {a w:World} (h:Below B a w) {g:Nat} (hg:B≤g) (b0 b1 b2 b3 b4 b5 b6 b7:Value):Below B a ((((((((w.setCell ⟨g,0,none⟩ b0).setCell ⟨g,1,none⟩ b1).setCell ⟨g,2,none⟩ b2).setCell ⟨g,3,none⟩ b3).setCell ⟨g,4,none⟩ b4).setCell ⟨g,5,none⟩ b5).setCell ⟨g,6,none⟩ b6).setCell ⟨g,7,none⟩ b7):=
 (((((((h.setCell hg b0).setCell hg b1).setCell hg b2).setCell hg b3).setCell hg b4).setCell hg b5).setCell hg b6).setCell hg b7
section
variable {R:Nat→Prop} {w:World} {x:Nat} {p:Ptr} {s:StB}
theorem ans1_any (h:NodeP R w x p s) (xb sb qb vb:Nat) (site qh qr vr kind round:Int) (d:ByteArray) (sl:Value)
  (hx:w.heap[xb]?=some (.cells #[pv x] 25 (0,0))) (hs:w.heap[sb]?=some (.cells #[.int .i64 site] 3 (0,0)))
  (hq:w.heap[qb]?=some (.cells #[.int .i64 qh,.int .i64 qr] 165 (0,0))) (hv:w.heap[vb]?=some (.cells #[.int .i64 vr,.string d,sl] 120 (0,0))) :
  Calls Tryz.prog 111 #[iv kind,iv round,pv xb,pv sb,pv qb,pv vb] w fun e w'=>e = .returned (.agg (encM ⟨kind,s.id,site,qh,round,0,d,[]⟩ (.slice none 0 0)))∧Below w.heap.size w w':=by
 have H:=Hd h;have b0:=cell_of_row w xb 0 _ _ _ hx;have b1:=cell_of_row w sb 0 _ _ _ hs;have b2:=cell_of_row w qb 0 _ _ _ hq;have b3:=cell_of_row w vb 1 _ _ _ hv;simp [pv] at b0 b1 b2 b3;have c16:=h.nc.c16;have HB:=Hd ((Below.refl _ w).alloc (Nat.le_refl _) (.cells #[.int .i64 0,.int .i64 0,.int .i64 0,.int .i64 0,.int .i64 0,.int .i64 0,.string (ByteArray.mk #[]),.slice none 0 0] 36));clear h hx hs hq hv;unfold pv iv encM;go_enter Tryz.func111,Tryz.ntmps111
 go_upto_region 1 with (fail)
 have hr0:=World.alloc_heap_new w (.cells #[.int .i64 0,.int .i64 0,.int .i64 0,.int .i64 0,.int .i64 0,.int .i64 0,.string (ByteArray.mk #[]),.slice none 0 0] 36);have HNA:=H.out.below HB.out;have b0:=cell_up b0 (.cells #[.int .i64 0,.int .i64 0,.int .i64 0,.int .i64 0,.int .i64 0,.int .i64 0,.string (ByteArray.mk #[]),.slice none 0 0] 36);have b1:=cell_up b1 (.cells #[.int .i64 0,.int .i64 0,.int .i64 0,.int .i64 0,.int .i64 0,.int .i64 0,.string (ByteArray.mk #[]),.slice none 0 0] 36);have b2:=cell_up b2 (.cells #[.int .i64 0,.int .i64 0,.int .i64 0,.int .i64 0,.int .i64 0,.int .i64 0,.string (ByteArray.mk #[]),.slice none 0 0] 36);have b3:=cell_up b3 (.cells #[.int .i64 0,.int .i64 0,.int .i64 0,.int .i64 0,.int .i64 0,.int .i64 0,.string (ByteArray.mk #[]),.slice none 0 0] 36);obtain ⟨wa,hwa⟩:∃wa,wa=w.alloc (.cells #[.int .i64 0,.int .i64 0,.int .i64 0,.int .i64 0,.int .i64 0,.int .i64 0,.string (ByteArray.mk #[]),.slice none 0 0] 36):=⟨_,rfl⟩;rw [←hwa] at HB hr0 HNA b0 b1 b2 b3 ⊢;obtain ⟨rb,hrb⟩:∃rb,rb=w.heap.size:=⟨_,rfl⟩;have HRB:=Hd hrb;rw [←hrb] at hr0 ⊢;have x16:=HNA.nc.c16;have e0:=cell_of_row wa rb 0 _ _ _ hr0;have e1:=cell_of_row wa rb 1 _ _ _ hr0;have e2:=cell_of_row wa rb 2 _ _ _ hr0;have e3:=cell_of_row wa rb 3 _ _ _ hr0;have e4:=cell_of_row wa rb 4 _ _ _ hr0;have e5:=cell_of_row wa rb 5 _ _ _ hr0;have e6:=cell_of_row wa rb 6 _ _ _ hr0;have e7:=cell_of_row wa rb 7 _ _ _ hr0;have ef:=fun o=>frozen_of_row wa rb o _ _ hr0;simp at e0 e1 e2 e3 e4 e5 e6 e7;have HR0:=Hd hr0;clear hwa hrb hr0 HNA c16;go_region
 all_goals (
  go_wp2
  have hrow:=set8 HR0.out (.int .i64 kind) (.int .i64 s.id) (.int .i64 site) (.int .i64 qh) (.int .i64 round) (.int .i64 0) (.string d) (.slice none 0 0);have hbel:=(below8 HB.out (show w.heap.size≤rb by rw [HRB.out];exact Nat.le_refl _) (.int .i64 kind) (.int .i64 s.id) (.int .i64 site) (.int .i64 qh) (.int .i64 round) (.int .i64 0) (.string d) (.slice none 0 0)).drew;obtain ⟨wf,hwf⟩:∃wf,wf=((((((((wa.setCell ⟨rb,0,none⟩ (.int .i64 kind)).setCell ⟨rb,1,none⟩ (.int .i64 s.id)).setCell ⟨rb,2,none⟩ (.int .i64 site)).setCell ⟨rb,3,none⟩ (.int .i64 qh)).setCell ⟨rb,4,none⟩ (.int .i64 round)).setCell ⟨rb,5,none⟩ (.int .i64 0)).setCell ⟨rb,6,none⟩ (.string d)).setCell ⟨rb,7,none⟩ (.slice none 0 0)).drew:=⟨_,rfl⟩;have hrow2:wf.heap[rb]?=some (.cells #[.int .i64 kind,.int .i64 s.id,.int .i64 site,.int .i64 qh,.int .i64 round,.int .i64 0,.string d,.slice none 0 0] 36 (0,0)):=by rw [hwf,drew_at];exact hrow
  rw [←hwf] at hbel ⊢;exact bodyPost_ret (results_cell_row rfl _ _ rb _ _ _ _ rfl hrow2 Tryz.underlying36 rfl (by kernel_rfl)) rfl ⟨rfl,hbel⟩)
end
end
section
open Go.RowKit
theorem oth8 {w:World} {g k:Nat} (b0 b1 b2 b3 b4 b5 b6 b7:Value) (h:k≠g):((((((((w.setCell ⟨g,0,none⟩ b0).setCell ⟨g,1,none⟩ b1).setCell ⟨g,2,none⟩ b2).setCell ⟨g,3,none⟩ b3).setCell ⟨g,4,none⟩ b4).setCell ⟨g,5,none⟩ b5).setCell ⟨g,6,none⟩ b6).setCell ⟨g,7,none⟩ b7).heap[k]?=w.heap[k]?:=by
 rw [Below.heap_setCell _ ⟨g,7,none⟩ _ k h,Below.heap_setCell _ ⟨g,6,none⟩ _ k h,Below.heap_setCell _ ⟨g,5,none⟩ _ k h,Below.heap_setCell _ ⟨g,4,none⟩ _ k h,Below.heap_setCell _ ⟨g,3,none⟩ _ k h,Below.heap_setCell _ ⟨g,2,none⟩ _ k h,Below.heap_setCell _ ⟨g,1,none⟩ _ k h,Below.heap_setCell _ ⟨g,0,none⟩ _ k h]
section
variable {R R0 R1:Nat→Prop} {w:World} {x:Nat} {p:Ptr} {s:StB}
theorem claim_any {v lv:Value} {m:MsgB} {l:List ByteArray} (h:NodeP R w x p s) (hm:MsgV R0 w v m) (hlr:LRow R1 w lv l) (h1:∀k,R1 k→k<w.heap.size) (hl:l.length≤1000) (hn:1≤s.n) (hh:0≤m.height∧m.height≤1000000) (hr:0≤m.round∧m.round≤1000000) :
  Calls Tryz.prog 112 #[pv x,v,lv] w fun e w'=>∃u,e = .returned (.agg (encM ⟨m.kind,m.frm,m.to,m.height,s.claimRound m.height m.round,-1,m.dig,l⟩ u))∧LRow (New w w') w' u l∧Below w.heap.size w w':=by
 obtain ⟨sl,rfl,ao,cap,rfl,hcap,hrow⟩:=hm;have H:=Hd h;have CL:=Hd (fun W (hW:Below w.heap.size w W)=>clone_any (hlr.below h1 hW) hl);have IP:=Hd (fun W (hW:Below w.heap.size w W)=>isProposer_any (h.below hW) s.id m.height m.round hn hh hr);have HLen:=Hd hl;obtain ⟨hr0,hr1⟩:=hr;clear hcap hrow h hlr hl h1;unfold encM iv pv at *;go_enter Tryz.func112,Tryz.ntmps112
 go_upto_region 1 with (fail)
 obtain ⟨wa,hwa⟩:∃wa,wa=((w.alloc (.cells #[.int .i64 m.kind,.int .i64 m.frm,.int .i64 m.to,.int .i64 m.height,.int .i64 m.round,.int .i64 m.valid,.string m.dig,.slice ao m.list.length cap] 36)).alloc (.cells #[.int .i64 0,.int .i64 0,.int .i64 0,.int .i64 0,.int .i64 0,.int .i64 0,.string (ByteArray.mk #[]),.slice none 0 0] 36)):=⟨_,rfl⟩;have HBA:=Hd (show Below w.heap.size w wa from by rw [hwa];exact ((Below.refl _ _).alloc (Nat.le_refl _) _).alloc (by simp) _);have HMR:=Hd (show wa.heap[w.heap.size]?=some (.cells #[.int .i64 m.kind,.int .i64 m.frm,.int .i64 m.to,.int .i64 m.height,.int .i64 m.round,.int .i64 m.valid,.string m.dig,.slice ao m.list.length cap] 36 (0,0)) from by rw [hwa,Below.heap_alloc _ _ _ (by simp)];exact World.alloc_heap_new w _);have HRR:=Hd (show wa.heap[w.heap.size+1]?=some (.cells #[.int .i64 0,.int .i64 0,.int .i64 0,.int .i64 0,.int .i64 0,.int .i64 0,.string (ByteArray.mk #[]),.slice none 0 0] 36 (0,0)) from by
  rw [hwa];have:=World.alloc_heap_new (w.alloc (.cells #[.int .i64 m.kind,.int .i64 m.frm,.int .i64 m.to,.int .i64 m.height,.int .i64 m.round,.int .i64 m.valid,.string m.dig,.slice ao m.list.length cap] 36)) (.cells #[.int .i64 0,.int .i64 0,.int .i64 0,.int .i64 0,.int .i64 0,.int .i64 0,.string (ByteArray.mk #[]),.slice none 0 0] 36);rwa [World.size_alloc] at this)
 rw [←hwa];clear hwa;obtain ⟨rb,hrb⟩:∃rb,rb=w.heap.size+1:=⟨_,rfl⟩;have HRBB:=Hd hrb;rw [←hrb] at HRR ⊢;clear hrb;obtain ⟨mb,hmb⟩:∃mb,mb=w.heap.size:=⟨_,rfl⟩;have HMB:=Hd hmb;rw [←hmb] at HMR ⊢;clear hmb;go_cut [] (fun wc=>∃ao2 cap2,wc.heap[mb]?=some (.cells #[.int .i64 m.kind,.int .i64 m.frm,.int .i64 m.to,.int .i64 m.height,.int .i64 m.round,.int .i64 (-1),.string m.dig,.slice ao2 l.length cap2] 36 (0,0))∧wc.heap[rb]?=some (.cells #[.int .i64 0,.int .i64 0,.int .i64 0,.int .i64 0,.int .i64 0,.int .i64 0,.string (ByteArray.mk #[]),.slice none 0 0] 36 (0,0))∧LRow (New w wc) wc (.slice ao2 l.length cap2) l∧Below w.heap.size w wc)
 case first=>
  go_wp2_with (go_at_call 67;refine (CL.out _ HBA.out).mono ?_;rintro e w2 ⟨u,rfl,hrow,hb⟩;obtain ⟨ao2,cap2,rfl,hcap2,hrw2⟩:=hrow;have HL2:=Hd (show LRow (New wa w2) w2 (.slice ao2 l.length cap2) l from ⟨ao2,cap2,rfl,hcap2,hrw2⟩);have HB2:=Hd hb;clear hb hcap2 hrw2;have HM2:=Hd ((HB2.out.block mb (gE HMR.out).1).trans HMR.out);have k5:=cell_of_row w2 mb 5 _ _ _ HM2.out;have k7:=cell_of_row w2 mb 7 _ _ _ HM2.out;have kf:=fun o=>frozen_of_row w2 mb o _ _ HM2.out;simp at k5 k7)
  go_meet;have hml:mb<wa.heap.size:=(gE HMR.out).1;have hs2:=HBA.out.size;refine ⟨ao2,cap2,heap_setC (heap_setC HM2.out _) _,?_,?_,?_⟩
  ·rw [Below.heap_setCell _ ⟨mb,7,none⟩ _ rb (show rb≠mb by have:=HRBB.out;have:=HMB.out;omega),Below.heap_setCell _ ⟨mb,5,none⟩ _ rb (show rb≠mb by have:=HRBB.out;have:=HMB.out;omega)];exact (HB2.out.block rb (gE HRR.out).1).trans HRR.out
  ·refine (HL2.out.kept (fun g cur fr hr hc=>?_)).mono (fun k hk=>⟨Nat.le_trans hs2 hk.1,by have:=hk.2;simpa [World.setCell] using this⟩);have hg:g≠mb:=by have:=hr.1;omega
   rw [Below.heap_setCell _ ⟨mb,7,none⟩ _ g hg,Below.heap_setCell _ ⟨mb,5,none⟩ _ g hg]
  exact ((HBA.out.trans (HB2.out.mono hs2)).setCell (by rw [HMB.out];exact Nat.le_refl _) _).setCell (by rw [HMB.out];exact Nat.le_refl _) _
 case rest=>
 obtain ⟨ao2,cap2,hmd,hrd,hld,hbd⟩:=hcut;obtain ⟨w3,rfl⟩:∃w3:World,w3=wc:=⟨_,rfl⟩;have HN3:=Hd (H.out.below hbd);have x16:=HN3.out.nc.c16;have y3:=cell_of_row w3 mb 3 _ _ _ hmd;have y4:=cell_of_row w3 mb 4 _ _ _ hmd;simp at y3 y4;obtain ⟨wd,hwd⟩:∃wd,wd=w3.drew:=⟨_,rfl⟩;have HMD:=Hd (show wd.heap[mb]?=some (.cells #[.int .i64 m.kind,.int .i64 m.frm,.int .i64 m.to,.int .i64 m.height,.int .i64 m.round,.int .i64 (-1),.string m.dig,.slice ao2 l.length cap2] 36 (0,0)) from by rw [hwd];exact hmd);have HRD:=Hd (show wd.heap[rb]?=some (.cells #[.int .i64 0,.int .i64 0,.int .i64 0,.int .i64 0,.int .i64 0,.int .i64 0,.string (ByteArray.mk #[]),.slice none 0 0] 36 (0,0)) from by rw [hwd];exact hrd);have HLD:=Hd (show LRow (New w wd) wd (.slice ao2 l.length cap2) l from by rw [hwd];exact hld.kept (fun g cur fr _ _=>rfl));have HBD:=Hd (show Below w.heap.size w wd from by rw [hwd];exact hbd.drew);have IP1:=Hd (IP.out wd HBD.out);clear hmd hrd hld hbd HBA HMR HRR CL IP;obtain ⟨pr,hpr⟩:∃pr,pr=s.proposer s.id m.height m.round:=⟨_,rfl⟩;have HCR:=Hd (show s.claimRound m.height m.round=if pr=false then m.round else if m.round<99 then m.round+1 else m.round - 1 from by rw [hpr];rfl);rw [←hpr] at IP1;clear hpr;go_upto_region 3 with (fail)
 go_cut [15] (fun t wc=>t = .bool (!pr)∧wc=wd)
 case first=>
  go_region_law (go_simp;go_at_call 76;rw [←hwd];(with_reducible refine IP1.out.mono ?_);rintro e wq ⟨rfl,hwq⟩;rw [hwq];clear hwq wq)
  all_goals (go_wp2_with fail;go_meet;exact ⟨rfl,hwd.symm⟩)
 case rest=>
 obtain ⟨rfl,rfl⟩:=hcut;obtain ⟨wd,rfl⟩:∃wd:World,wd=wc:=⟨_,rfl⟩;clear x16 y3 y4 hwd IP1;rcases pr with _ | _
 ·have HE:=Hd (show s.claimRound m.height m.round=m.round from by rw [HCR.out];rfl);go_upto_region 6 with (fail)
  have e0:=cell_of_row wd mb 0 _ _ _ HMD.out;have e1:=cell_of_row wd mb 1 _ _ _ HMD.out;have e2:=cell_of_row wd mb 2 _ _ _ HMD.out;have e3:=cell_of_row wd mb 3 _ _ _ HMD.out;have e4:=cell_of_row wd mb 4 _ _ _ HMD.out;have e5:=cell_of_row wd mb 5 _ _ _ HMD.out;have e6:=cell_of_row wd mb 6 _ _ _ HMD.out;have e7:=cell_of_row wd mb 7 _ _ _ HMD.out;have g0:=cell_of_row wd rb 0 _ _ _ HRD.out;have g1:=cell_of_row wd rb 1 _ _ _ HRD.out;have g2:=cell_of_row wd rb 2 _ _ _ HRD.out;have g3:=cell_of_row wd rb 3 _ _ _ HRD.out;have g4:=cell_of_row wd rb 4 _ _ _ HRD.out;have g5:=cell_of_row wd rb 5 _ _ _ HRD.out;have g6:=cell_of_row wd rb 6 _ _ _ HRD.out;have g7:=cell_of_row wd rb 7 _ _ _ HRD.out;have gf:=fun o=>frozen_of_row wd rb o _ _ HRD.out;simp at e0 e1 e2 e3 e4 e5 e6 e7 g0 g1 g2 g3 g4 g5 g6 g7;go_wp2
  have hrow:=set8 HRD.out (.int .i64 m.kind) (.int .i64 m.frm) (.int .i64 m.to) (.int .i64 m.height) (.int .i64 m.round) (.int .i64 (-1)) (.string m.dig) (.slice ao2 l.length cap2);have hbel:=below8 HBD.out (show w.heap.size≤rb by rw [HRBB.out];omega) (.int .i64 m.kind) (.int .i64 m.frm) (.int .i64 m.to) (.int .i64 m.height) (.int .i64 m.round) (.int .i64 (-1)) (.string m.dig) (.slice ao2 l.length cap2);obtain ⟨wf,hwf⟩:∃wf,wf=((((((((wd.setCell ⟨rb,0,none⟩ (.int .i64 m.kind)).setCell ⟨rb,1,none⟩ (.int .i64 m.frm)).setCell ⟨rb,2,none⟩ (.int .i64 m.to)).setCell ⟨rb,3,none⟩ (.int .i64 m.height)).setCell ⟨rb,4,none⟩ (.int .i64 m.round)).setCell ⟨rb,5,none⟩ (.int .i64 (-1))).setCell ⟨rb,6,none⟩ (.string m.dig)).setCell ⟨rb,7,none⟩ (.slice ao2 l.length cap2)):=⟨_,rfl⟩;rw [←hwf] at hrow hbel ⊢;have hoth:∀k,k≠rb→wf.heap[k]?=wd.heap[k]?:=fun k hk=>by rw [hwf];exact oth8 (.int .i64 m.kind) (.int .i64 m.frm) (.int .i64 m.to) (.int .i64 m.height) (.int .i64 m.round) (.int .i64 (-1)) (.string m.dig) (.slice ao2 l.length cap2) hk
  refine bodyPost_ret (results_cell_row rfl _ _ rb _ _ _ _ rfl hrow Tryz.underlying36 rfl (by kernel_rfl)) rfl ⟨.slice ao2 l.length cap2,by rw [HE.out],?_,hbel⟩;refine (HLD.out.kept (fun g cur fr hr hc=>hoth g (fun e=>by
   subst e;rw [HRD.out] at hc;injection hc with hc;injection hc with _ hc _;exact absurd hc (by decide)))).mono (fun k hk=>⟨hk.1,?_⟩)
  have:wf.heap.size=wd.heap.size:=by rw [hwf];simp [World.setCell]
  rw [this];exact hk.2
 have x4:=cell_of_row wd mb 4 _ _ _ HMD.out;simp at x4;by_cases h99:m.round<99
 ·have HE:=Hd (show s.claimRound m.height m.round=m.round+1 from by rw [HCR.out,if_neg (by simp),if_pos h99]);have x4:=cell_of_row wd mb 4 _ _ _ HMD.out;have xf:=fun o=>frozen_of_row wd mb o _ _ HMD.out;simp at x4;go_upto_region 6 with (fail)
  obtain ⟨we,hwe⟩:∃we,we=wd.setCell ⟨mb,4,none⟩ (.int .i64 (m.round+1)):=⟨_,rfl⟩;have hme:we.heap[mb]?=some (.cells #[.int .i64 m.kind,.int .i64 m.frm,.int .i64 m.to,.int .i64 m.height,.int .i64 (m.round+1),.int .i64 (-1),.string m.dig,.slice ao2 l.length cap2] 36 (0,0)):=by rw [hwe];exact heap_setC HMD.out _
  have hoe:∀k,k≠mb→we.heap[k]?=wd.heap[k]?:=fun k hk=>by rw [hwe];exact Below.heap_setCell wd ⟨mb,4,none⟩ _ k hk
  have hse:we.heap.size=wd.heap.size:=by rw [hwe];simp [World.setCell]
  have hbe:Below w.heap.size w we:=by rw [hwe];exact HBD.out.setCell (by rw [HMB.out];exact Nat.le_refl _) _
  have hle:LRow (New w we) we (.slice ao2 l.length cap2) l:=(HLD.out.kept (fun g cur fr hr hc=>hoe g (fun e=>by
   subst e;rw [HMD.out] at hc;injection hc with hc;injection hc with _ hc _;exact absurd hc (by decide)))).mono (fun k hk=>⟨hk.1,by rw [hse];exact hk.2⟩)
  have hre:we.heap[rb]?=some (.cells #[.int .i64 0,.int .i64 0,.int .i64 0,.int .i64 0,.int .i64 0,.int .i64 0,.string (ByteArray.mk #[]),.slice none 0 0] 36 (0,0)):=(hoe rb (by rw [HRBB.out,HMB.out];omega)).trans HRD.out;rw [←hwe];clear hwe hoe hse x4 xf HMD HRD HBD HLD;have HMD:=Hd hme;have HRD:=Hd hre;have HBD:=Hd hbe;have HLD:=Hd hle;clear hme hre hbe hle;have e0:=cell_of_row we mb 0 _ _ _ HMD.out;have e1:=cell_of_row we mb 1 _ _ _ HMD.out;have e2:=cell_of_row we mb 2 _ _ _ HMD.out;have e3:=cell_of_row we mb 3 _ _ _ HMD.out;have e4:=cell_of_row we mb 4 _ _ _ HMD.out;have e5:=cell_of_row we mb 5 _ _ _ HMD.out;have e6:=cell_of_row we mb 6 _ _ _ HMD.out;have e7:=cell_of_row we mb 7 _ _ _ HMD.out;have g0:=cell_of_row we rb 0 _ _ _ HRD.out;have g1:=cell_of_row we rb 1 _ _ _ HRD.out;have g2:=cell_of_row we rb 2 _ _ _ HRD.out;have g3:=cell_of_row we rb 3 _ _ _ HRD.out;have g4:=cell_of_row we rb 4 _ _ _ HRD.out;have g5:=cell_of_row we rb 5 _ _ _ HRD.out;have g6:=cell_of_row we rb 6 _ _ _ HRD.out;have g7:=cell_of_row we rb 7 _ _ _ HRD.out;have gf:=fun o=>frozen_of_row we rb o _ _ HRD.out;simp at e0 e1 e2 e3 e4 e5 e6 e7 g0 g1 g2 g3 g4 g5 g6 g7;go_wp2
  have hrow:=set8 HRD.out (.int .i64 m.kind) (.int .i64 m.frm) (.int .i64 m.to) (.int .i64 m.height) (.int .i64 (m.round+1)) (.int .i64 (-1)) (.string m.dig) (.slice ao2 l.length cap2);have hbel:=below8 HBD.out (show w.heap.size≤rb by rw [HRBB.out];omega) (.int .i64 m.kind) (.int .i64 m.frm) (.int .i64 m.to) (.int .i64 m.height) (.int .i64 (m.round+1)) (.int .i64 (-1)) (.string m.dig) (.slice ao2 l.length cap2);obtain ⟨wf,hwf⟩:∃wf,wf=((((((((we.setCell ⟨rb,0,none⟩ (.int .i64 m.kind)).setCell ⟨rb,1,none⟩ (.int .i64 m.frm)).setCell ⟨rb,2,none⟩ (.int .i64 m.to)).setCell ⟨rb,3,none⟩ (.int .i64 m.height)).setCell ⟨rb,4,none⟩ (.int .i64 (m.round+1))).setCell ⟨rb,5,none⟩ (.int .i64 (-1))).setCell ⟨rb,6,none⟩ (.string m.dig)).setCell ⟨rb,7,none⟩ (.slice ao2 l.length cap2)):=⟨_,rfl⟩;rw [←hwf] at hrow hbel ⊢;have hoth:∀k,k≠rb→wf.heap[k]?=we.heap[k]?:=fun k hk=>by rw [hwf];exact oth8 (.int .i64 m.kind) (.int .i64 m.frm) (.int .i64 m.to) (.int .i64 m.height) (.int .i64 (m.round+1)) (.int .i64 (-1)) (.string m.dig) (.slice ao2 l.length cap2) hk
  refine bodyPost_ret (results_cell_row rfl _ _ rb _ _ _ _ rfl hrow Tryz.underlying36 rfl (by kernel_rfl)) rfl ⟨.slice ao2 l.length cap2,by rw [HE.out],?_,hbel⟩;refine (HLD.out.kept (fun g cur fr hr hc=>hoth g (fun e=>by
   subst e;rw [HRD.out] at hc;injection hc with hc;injection hc with _ hc _;exact absurd hc (by decide)))).mono (fun k hk=>⟨hk.1,?_⟩)
  have:wf.heap.size=we.heap.size:=by rw [hwf];simp [World.setCell]
  rw [this];exact hk.2
 have HE:=Hd (show s.claimRound m.height m.round=m.round - 1 from by rw [HCR.out,if_neg (by simp),if_neg h99]);have x4:=cell_of_row wd mb 4 _ _ _ HMD.out;have xf:=fun o=>frozen_of_row wd mb o _ _ HMD.out;simp at x4;go_upto_region 6 with (fail)
 obtain ⟨we,hwe⟩:∃we,we=wd.setCell ⟨mb,4,none⟩ (.int .i64 (m.round - 1)):=⟨_,rfl⟩;have hme:we.heap[mb]?=some (.cells #[.int .i64 m.kind,.int .i64 m.frm,.int .i64 m.to,.int .i64 m.height,.int .i64 (m.round - 1),.int .i64 (-1),.string m.dig,.slice ao2 l.length cap2] 36 (0,0)):=by rw [hwe];exact heap_setC HMD.out _
 have hoe:∀k,k≠mb→we.heap[k]?=wd.heap[k]?:=fun k hk=>by rw [hwe];exact Below.heap_setCell wd ⟨mb,4,none⟩ _ k hk
 have hse:we.heap.size=wd.heap.size:=by rw [hwe];simp [World.setCell]
 have hbe:Below w.heap.size w we:=by rw [hwe];exact HBD.out.setCell (by rw [HMB.out];exact Nat.le_refl _) _
 have hle:LRow (New w we) we (.slice ao2 l.length cap2) l:=(HLD.out.kept (fun g cur fr hr hc=>hoe g (fun e=>by
  subst e;rw [HMD.out] at hc;injection hc with hc;injection hc with _ hc _;exact absurd hc (by decide)))).mono (fun k hk=>⟨hk.1,by rw [hse];exact hk.2⟩)
 have hre:we.heap[rb]?=some (.cells #[.int .i64 0,.int .i64 0,.int .i64 0,.int .i64 0,.int .i64 0,.int .i64 0,.string (ByteArray.mk #[]),.slice none 0 0] 36 (0,0)):=(hoe rb (by rw [HRBB.out,HMB.out];omega)).trans HRD.out;rw [←hwe];clear hwe hoe hse x4 xf HMD HRD HBD HLD;have HMD:=Hd hme;have HRD:=Hd hre;have HBD:=Hd hbe;have HLD:=Hd hle;clear hme hre hbe hle;have e0:=cell_of_row we mb 0 _ _ _ HMD.out;have e1:=cell_of_row we mb 1 _ _ _ HMD.out;have e2:=cell_of_row we mb 2 _ _ _ HMD.out;have e3:=cell_of_row we mb 3 _ _ _ HMD.out;have e4:=cell_of_row we mb 4 _ _ _ HMD.out;have e5:=cell_of_row we mb 5 _ _ _ HMD.out;have e6:=cell_of_row we mb 6 _ _ _ HMD.out;have e7:=cell_of_row we mb 7 _ _ _ HMD.out;have g0:=cell_of_row we rb 0 _ _ _ HRD.out;have g1:=cell_of_row we rb 1 _ _ _ HRD.out;have g2:=cell_of_row we rb 2 _ _ _ HRD.out;have g3:=cell_of_row we rb 3 _ _ _ HRD.out;have g4:=cell_of_row we rb 4 _ _ _ HRD.out;have g5:=cell_of_row we rb 5 _ _ _ HRD.out;have g6:=cell_of_row we rb 6 _ _ _ HRD.out;have g7:=cell_of_row we rb 7 _ _ _ HRD.out;have gf:=fun o=>frozen_of_row we rb o _ _ HRD.out;simp at e0 e1 e2 e3 e4 e5 e6 e7 g0 g1 g2 g3 g4 g5 g6 g7;go_wp2
 have hrow:=set8 HRD.out (.int .i64 m.kind) (.int .i64 m.frm) (.int .i64 m.to) (.int .i64 m.height) (.int .i64 (m.round - 1)) (.int .i64 (-1)) (.string m.dig) (.slice ao2 l.length cap2);have hbel:=below8 HBD.out (show w.heap.size≤rb by rw [HRBB.out];omega) (.int .i64 m.kind) (.int .i64 m.frm) (.int .i64 m.to) (.int .i64 m.height) (.int .i64 (m.round - 1)) (.int .i64 (-1)) (.string m.dig) (.slice ao2 l.length cap2);obtain ⟨wf,hwf⟩:∃wf,wf=((((((((we.setCell ⟨rb,0,none⟩ (.int .i64 m.kind)).setCell ⟨rb,1,none⟩ (.int .i64 m.frm)).setCell ⟨rb,2,none⟩ (.int .i64 m.to)).setCell ⟨rb,3,none⟩ (.int .i64 m.height)).setCell ⟨rb,4,none⟩ (.int .i64 (m.round - 1))).setCell ⟨rb,5,none⟩ (.int .i64 (-1))).setCell ⟨rb,6,none⟩ (.string m.dig)).setCell ⟨rb,7,none⟩ (.slice ao2 l.length cap2)):=⟨_,rfl⟩;rw [←hwf] at hrow hbel ⊢;have hoth:∀k,k≠rb→wf.heap[k]?=we.heap[k]?:=fun k hk=>by rw [hwf];exact oth8 (.int .i64 m.kind) (.int .i64 m.frm) (.int .i64 m.to) (.int .i64 m.height) (.int .i64 (m.round - 1)) (.int .i64 (-1)) (.string m.dig) (.slice ao2 l.length cap2) hk
 refine bodyPost_ret (results_cell_row rfl _ _ rb _ _ _ _ rfl hrow Tryz.underlying36 rfl (by kernel_rfl)) rfl ⟨.slice ao2 l.length cap2,by rw [HE.out],?_,hbel⟩;refine (HLD.out.kept (fun g cur fr hr hc=>hoth g (fun e=>by
  subst e;rw [HRD.out] at hc;injection hc with hc;injection hc with _ hc _;exact absurd hc (by decide)))).mono (fun k hk=>⟨hk.1,?_⟩)
 have:wf.heap.size=we.heap.size:=by rw [hwf];simp [World.setCell]
 rw [this];exact hk.2
end
end
section
variable {F:Fence} {nF:Nat} {P:Program} (w:World) {ops:Array Oper} {rest:List Oper} {o:Oper} {a:Act} {Q:Exit→Act→World→Prop}
theorem wpListIn_next_raw (hg:o.guard=none) (it:Operand) (hop:o.op=Op.next it false) (b r:Nat) (L left:List (Value×Value))
  (hit:a.eval it = .pointer (some ⟨r,0,none⟩)) (h:RawRange w b r L left)
  (hDone:left = []→wpListIn F nF P ops Q rest (a.put o.dst (.tuple #[.bool false])) w)
  (hMore:∀k v pre post w',left=pre ++ (k,v) :: post→(k,v)∈L→RawRange w' b r L (pre ++ post)→w.grownBy w' (some r)→w'.heap.size=w.heap.size→(Instr.entry (.pointer (some ⟨r,0,none⟩))).run P w' = .ok (.tuple #[k,v]) w'→wpListIn F nF P ops Q rest (a.put o.dst (.tuple #[.bool true,k,v])) w') :
  wpListIn F nF P ops Q (o :: rest) a w:=by
 refine wpListIn_plain hg fun K' hK'=>?_;unfold Oper.wpIn;refine ⟨by simp [Oper.about,hop],?_⟩;rw [Oper.semAt_plain F _ _ (by rw [hop];intro c hc';cases hc')];rcases h.next (P:=P) o.type with ⟨h0,hrun⟩ | ⟨k,v,pre,post,w',hl,hm,hrun,hrg,hgr,hsz,hen⟩
 ·simp [execOp,hop,hit,hrun,Result.andThen];exact hK' _ _ (hDone h0)
 simp [execOp,hop,hit,hrun,Result.andThen];exact hK' _ _ (hMore k v pre post w' hl hm hrg hgr hsz hen)
theorem wpListIn_mapUpdate_raw (hg:o.guard=none) (m x v:Operand) (t:TypeId) (hop:o.op=Op.mapUpdate t m x v) (k e:TypeId) (ht:P.underlying t=some (.map k e)) {good:World→Value→Prop} (R:RawKey P k good) (b:Nat) (L:List (Value×Value)) (hm:a.eval m = .map (some b)) (h:RawMap w b L) (hgd:KeysGood good w L)
  (key val:Value) (hx:a.eval x=key) (hv:a.eval v=val) (hkey:good w key)
  (hK:∀ob,RawMap (w.putObj b ob) b (putV key val L)→wpListIn F nF P ops Q rest (a.put o.dst undef) (w.putObj b ob)):wpListIn F nF P ops Q (o :: rest) a w:=by
 refine wpListIn_plain hg fun K' hK'=>?_;obtain ⟨ob,hrun,hr⟩:=h.update R ht hgd hkey val;unfold Oper.wpIn;refine ⟨by simp [Oper.about,hop],?_⟩;rw [Oper.semAt_plain F _ _ (by rw [hop];intro c hc';cases hc')];simp [execOp,hop,hm,hx,hv,hrun,Result.andThen];exact hK' _ _ (hK ob (hr _ (World.putObj_heap_same h.lt)))
theorem wpListIn_range_raw (hg:o.guard=none) (m:Operand) (t:TypeId) (hop:o.op=Op.range t m) (k e:TypeId) (ht:P.underlying t=some (.map k e)) (b:Nat) (L:List (Value×Value)) (hm:a.eval m = .map (some b)) (h:RawMap w b L)
  (hK:∀ob,RawRange (w.alloc ob) b w.heap.size L L→wpListIn F nF P ops Q rest (a.put o.dst (.pointer (some ⟨w.heap.size,0,none⟩))) (w.alloc ob)):wpListIn F nF P ops Q (o :: rest) a w:=by
 refine wpListIn_plain hg fun K' hK'=>?_;obtain ⟨ob,hrun,hr⟩:=h.range (P:=P) ht;unfold Oper.wpIn;refine ⟨by simp [Oper.about,hop],?_⟩;rw [Oper.semAt_plain F _ _ (by rw [hop];intro c hc';cases hc')];simp [execOp,hop,hm,hrun,Result.andThen];exact hK' _ _ (hK ob hr)
end
end Go.Proofs.YtifcdjmcoibblaaGreatDoor
