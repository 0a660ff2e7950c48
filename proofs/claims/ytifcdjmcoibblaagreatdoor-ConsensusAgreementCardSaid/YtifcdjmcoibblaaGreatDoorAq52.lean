/- Bld Agl Ops OpnA -/
import Derived.Test.YtifcdjmcoibblaaGreatDoorAq51
import Derived.ProofKit
import Derived.OpenShut
set_option linter.unusedVariables false
set_option linter.unusedSimpArgs false
set_option linter.unusedSectionVars false
set_option maxRecDepth 100000
set_option maxHeartbeats 80000000
namespace Go.Proofs.YtifcdjmcoibblaaGreatDoor
section
open Go.RowKit
def BldE (W:World) (e:Ending) (w':World):Prop:=
 ∃nb H F N gn nc cur xs,e = .returned (.tuple #[.pointer (some ⟨nb,0,none⟩),.bool true])∧Num H F N∧Z0q W.heap.size W nb gn nc cur xs (Zq1 N 2 (news N H)) (λ_=>False) w'
theorem Zn9 (n:Int) (W:World) (hn1:-9223372036854775808<=n) (hn2:n<=9223372036854775807) (hG:Glob W) (h0:0<W.heap.size) :
  Calls Tryz.prog 51 #[.int .i64 n,.int .i64 2] W (BldE W):=by
 obtain ⟨N1,hN1,hpn⟩:=Z10 n 4 (by omega);obtain ⟨N,hN⟩:∃N:Nat,N=4+N1:=⟨_,rfl⟩;obtain ⟨F,hF⟩:∃F:Nat,Z03 (N:Int)=(F:Int):=⟨(Z03 (N:Int)).toNat,by unfold Z03;omega⟩;obtain ⟨H,hH⟩:∃H:Nat,N=H+F:=⟨N - F,by unfold Z03 at hF;omega⟩;have HNM:=Hd (show Num H F N from ⟨by unfold Z03 at hF;omega,hH,hF,by omega,by omega⟩);have PN:=Hd (show ∀W,Calls Tryz.prog 14 #[.int .i64 n,.int .i64 4] W λe w'=>e = .returned (.int .i64 (N1:Int))∧w'=W from λW=>(Z2e n 4 W hn1 hn2 (by omega) (by omega)).mono λe w' q=>⟨by rw [q.1];exact congrArg _ (congrArg _ hpn),q.2.symm⟩);have FA:=Hd (show ∀W,Calls Tryz.prog 33 #[.int .i64 (N:Int)] W λe w'=>e = .returned (.int .i64 (F:Int))∧w'=W from λW=>by rw [<-hF];exact Zgp _ W (by omega) (by omega));have HFF:=Hd hF;have ew0:IntKind.wrap .i64 (4+(N1:Int))=(N:Int):=by rw [IntKind.wrap_i64];omega
 have ewH:IntKind.wrap .i64 ((N:Int) - (F:Int))=(H:Int):=by rw [IntKind.wrap_i64];omega
 have h3:1<=H:=by unfold Z03 at hF;omega
 have h7:(H:Int)<=7:=by omega
 have hHN:H<=N:=by omega
 have hN7:N<=7:=by omega
 have HGL:=Hd hG;have HH0:=Hd h0;clear hpn hN hN1 hF hH hG h0;go_enter Tryz.func51,Tryz.ntmps51
 go_upto_region 3 with (first
  | (go_at_call 14;(with_reducible refine (PN.out _).mono ?_);rintro e wq ⟨rfl,hwq⟩;rw [hwq];clear hwq wq)
  | (go_at_call 33;(with_reducible refine (FA.out _).mono ?_);rintro e wq ⟨rfl,hwq⟩;rw [hwq];clear hwq wq))
 obtain ⟨nb,hnb⟩:∃nb,nb=W.heap.size:=⟨_,rfl⟩;obtain ⟨wn,hwn⟩:∃wn,wn=W.alloc (.cells #[.int .i64 (N:Int),.int .i64 (F:Int),.slice none 0 0,.int .i64 2,.int .i64 0,.slice none 0 0,.slice none 0 0,.slice none 0 0,.bool false] 50):=⟨_,rfl⟩;have HY0:=Hd (show Z6m W.heap.size W N 2 nb 0 (.slice none 0 0) wn from Z6m.nil (by rw [hwn];exact (Below.refl _ _).alloc (Nat.le_refl _) _) HH0.out (Nat.le_refl _) HGL.out (by rw [hwn,hnb];unfold Zt8 Z1b iv;rw [HFF.out];exact World.alloc_heap_new W _) (Nat.le_of_eq hnb.symm));rw [<-hnb,<-hwn];clear hnb hwn PN FA;go_wp2_with fail
 go_loopw [7] (λiv wr=>∃(i:Nat) (v:Value),i<=H∧iv = .int .i64 (i:Int)∧Z6m W.heap.size W N 2 nb i v wr) (λiv _=>H - (intOf iv).toNat)
 case atStart=>exact ⟨0,_,Nat.zero_le _,rfl,HY0.out⟩
 case round=>
  clear HY0;obtain ⟨i,v,hi,rfl,hy⟩:=hrel;obtain ⟨ao,cap,rfl⟩:=hy.slice;have HY:=Hd hy;have i0:(0:Int)<=(i:Int):=by omega
  have c1:=hy.cells.2.1;rw [HFF.out] at c1;clear hy;by_cases hiH:i<H
  ·have i1:(i:Int)<(H:Int):=by omega
   have MK:=Hd (HY.out.make (by omega) hN7);unfold pv at MK;go_upto_region 9 with (go_at_call 15;(with_reducible refine MK.out.mono ?_);rintro e w4 ⟨x,rfl,h4⟩;have YM:=Hd h4;clear h4)
   have c2:=YM.out.cells.2.2;clear c1;go_wp2_with (first
    | (refine Zfd (x:=x) (base:=W.heap.size) (w1:=W) (N:=N) (last:=2) (nb:=nb) (i:=i) (W:=w4) rfl (.tmp 46) (.tmp 48) (by rfl) (by rfl) YM.out (by omega) (by rfl) ?_;intro v5 w5 h5 c5 f5;obtain ⟨ao5,cap5,rfl⟩:=h5.slice;have Y5:=Hd h5;clear h5 c2))
   go_roundw
   case rel=>exact ⟨i+1,_,by omega,by go_num,Y5.out⟩
   case measure=>simp [intOf];omega
  have i1:¬(i:Int)<(H:Int):=by omega
  have hiE:i=H:=by omega
  have HXN:=Hd (show ∃gn nc cur xs,Z0q W.heap.size W nb gn nc cur xs (Zq1 N 2 (news N H)) (λ_=>False) wr from by
   have q:=HY.out;rw [hiE] at q;exact q.net (by omega) (by omega))
  clear hiE;go_wp2_with fail
  refine bodyPost_ret (results_tmp2 rfl _ _ _) rfl ?_;obtain ⟨gn,nc,cur,xs,q⟩:=HXN.out;exact ⟨nb,H,F,N,gn,nc,cur,xs,rfl,HNM.out,q⟩
end
section
open Go.RowKit
theorem Z2i.br {H F N:Nat} {st:Z0g} (g:Z2i H F N st):st.br=false:=by
 obtain ⟨V,E,a⟩:=g;exact a.br
def Zu0 (base:Nat) (w1:World) (nb H F N j:Nat) (W:World):Prop:=
 ∃gn nc cur xs st,Z0q base w1 nb gn nc cur xs st (λ_=>False) W∧Z2i H F N st∧Lim st (300000 * j) (40 * j) (2+2 * j)∧st.now<=((10 * j:Nat):Int)
section
variable (n:Int) (w:World) (ao:Option Addr) (cap:Nat) (os:List OpR)
theorem Zk0 (hn1:-9223372036854775808<=n) (hn2:n<=9223372036854775807) (hlen:os.length<=9223372036854775807) (hrow:Zh3 w w.heap.size ao os) (hG:Glob w) :
  Calls Tryz.prog 10 #[.int .i64 n,.slice ao os.length cap] w λe w'=>e = .returned (.bool true)∧Below w.heap.size w w':=by
 have HGL:=Hd hG;have SN:=Hd (Zp7 w hG);have HROW:=Hd hrow;have HN12:=Hd (And.intro hn1 hn2);obtain ⟨len,hln⟩:∃len,len=os.length:=⟨_,rfl⟩;have HLN:=Hd hln;rw [<-hln] at hlen ⊢;have len0:(0:Int)<=(len:Int):=by omega
 have len9:(len:Int)<=9223372036854775807:=by omega
 clear hG hrow hln hlen hn1 hn2;go_enter Tryz.func10,Tryz.ntmps10
 go_upto_region 2 with (go_at_call 13;(with_reducible refine SN.out.mono ?_);rintro e w1 ⟨rfl,hb1⟩;have HB1:=Hd hb1;clear hb1)
 clear SN;have HG1:=Hd (show Glob w1 from by
  obtain ⟨t,ht⟩:=HGL.out;exact ⟨t,(HB1.out.block 0 (gE ht).1).trans ht⟩)
 have HP1:=Hd (show 0<w1.heap.size from by
  obtain ⟨t,ht⟩:=HG1.out;exact (gE ht).1)
 have HR1:=Hd (show Zh3 w1 w1.heap.size ao os from λj z hz=>by
  obtain ⟨h0,g,off,e,hg,hc⟩:=(HROW.out.later HB1.out) j z hz;exact ⟨h0,g,off,e,Nat.lt_of_lt_of_le hg HB1.out.size,hc⟩)
 have BL:=Hd (Zn9 n w1 HN12.out.1 HN12.out.2 HG1.out HP1.out);go_wp2_with (first
  | (go_at_call 51;(with_reducible refine BL.out.mono ?_);rintro e w2 hbl;obtain ⟨nb,H,F,N,gn,nc,cur,xs,rfl,hnum,hx2⟩:=hbl;have HNUM:=Hd hnum;have BG:=Hd (Zn2 hx2 (Ztz hnum) (show H<=7 by have:=hnum.hN;have:=hnum.n7;omega) (bgn0 N H 2));unfold pv at BG;clear hnum hx2)
  | (go_at_call 52;(with_reducible refine BG.out.mono ?_);rintro e w3 ⟨rfl,st,hg3,hb3,hx3,_⟩;have HI3:=Hd (show Zu0 w1.heap.size w1 nb H F N 0 w3 from ⟨gn,nc,cur,xs,st,hx3,hg3,(lim0 hb3).mono (by omega) (by omega) (by omega),by rw [hb3.now];exact Int.le_refl _⟩);clear hg3 hb3 hx3))
 clear BG BL;go_loopw [8] (λiv wr=>∃j:Nat,j<=len∧j<=120∧iv = .int .i64 (j:Int)∧Zu0 w1.heap.size w1 nb H F N j wr) (λiv _=>120 - (intOf iv).toNat)
 case atStart=>exact ⟨0,Nat.zero_le _,Nat.zero_le _,rfl,HI3.out⟩
 case round=>
  clear HI3;obtain ⟨j,hj,hj8,rfl,hI⟩:=hrel;obtain ⟨gn,nc,cur,xs,st,hx,hg,hl,hm⟩:=hI;have HX:=Hd hx;have HG:=Hd hg;have HL:=Hd hl;have HM:=Hd hm;have j0:(0:Int)<=(j:Int):=by omega
  have HE:=Hd (show Below w.heap.size w wr from HB1.out.trans (hx.below.mono HB1.out.size));clear hx hg hl hm;by_cases hjn:j<len
  ·have j1:(j:Int)<(len:Int):=by omega
   by_cases hj80:j<120
   ·have j2:(j:Int)<120:=by omega
    obtain ⟨o,hoj⟩:∃o,os[j]?=some o:=⟨os[j]'(by rw [<-HLN.out];exact hjn),List.getElem?_eq_getElem _⟩;obtain ⟨hok,g,off,rfl,hgl,hoc⟩:=(HR1.out.later HX.out.below) j o hoj;have e0:=hoc 0 _ rfl;have e1:=hoc 1 _ rfl;have e2:=hoc 2 _ rfl;have e3:=hoc 3 _ rfl;have e4:=hoc 4 _ rfl;have e5:=hoc 5 _ rfl;have e6:=hoc 6 _ rfl;have e7:=hoc 7 _ rfl;have e8:=hoc 8 _ rfl;have e9:=hoc 9 _ rfl;have e10:=hoc 10 _ rfl;have e11:=hoc 11 _ rfl;have e12:=hoc 12 _ rfl;simp only [Nat.add_zero] at e0;have DS:=Hd (Zh5 HNUM.out HX.out HG.out HL.out HM.out (by omega) (by omega) (by omega) (by omega) o hok);unfold OpR.val OpR.cells pv at DS;clear hoc hok hgl hoj;go_wp2_with (first
     | (go_at_call 53;(with_reducible refine DS.out.mono ?_);rintro e w5 hde;obtain ⟨rfl,gn5,nc5,cur5,xs5,st5,hx5,_,hg5,hl5,hm5⟩:=hde;have n8:=hx5.cells.2.2.2.2.2;rw [hg5.br] at n8;have AG:=Hd (Zn3 hx5 hg5 HNUM.out.h3 hl5.l0 (by have:=hl5.l1;omega));unfold pv at AG;have HI5:=Hd (show ∀W,Below w5.heap.size w5 W->Zu0 w1.heap.size w1 nb H F N (j+1) W from λW hW=>⟨gn5,nc5,cur5,xs5,st5,hx5.later hW,hg5,hl5.mono (by omega) (by omega) (by omega),by omega⟩);clear hx5 hg5 hl5 hm5)
     | (go_at_call 54;(with_reducible refine AG.out.mono ?_);rintro e w6 ⟨rfl,hb6⟩;have HI6:=Hd (HI5.out _ hb6);clear hb6 n8))
    go_roundw
    case rel=>exact ⟨j+1,by omega,by omega,by go_num,HI6.out⟩
    case measure=>simp [intOf];omega
   have j2:¬(j:Int)<120:=by omega
   go_wp2_with fail
   go_ret;exact ⟨rfl,HE.out⟩
  have j1:¬(j:Int)<(len:Int):=by omega
  go_wp2_with fail
  go_ret;exact ⟨rfl,HE.out⟩
end
end
section
open Go.ChangeShapes Go.WideShapes Go.ChangeAt Go.RowKit
theorem Zsm {cs:List Value} (h:cs.length=8):∃a b c d e f g i,cs = [a,b,c,d,e,f,g,i]:=by
 match cs,h with
 | [a,b,c,d,e,f,g,i],_=>exact ⟨a,b,c,d,e,f,g,i,rfl⟩
theorem Zpk {cs:List Value} (h:cs.length=13):∃a b c d e r:Value,∃rs:List Value,cs=a :: b :: c :: d :: e :: rs∧rs.length=8:=by
 match cs,h with
 | a :: b :: c :: d :: e :: rs,h=>exact ⟨a,b,c,d,e,a,rs,rfl,by simpa using h⟩
section
variable {H:Type} {enc:TypeId×Value->H} {W:World} {base:Nat} {sp:Nat->Bool} {held:Bool}
theorem Zsn {z:Int} (h:(Lit.int .i64 z).wf=true):Zru z:=by
 have:=bounds_i64 h;exact this
theorem Zso {fuel:Nat} {cs:List Value} {x:DataW H×List MemPlace} (h:DataW.trod enc Tryz.prog W base sp held fuel 36 cs=some x) :
  ∃(x0 x1 x2 x3 x4 x5:Int) (xd:ByteArray) (xa:Option Addr) (xn xc:Nat),cs = [.int .i64 x0,.int .i64 x1,.int .i64 x2,.int .i64 x3,.int .i64 x4,.int .i64 x5,.string xd,.slice xa xn xc]:=by
 obtain ⟨xs,n',_,_,hlen,hxs,hfld⟩:=DataW.trod_struct Tryz.underlying36 h;have hc8:Tryz.prog.cellsOf 36=8:=by kernel_rfl
 have ci:Tryz.prog.cellsOf 3=1:=by kernel_rfl
 have cs1:Tryz.prog.cellsOf 9=1:=by kernel_rfl
 have cl:Tryz.prog.cellsOf 30=1:=by kernel_rfl
 rw [hc8] at hlen;obtain ⟨c0,c1,c2,c3,c4,c5,c6,c7,rfl⟩:=Zsm hlen;have x8:xs.length=8:=hxs;have g0:DataW.trod enc Tryz.prog W base sp held n' 3 ((List.drop 0 [c0,c1,c2,c3,c4,c5,c6,c7]).take (Tryz.prog.cellsOf 3))=xs[0]?:=hfld 0 _ rfl;have g1:DataW.trod enc Tryz.prog W base sp held n' 3 ((List.drop 1 [c0,c1,c2,c3,c4,c5,c6,c7]).take (Tryz.prog.cellsOf 3))=xs[1]?:=hfld 1 _ rfl;have g2:DataW.trod enc Tryz.prog W base sp held n' 3 ((List.drop 2 [c0,c1,c2,c3,c4,c5,c6,c7]).take (Tryz.prog.cellsOf 3))=xs[2]?:=hfld 2 _ rfl;have g3:DataW.trod enc Tryz.prog W base sp held n' 3 ((List.drop 3 [c0,c1,c2,c3,c4,c5,c6,c7]).take (Tryz.prog.cellsOf 3))=xs[3]?:=hfld 3 _ rfl;have g4:DataW.trod enc Tryz.prog W base sp held n' 3 ((List.drop 4 [c0,c1,c2,c3,c4,c5,c6,c7]).take (Tryz.prog.cellsOf 3))=xs[4]?:=hfld 4 _ rfl;have g5:DataW.trod enc Tryz.prog W base sp held n' 3 ((List.drop 5 [c0,c1,c2,c3,c4,c5,c6,c7]).take (Tryz.prog.cellsOf 3))=xs[5]?:=hfld 5 _ rfl;have g6:DataW.trod enc Tryz.prog W base sp held n' 9 ((List.drop 6 [c0,c1,c2,c3,c4,c5,c6,c7]).take (Tryz.prog.cellsOf 9))=xs[6]?:=hfld 6 _ rfl;have g7:DataW.trod enc Tryz.prog W base sp held n' 30 ((List.drop 7 [c0,c1,c2,c3,c4,c5,c6,c7]).take (Tryz.prog.cellsOf 30))=xs[7]?:=hfld 7 _ rfl;rw [List.getElem?_eq_getElem (by omega)] at g0 g1 g2 g3 g4 g5 g6 g7;rw [ci] at g0 g1 g2 g3 g4 g5;rw [cs1] at g6;rw [cl] at g7;obtain ⟨z0,e0,_,_⟩:=DataW.trod_int Tryz.underlying3 g0;obtain ⟨z1,e1,_,_⟩:=DataW.trod_int Tryz.underlying3 g1;obtain ⟨z2,e2,_,_⟩:=DataW.trod_int Tryz.underlying3 g2;obtain ⟨z3,e3,_,_⟩:=DataW.trod_int Tryz.underlying3 g3;obtain ⟨z4,e4,_,_⟩:=DataW.trod_int Tryz.underlying3 g4;obtain ⟨z5,e5,_,_⟩:=DataW.trod_int Tryz.underlying3 g5;obtain ⟨z6,e6,_,_⟩:=DataW.trod_string Tryz.underlying9 g6;simp at e0 e1 e2 e3 e4 e5 e6;subst e0;subst e1;subst e2;subst e3;subst e4;subst e5;subst e6;rcases Go.Deep.open_slice Tryz.underlying30 g7 with ⟨e7,_⟩ | ⟨x,l,c,m,n,D,Pl,e7,_⟩
 ·simp at e7;subst e7;exact ⟨_,_,_,_,_,_,_,_,_,_,rfl⟩
 simp at e7;subst e7;exact ⟨_,_,_,_,_,_,_,_,_,_,rfl⟩
theorem Zu1 {fuel:Nat} {cs:List Value} {x:DataW H×List MemPlace} (h:DataW.trod enc Tryz.prog W base sp held fuel 52 cs=some x):∃o:OpR,cs=o.cells∧o.Ok:=by
 obtain ⟨xs,n',_,_,hlen,hxs,hfld⟩:=DataW.trod_struct Tryz.underlying52 h;have hc13:Tryz.prog.cellsOf 52=13:=by kernel_rfl
 have ci:Tryz.prog.cellsOf 3=1:=by kernel_rfl
 have cm:Tryz.prog.cellsOf 36=8:=by kernel_rfl
 rw [hc13] at hlen;obtain ⟨c0,c1,c2,c3,c4,_,rs,rfl,hrs⟩:=Zpk hlen;have x6:xs.length=6:=hxs;have g0:DataW.trod enc Tryz.prog W base sp held n' 3 ((List.drop 0 (c0 :: c1 :: c2 :: c3 :: c4 :: rs)).take (Tryz.prog.cellsOf 3))=xs[0]?:=hfld 0 _ rfl;have g1:DataW.trod enc Tryz.prog W base sp held n' 3 ((List.drop 1 (c0 :: c1 :: c2 :: c3 :: c4 :: rs)).take (Tryz.prog.cellsOf 3))=xs[1]?:=hfld 1 _ rfl;have g2:DataW.trod enc Tryz.prog W base sp held n' 3 ((List.drop 2 (c0 :: c1 :: c2 :: c3 :: c4 :: rs)).take (Tryz.prog.cellsOf 3))=xs[2]?:=hfld 2 _ rfl;have g3:DataW.trod enc Tryz.prog W base sp held n' 3 ((List.drop 3 (c0 :: c1 :: c2 :: c3 :: c4 :: rs)).take (Tryz.prog.cellsOf 3))=xs[3]?:=hfld 3 _ rfl;have g4:DataW.trod enc Tryz.prog W base sp held n' 3 ((List.drop 4 (c0 :: c1 :: c2 :: c3 :: c4 :: rs)).take (Tryz.prog.cellsOf 3))=xs[4]?:=hfld 4 _ rfl;have g5:DataW.trod enc Tryz.prog W base sp held n' 36 ((List.drop 5 (c0 :: c1 :: c2 :: c3 :: c4 :: rs)).take (Tryz.prog.cellsOf 36))=xs[5]?:=hfld 5 _ rfl;rw [List.getElem?_eq_getElem (by omega)] at g0 g1 g2 g3 g4 g5;rw [ci] at g0 g1 g2 g3 g4;rw [cm] at g5;obtain ⟨z0,e0,_,w0⟩:=DataW.trod_int Tryz.underlying3 g0;obtain ⟨z1,e1,_,w1⟩:=DataW.trod_int Tryz.underlying3 g1;obtain ⟨z2,e2,_,w2⟩:=DataW.trod_int Tryz.underlying3 g2;obtain ⟨z3,e3,_,w3⟩:=DataW.trod_int Tryz.underlying3 g3;obtain ⟨z4,e4,_,w4⟩:=DataW.trod_int Tryz.underlying3 g4;have e8:(List.drop 5 (c0 :: c1 :: c2 :: c3 :: c4 :: rs)).take 8=rs:=by
  show List.take 8 rs=rs;exact List.take_of_length_le (by omega)
 rw [e8] at g5;obtain ⟨x0,x1,x2,x3,x4,x5,xd,xa,xn,xc,rfl⟩:=Zso g5;simp at e0 e1 e2 e3 e4;subst e0;subst e1;subst e2;subst e3;subst e4;exact ⟨⟨z0,z1,z2,z3,z4,x0,x1,x2,x3,x4,x5,xd,xa,xn,xc⟩,rfl,Zsn w0,Zsn w1,Zsn w2,Zsn w3,Zsn w4⟩
theorem ops_open {a:Option Addr} {len cap:Nat} {d:DataW H} {p:List MemPlace} (h:DataW.Trod enc Tryz.prog W base sp held 44 (.slice a len cap) d p) :
  ∃os:List OpR,os.length=len∧len<=9223372036854775807∧Zh3 W W.heap.size a os:=by
 obtain ⟨fuel,h⟩:=h;rcases Go.Deep.open_slice Tryz.underlying44 h with ⟨hcs,_⟩ | ⟨x,l,c,m,n,D,Pl,hcs,_,hl,hm,hmm,_,hi⟩
 ·simp [Value.cells] at hcs;obtain ⟨rfl,rfl,rfl⟩:=hcs;exact ⟨[],rfl,by omega,λj o ho=>by simp at ho⟩
 simp [Value.cells] at hcs;obtain ⟨rfl,rfl,rfl⟩:=hcs;have hc13:Tryz.prog.cellsOf 52=13:=by kernel_rfl
 have hch:∀i,∃o:OpR,i<len->o.Ok∧∀j v,o.cells[j]?=some v->W.cell? (x.add (i * 13+j))=some v:=λi=>by
  by_cases hil:i<len
  ·have him:i<m:=by rw [hmm];split <;> omega
   obtain ⟨cs,h1,h2⟩:=hi i him;rw [hc13] at h1;obtain ⟨_,hlen,hcell⟩:=World.cells?_some h1;obtain ⟨o,hs,hok⟩:=Zu1 h2;refine ⟨o,λ_=>⟨hok,λj v hv=>?_⟩⟩;have hj:j<13:=by have:=(List.getElem?_eq_some_iff.1 hv).1;simpa [OpR.cells] using this
   have e1:x.add (i * 13+j)=(x.add (i * 13)).add j:=by
    unfold Addr.add;by_cases c1:i * 13=0 <;> by_cases c2:j=0 <;> simp [c1,c2,Nat.add_assoc]
   rw [e1,hcell j hj,hs];exact hv
  exact ⟨⟨0,0,0,0,0,0,0,0,0,0,0,ByteArray.mk #[],none,0,0⟩,λh=>absurd h hil⟩
 refine ⟨(List.range len).map λi=>(hch i).choose,by simp,by unfold maxLen at hm;omega,λi o ho=>?_⟩;have hil:i<len:=by have:=(List.getElem?_eq_some_iff.1 ho).1;simpa using this
 have es:o=(hch i).choose:=by
  rw [List.getElem?_map,List.getElem?_range hil,Option.map_some] at ho;exact (Option.some.inj ho).symm
 subst es;obtain ⟨hok,hcell⟩:=(hch i).choose_spec hil;have c0:=hcell 0 _ rfl;obtain ⟨b,off,spot⟩:=x;have hsn:spot=none:=by
  have q:=((hch 0).choose_spec (by omega)).2 0 _ rfl;have e0:(Addr.add ⟨b,off,spot⟩ (0 * 13+0))=⟨b,off,spot⟩:=by simp [Addr.add]
  rw [e0] at q;simpa using World.cell?_spot q
 subst hsn;have ea:∀k,(Addr.add ⟨b,off,none⟩ k)=⟨b,off+k,none⟩:=λk=>by unfold Addr.add;split <;> simp_all
 refine ⟨hok,b,off,rfl,?_,λj v hv=>?_⟩
 ·rw [ea] at c0;exact World.block_lt_of_cell? _ _ c0
 have:=hcell j v hv;rw [ea] at this;rw [Nat.add_assoc];exact this
end
end
section
open Go.ChangeShapes Go.WideShapes Go.ChangeAt Go.RowKit
theorem agreeF (n:Int) (ao:Option Addr) (len cap:Nat) (os:List OpR) (w:World) (hn1:-9223372036854775808<=n) (hn2:n<=9223372036854775807)
  (hl:os.length=len) (hlen:len<=9223372036854775807) (hrow:Zh3 w w.heap.size ao os) (hG:Glob w) :
  Calls Tryz.prog 10 #[.int .i64 n,.slice ao len cap] w λe w'=>e = .returned (.bool true)∧Below w.heap.size w w':=by
 subst hl;exact Zk0 n w ao cap os hn1 hn2 hlen hrow hG
end
end Go.Proofs.YtifcdjmcoibblaaGreatDoor
