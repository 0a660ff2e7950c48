/- Ops OpnL -/
import Derived.Test.YtifcdjmcoibblaaGreatDoorLq39
import Derived.WalkKit
import Derived.ProofKit
import Derived.OpenShut
import Derived.Deep.Slices
import Derived.ChangeArms
import Derived.DataReads
import Derived.ChangeSlices
import Derived.ChangeSame
import Derived.Test.YtifcdjmcoibblaaGreatDoorLq43
set_option linter.unusedVariables false
set_option linter.unusedSimpArgs false
set_option linter.unusedSectionVars false
set_option maxRecDepth 100000
set_option maxHeartbeats 80000000
namespace Go.Proofs.YtifcdjmcoibblaaGreatDoor
section
open Go.ChangeShapes Go.WideShapes Go.ChangeAt Go.RowKit
theorem eightO {cs:List Value} (h:cs.length=8):∃a b c d e f g i,cs = [a,b,c,d,e,f,g,i]:=by
 match cs,h with
 | [a,b,c,d,e,f,g,i],_=>exact ⟨a,b,c,d,e,f,g,i,rfl⟩
theorem thirteen {cs:List Value} (h:cs.length=13):∃a b c d e r:Value,∃rs:List Value,cs=a :: b :: c :: d :: e :: rs∧rs.length=8:=by
 match cs,h with
 | a :: b :: c :: d :: e :: rs,h=>exact ⟨a,b,c,d,e,a,rs,rfl,by simpa using h⟩
section
variable {H:Type} {enc:TypeId×Value→H} {W:World} {base:Nat} {sp:Nat→Bool} {held:Bool}
theorem i64r {z:Int} (h:(Lit.int .i64 z).wf=true):I64r z:=by
 have:=bounds_i64 h;exact this
theorem msg_in {fuel:Nat} {cs:List Value} {x:DataW H×List MemPlace} (h:DataW.trod enc Tryz.prog W base sp held fuel 36 cs=some x) :
  ∃(x0 x1 x2 x3 x4 x5:Int) (xd:ByteArray) (xa:Option Addr) (xn xc:Nat),cs = [.int .i64 x0,.int .i64 x1,.int .i64 x2,.int .i64 x3,.int .i64 x4,.int .i64 x5,.string xd,.slice xa xn xc]:=by
 obtain ⟨xs,n',_,_,hlen,hxs,hfld⟩:=DataW.trod_struct Tryz.underlying36 h;have hc8:Tryz.prog.cellsOf 36=8:=by kernel_rfl
 have ci:Tryz.prog.cellsOf 3=1:=by kernel_rfl
 have cs1:Tryz.prog.cellsOf 9=1:=by kernel_rfl
 have cl:Tryz.prog.cellsOf 30=1:=by kernel_rfl
 rw [hc8] at hlen;obtain ⟨c0,c1,c2,c3,c4,c5,c6,c7,rfl⟩:=eightO hlen;have x8:xs.length=8:=hxs;have g0:DataW.trod enc Tryz.prog W base sp held n' 3 ((List.drop 0 [c0,c1,c2,c3,c4,c5,c6,c7]).take (Tryz.prog.cellsOf 3))=xs[0]?:=hfld 0 _ rfl;have g1:DataW.trod enc Tryz.prog W base sp held n' 3 ((List.drop 1 [c0,c1,c2,c3,c4,c5,c6,c7]).take (Tryz.prog.cellsOf 3))=xs[1]?:=hfld 1 _ rfl;have g2:DataW.trod enc Tryz.prog W base sp held n' 3 ((List.drop 2 [c0,c1,c2,c3,c4,c5,c6,c7]).take (Tryz.prog.cellsOf 3))=xs[2]?:=hfld 2 _ rfl;have g3:DataW.trod enc Tryz.prog W base sp held n' 3 ((List.drop 3 [c0,c1,c2,c3,c4,c5,c6,c7]).take (Tryz.prog.cellsOf 3))=xs[3]?:=hfld 3 _ rfl;have g4:DataW.trod enc Tryz.prog W base sp held n' 3 ((List.drop 4 [c0,c1,c2,c3,c4,c5,c6,c7]).take (Tryz.prog.cellsOf 3))=xs[4]?:=hfld 4 _ rfl;have g5:DataW.trod enc Tryz.prog W base sp held n' 3 ((List.drop 5 [c0,c1,c2,c3,c4,c5,c6,c7]).take (Tryz.prog.cellsOf 3))=xs[5]?:=hfld 5 _ rfl;have g6:DataW.trod enc Tryz.prog W base sp held n' 9 ((List.drop 6 [c0,c1,c2,c3,c4,c5,c6,c7]).take (Tryz.prog.cellsOf 9))=xs[6]?:=hfld 6 _ rfl;have g7:DataW.trod enc Tryz.prog W base sp held n' 30 ((List.drop 7 [c0,c1,c2,c3,c4,c5,c6,c7]).take (Tryz.prog.cellsOf 30))=xs[7]?:=hfld 7 _ rfl;rw [List.getElem?_eq_getElem (by omega)] at g0 g1 g2 g3 g4 g5 g6 g7;rw [ci] at g0 g1 g2 g3 g4 g5;rw [cs1] at g6;rw [cl] at g7;obtain ⟨z0,e0,_,_⟩:=DataW.trod_int Tryz.underlying3 g0;obtain ⟨z1,e1,_,_⟩:=DataW.trod_int Tryz.underlying3 g1;obtain ⟨z2,e2,_,_⟩:=DataW.trod_int Tryz.underlying3 g2;obtain ⟨z3,e3,_,_⟩:=DataW.trod_int Tryz.underlying3 g3;obtain ⟨z4,e4,_,_⟩:=DataW.trod_int Tryz.underlying3 g4;obtain ⟨z5,e5,_,_⟩:=DataW.trod_int Tryz.underlying3 g5;obtain ⟨z6,e6,_,_⟩:=DataW.trod_string Tryz.underlying9 g6;simp at e0 e1 e2 e3 e4 e5 e6;subst e0;subst e1;subst e2;subst e3;subst e4;subst e5;subst e6;rcases Go.Deep.open_slice Tryz.underlying30 g7 with ⟨e7,_⟩ | ⟨x,l,c,m,n,D,Pl,e7,_⟩
 ·simp at e7;subst e7;exact ⟨_,_,_,_,_,_,_,_,_,_,rfl⟩
 simp at e7;subst e7;exact ⟨_,_,_,_,_,_,_,_,_,_,rfl⟩
theorem op_in {fuel:Nat} {cs:List Value} {x:DataW H×List MemPlace} (h:DataW.trod enc Tryz.prog W base sp held fuel 52 cs=some x):∃o:OpR,cs=o.cells∧o.Ok:=by
 obtain ⟨xs,n',_,_,hlen,hxs,hfld⟩:=DataW.trod_struct Tryz.underlying52 h;have hc13:Tryz.prog.cellsOf 52=13:=by kernel_rfl
 have ci:Tryz.prog.cellsOf 3=1:=by kernel_rfl
 have cm:Tryz.prog.cellsOf 36=8:=by kernel_rfl
 rw [hc13] at hlen;obtain ⟨c0,c1,c2,c3,c4,_,rs,rfl,hrs⟩:=thirteen hlen;have x6:xs.length=6:=hxs;have g0:DataW.trod enc Tryz.prog W base sp held n' 3 ((List.drop 0 (c0 :: c1 :: c2 :: c3 :: c4 :: rs)).take (Tryz.prog.cellsOf 3))=xs[0]?:=hfld 0 _ rfl;have g1:DataW.trod enc Tryz.prog W base sp held n' 3 ((List.drop 1 (c0 :: c1 :: c2 :: c3 :: c4 :: rs)).take (Tryz.prog.cellsOf 3))=xs[1]?:=hfld 1 _ rfl;have g2:DataW.trod enc Tryz.prog W base sp held n' 3 ((List.drop 2 (c0 :: c1 :: c2 :: c3 :: c4 :: rs)).take (Tryz.prog.cellsOf 3))=xs[2]?:=hfld 2 _ rfl;have g3:DataW.trod enc Tryz.prog W base sp held n' 3 ((List.drop 3 (c0 :: c1 :: c2 :: c3 :: c4 :: rs)).take (Tryz.prog.cellsOf 3))=xs[3]?:=hfld 3 _ rfl;have g4:DataW.trod enc Tryz.prog W base sp held n' 3 ((List.drop 4 (c0 :: c1 :: c2 :: c3 :: c4 :: rs)).take (Tryz.prog.cellsOf 3))=xs[4]?:=hfld 4 _ rfl;have g5:DataW.trod enc Tryz.prog W base sp held n' 36 ((List.drop 5 (c0 :: c1 :: c2 :: c3 :: c4 :: rs)).take (Tryz.prog.cellsOf 36))=xs[5]?:=hfld 5 _ rfl;rw [List.getElem?_eq_getElem (by omega)] at g0 g1 g2 g3 g4 g5;rw [ci] at g0 g1 g2 g3 g4;rw [cm] at g5;obtain ⟨z0,e0,_,w0⟩:=DataW.trod_int Tryz.underlying3 g0;obtain ⟨z1,e1,_,w1⟩:=DataW.trod_int Tryz.underlying3 g1;obtain ⟨z2,e2,_,w2⟩:=DataW.trod_int Tryz.underlying3 g2;obtain ⟨z3,e3,_,w3⟩:=DataW.trod_int Tryz.underlying3 g3;obtain ⟨z4,e4,_,w4⟩:=DataW.trod_int Tryz.underlying3 g4;have e8:(List.drop 5 (c0 :: c1 :: c2 :: c3 :: c4 :: rs)).take 8=rs:=by
  show List.take 8 rs=rs;exact List.take_of_length_le (by omega)
 rw [e8] at g5;obtain ⟨x0,x1,x2,x3,x4,x5,xd,xa,xn,xc,rfl⟩:=msg_in g5;simp at e0 e1 e2 e3 e4;subst e0;subst e1;subst e2;subst e3;subst e4;exact ⟨⟨z0,z1,z2,z3,z4,x0,x1,x2,x3,x4,x5,xd,xa,xn,xc⟩,rfl,i64r w0,i64r w1,i64r w2,i64r w3,i64r w4⟩
theorem ops_open {a:Option Addr} {len cap:Nat} {d:DataW H} {p:List MemPlace} (h:DataW.Trod enc Tryz.prog W base sp held 44 (.slice a len cap) d p) :
  ∃os:List OpR,os.length=len∧len≤9223372036854775807∧OpsAt W W.heap.size a os:=by
 obtain ⟨fuel,h⟩:=h;rcases Go.Deep.open_slice Tryz.underlying44 h with ⟨hcs,_⟩ | ⟨x,l,c,m,n,D,Pl,hcs,_,hl,hm,hmm,_,hi⟩
 ·simp [Value.cells] at hcs;obtain ⟨rfl,rfl,rfl⟩:=hcs;exact ⟨[],rfl,by omega,fun j o ho=>by simp at ho⟩
 simp [Value.cells] at hcs;obtain ⟨rfl,rfl,rfl⟩:=hcs;have hc13:Tryz.prog.cellsOf 52=13:=by kernel_rfl
 have hch:∀i,∃o:OpR,i<len→o.Ok∧∀j v,o.cells[j]?=some v→W.cell? (x.add (i * 13+j))=some v:=fun i=>by
  by_cases hil:i<len
  ·have him:i<m:=by rw [hmm];split <;> omega
   obtain ⟨cs,h1,h2⟩:=hi i him;rw [hc13] at h1;obtain ⟨_,hlen,hcell⟩:=World.cells?_some h1;obtain ⟨o,hs,hok⟩:=op_in h2;refine ⟨o,fun _=>⟨hok,fun j v hv=>?_⟩⟩;have hj:j<13:=by have:=(List.getElem?_eq_some_iff.1 hv).1;simpa [OpR.cells] using this
   have e1:x.add (i * 13+j)=(x.add (i * 13)).add j:=by
    unfold Addr.add;by_cases c1:i * 13=0 <;> by_cases c2:j=0 <;> simp [c1,c2,Nat.add_assoc]
   rw [e1,hcell j hj,hs];exact hv
  exact ⟨⟨0,0,0,0,0,0,0,0,0,0,0,ByteArray.mk #[],none,0,0⟩,fun h=>absurd h hil⟩
 refine ⟨(List.range len).map fun i=>(hch i).choose,by simp,by unfold maxLen at hm;omega,fun i o ho=>?_⟩;have hil:i<len:=by have:=(List.getElem?_eq_some_iff.1 ho).1;simpa using this
 have es:o=(hch i).choose:=by
  rw [List.getElem?_map,List.getElem?_range hil,Option.map_some] at ho;exact (Option.some.inj ho).symm
 subst es;obtain ⟨hok,hcell⟩:=(hch i).choose_spec hil;have c0:=hcell 0 _ rfl;obtain ⟨b,off,spot⟩:=x;have hsn:spot=none:=by
  have q:=((hch 0).choose_spec (by omega)).2 0 _ rfl;have e0:(Addr.add ⟨b,off,spot⟩ (0 * 13+0))=⟨b,off,spot⟩:=by simp [Addr.add]
  rw [e0] at q;simpa using World.cell?_spot q
 subst hsn;have ea:∀k,(Addr.add ⟨b,off,none⟩ k)=⟨b,off+k,none⟩:=fun k=>by unfold Addr.add;split <;> simp_all
 refine ⟨hok,b,off,rfl,?_,fun j v hv=>?_⟩
 ·rw [ea] at c0;exact World.block_lt_of_cell? _ _ c0
 have:=hcell j v hv;rw [ea] at this;rw [Nat.add_assoc];exact this
end
end
section
open Go.ChangeShapes Go.WideShapes Go.ChangeAt Go.RowKit
theorem lockedF (site n:Int) (ao:Option Addr) (len cap:Nat) (os:List OpR) (w:World) (hk1:-9223372036854775808≤site) (hk2:site≤9223372036854775807) (hn1:-9223372036854775808≤n) (hn2:n≤9223372036854775807)
  (hl:os.length=len) (hlen:len≤9223372036854775807) (hrow:OpsAt w w.heap.size ao os) (hG:Glob w) :
  Calls Tryz.prog 5 #[.int .i64 site,.int .i64 n,.slice ao len cap] w fun e w'=>e = .returned (.bool true)∧Below w.heap.size w w':=by
 subst hl;exact lockedL_any site n w ao cap os hn1 hn2 hk1 hk2 hlen hrow hG
end
end Go.Proofs.YtifcdjmcoibblaaGreatDoor
