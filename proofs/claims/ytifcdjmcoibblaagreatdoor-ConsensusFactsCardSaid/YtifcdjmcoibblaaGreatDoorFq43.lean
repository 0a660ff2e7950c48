/- OpnK -/
import Derived.Test.YtifcdjmcoibblaaGreatDoorFq42
import Derived.WalkKit
import Derived.ProofKit
import Derived.OpenShut
import Derived.Deep.Slices
import Derived.ChangeArms
import Derived.DataReads
import Derived.ChangeSlices
import Derived.ChangeSame
set_option linter.unusedVariables false
set_option linter.unusedSimpArgs false
set_option linter.unusedSectionVars false
set_option maxRecDepth 100000
set_option maxHeartbeats 80000000
namespace Go.Proofs.YtifcdjmcoibblaaGreatDoor
section
namespace Fk
open Go.ChangeShapes Go.WideShapes Go.ChangeAt Go.RowKit
theorem eighteen {cs:List Value} (h:cs.length=18):∃c0 c1 c2 c3 c4 c5 c6 c7 c8 c9 c10 c11 c12 c13 c14 c15 c16 c17:Value,cs = [c0,c1,c2,c3,c4,c5,c6,c7,c8,c9,c10,c11,c12,c13,c14,c15,c16,c17]:=by
 match cs,h with
 | [c0,c1,c2,c3,c4,c5,c6,c7,c8,c9,c10,c11,c12,c13,c14,c15,c16,c17],_=>exact ⟨c0,c1,c2,c3,c4,c5,c6,c7,c8,c9,c10,c11,c12,c13,c14,c15,c16,c17,rfl⟩
section
variable {H:Type} {enc:TypeId×Value→H} {W:World} {base:Nat} {sp:Nat→Bool} {held:Bool}
theorem fact_in {fuel:Nat} {cs:List Value} {x:DataW H×List MemPlace} (h:DataW.trod enc Tryz.prog W base sp held fuel 71 cs=some x):∃f:PF,cs=encP f:=by
 obtain ⟨xs,n',_,_,hlen,hxs,hfld⟩:=DataW.trod_struct Tryz.underlying71 h;have hc18:Tryz.prog.cellsOf 71=18:=by kernel_rfl
 have ci:Tryz.prog.cellsOf 3=1:=by kernel_rfl
 have cs1:Tryz.prog.cellsOf 9=1:=by kernel_rfl
 rw [hc18] at hlen;obtain ⟨c0,c1,c2,c3,c4,c5,c6,c7,c8,c9,c10,c11,c12,c13,c14,c15,c16,c17,rfl⟩:=eighteen hlen;have x18:xs.length=18:=hxs;have g0:DataW.trod enc Tryz.prog W base sp held n' 3 ((List.drop 0 [c0,c1,c2,c3,c4,c5,c6,c7,c8,c9,c10,c11,c12,c13,c14,c15,c16,c17]).take (Tryz.prog.cellsOf 3))=xs[0]?:=hfld 0 _ rfl;rw [List.getElem?_eq_getElem (by omega),ci] at g0;have g1:DataW.trod enc Tryz.prog W base sp held n' 3 ((List.drop 1 [c0,c1,c2,c3,c4,c5,c6,c7,c8,c9,c10,c11,c12,c13,c14,c15,c16,c17]).take (Tryz.prog.cellsOf 3))=xs[1]?:=hfld 1 _ rfl;rw [List.getElem?_eq_getElem (by omega),ci] at g1;have g2:DataW.trod enc Tryz.prog W base sp held n' 3 ((List.drop 2 [c0,c1,c2,c3,c4,c5,c6,c7,c8,c9,c10,c11,c12,c13,c14,c15,c16,c17]).take (Tryz.prog.cellsOf 3))=xs[2]?:=hfld 2 _ rfl;rw [List.getElem?_eq_getElem (by omega),ci] at g2;have g3:DataW.trod enc Tryz.prog W base sp held n' 3 ((List.drop 3 [c0,c1,c2,c3,c4,c5,c6,c7,c8,c9,c10,c11,c12,c13,c14,c15,c16,c17]).take (Tryz.prog.cellsOf 3))=xs[3]?:=hfld 3 _ rfl;rw [List.getElem?_eq_getElem (by omega),ci] at g3;have g4:DataW.trod enc Tryz.prog W base sp held n' 3 ((List.drop 4 [c0,c1,c2,c3,c4,c5,c6,c7,c8,c9,c10,c11,c12,c13,c14,c15,c16,c17]).take (Tryz.prog.cellsOf 3))=xs[4]?:=hfld 4 _ rfl;rw [List.getElem?_eq_getElem (by omega),ci] at g4;have g5:DataW.trod enc Tryz.prog W base sp held n' 3 ((List.drop 5 [c0,c1,c2,c3,c4,c5,c6,c7,c8,c9,c10,c11,c12,c13,c14,c15,c16,c17]).take (Tryz.prog.cellsOf 3))=xs[5]?:=hfld 5 _ rfl;rw [List.getElem?_eq_getElem (by omega),ci] at g5;have g6:DataW.trod enc Tryz.prog W base sp held n' 3 ((List.drop 6 [c0,c1,c2,c3,c4,c5,c6,c7,c8,c9,c10,c11,c12,c13,c14,c15,c16,c17]).take (Tryz.prog.cellsOf 3))=xs[6]?:=hfld 6 _ rfl;rw [List.getElem?_eq_getElem (by omega),ci] at g6;have g7:DataW.trod enc Tryz.prog W base sp held n' 3 ((List.drop 7 [c0,c1,c2,c3,c4,c5,c6,c7,c8,c9,c10,c11,c12,c13,c14,c15,c16,c17]).take (Tryz.prog.cellsOf 3))=xs[7]?:=hfld 7 _ rfl;rw [List.getElem?_eq_getElem (by omega),ci] at g7;have g8:DataW.trod enc Tryz.prog W base sp held n' 3 ((List.drop 8 [c0,c1,c2,c3,c4,c5,c6,c7,c8,c9,c10,c11,c12,c13,c14,c15,c16,c17]).take (Tryz.prog.cellsOf 3))=xs[8]?:=hfld 8 _ rfl;rw [List.getElem?_eq_getElem (by omega),ci] at g8;have g9:DataW.trod enc Tryz.prog W base sp held n' 3 ((List.drop 9 [c0,c1,c2,c3,c4,c5,c6,c7,c8,c9,c10,c11,c12,c13,c14,c15,c16,c17]).take (Tryz.prog.cellsOf 3))=xs[9]?:=hfld 9 _ rfl;rw [List.getElem?_eq_getElem (by omega),ci] at g9;have g10:DataW.trod enc Tryz.prog W base sp held n' 3 ((List.drop 10 [c0,c1,c2,c3,c4,c5,c6,c7,c8,c9,c10,c11,c12,c13,c14,c15,c16,c17]).take (Tryz.prog.cellsOf 3))=xs[10]?:=hfld 10 _ rfl;rw [List.getElem?_eq_getElem (by omega),ci] at g10;have g11:DataW.trod enc Tryz.prog W base sp held n' 3 ((List.drop 11 [c0,c1,c2,c3,c4,c5,c6,c7,c8,c9,c10,c11,c12,c13,c14,c15,c16,c17]).take (Tryz.prog.cellsOf 3))=xs[11]?:=hfld 11 _ rfl;rw [List.getElem?_eq_getElem (by omega),ci] at g11;have g12:DataW.trod enc Tryz.prog W base sp held n' 3 ((List.drop 12 [c0,c1,c2,c3,c4,c5,c6,c7,c8,c9,c10,c11,c12,c13,c14,c15,c16,c17]).take (Tryz.prog.cellsOf 3))=xs[12]?:=hfld 12 _ rfl;rw [List.getElem?_eq_getElem (by omega),ci] at g12;have g13:DataW.trod enc Tryz.prog W base sp held n' 3 ((List.drop 13 [c0,c1,c2,c3,c4,c5,c6,c7,c8,c9,c10,c11,c12,c13,c14,c15,c16,c17]).take (Tryz.prog.cellsOf 3))=xs[13]?:=hfld 13 _ rfl;rw [List.getElem?_eq_getElem (by omega),ci] at g13;have g14:DataW.trod enc Tryz.prog W base sp held n' 3 ((List.drop 14 [c0,c1,c2,c3,c4,c5,c6,c7,c8,c9,c10,c11,c12,c13,c14,c15,c16,c17]).take (Tryz.prog.cellsOf 3))=xs[14]?:=hfld 14 _ rfl;rw [List.getElem?_eq_getElem (by omega),ci] at g14;have g15:DataW.trod enc Tryz.prog W base sp held n' 3 ((List.drop 15 [c0,c1,c2,c3,c4,c5,c6,c7,c8,c9,c10,c11,c12,c13,c14,c15,c16,c17]).take (Tryz.prog.cellsOf 3))=xs[15]?:=hfld 15 _ rfl;rw [List.getElem?_eq_getElem (by omega),ci] at g15;have g16:DataW.trod enc Tryz.prog W base sp held n' 3 ((List.drop 16 [c0,c1,c2,c3,c4,c5,c6,c7,c8,c9,c10,c11,c12,c13,c14,c15,c16,c17]).take (Tryz.prog.cellsOf 3))=xs[16]?:=hfld 16 _ rfl;rw [List.getElem?_eq_getElem (by omega),ci] at g16;have g17:DataW.trod enc Tryz.prog W base sp held n' 9 ((List.drop 17 [c0,c1,c2,c3,c4,c5,c6,c7,c8,c9,c10,c11,c12,c13,c14,c15,c16,c17]).take (Tryz.prog.cellsOf 9))=xs[17]?:=hfld 17 _ rfl;rw [List.getElem?_eq_getElem (by omega),cs1] at g17;obtain ⟨z0,e0,_,_⟩:=DataW.trod_int Tryz.underlying3 g0;simp at e0;subst e0;obtain ⟨z1,e1,_,_⟩:=DataW.trod_int Tryz.underlying3 g1;simp at e1;subst e1;obtain ⟨z2,e2,_,_⟩:=DataW.trod_int Tryz.underlying3 g2;simp at e2;subst e2;obtain ⟨z3,e3,_,_⟩:=DataW.trod_int Tryz.underlying3 g3;simp at e3;subst e3;obtain ⟨z4,e4,_,_⟩:=DataW.trod_int Tryz.underlying3 g4;simp at e4;subst e4;obtain ⟨z5,e5,_,_⟩:=DataW.trod_int Tryz.underlying3 g5;simp at e5;subst e5;obtain ⟨z6,e6,_,_⟩:=DataW.trod_int Tryz.underlying3 g6;simp at e6;subst e6;obtain ⟨z7,e7,_,_⟩:=DataW.trod_int Tryz.underlying3 g7;simp at e7;subst e7;obtain ⟨z8,e8,_,_⟩:=DataW.trod_int Tryz.underlying3 g8;simp at e8;subst e8;obtain ⟨z9,e9,_,_⟩:=DataW.trod_int Tryz.underlying3 g9;simp at e9;subst e9;obtain ⟨z10,e10,_,_⟩:=DataW.trod_int Tryz.underlying3 g10;simp at e10;subst e10;obtain ⟨z11,e11,_,_⟩:=DataW.trod_int Tryz.underlying3 g11;simp at e11;subst e11;obtain ⟨z12,e12,_,_⟩:=DataW.trod_int Tryz.underlying3 g12;simp at e12;subst e12;obtain ⟨z13,e13,_,_⟩:=DataW.trod_int Tryz.underlying3 g13;simp at e13;subst e13;obtain ⟨z14,e14,_,_⟩:=DataW.trod_int Tryz.underlying3 g14;simp at e14;subst e14;obtain ⟨z15,e15,_,_⟩:=DataW.trod_int Tryz.underlying3 g15;simp at e15;subst e15;obtain ⟨z16,e16,_,_⟩:=DataW.trod_int Tryz.underlying3 g16;simp at e16;subst e16;obtain ⟨z17,e17,_,_⟩:=DataW.trod_string Tryz.underlying9 g17;simp at e17;subst e17;exact ⟨⟨fun i=>match i with | 0=>z0 | 1=>z1 | 2=>z2 | 3=>z3 | 4=>z4 | 5=>z5 | 6=>z6 | 7=>z7 | 8=>z8 | 9=>z9 | 10=>z10 | 11=>z11 | 12=>z12 | 13=>z13 | 14=>z14 | 15=>z15 | _=>z16,z17⟩,rfl⟩
theorem facts_open {a:Option Addr} {len cap:Nat} {d:DataW H} {p:List MemPlace} (h:DataW.Trod enc Tryz.prog W base sp held 67 (.slice a len cap) d p) :
  ∃L:List PF,L.length=len∧len≤9223372036854775807∧RowK 18 encP W a L:=by
 obtain ⟨fuel,h⟩:=h;rcases Go.Deep.open_slice Tryz.underlying67 h with ⟨hcs,_⟩ | ⟨x,l,c,m,n,D,Pl,hcs,_,hl,hm,hmm,_,hi⟩
 ·simp [Value.cells] at hcs;obtain ⟨rfl,rfl,rfl⟩:=hcs;exact ⟨[],rfl,by omega,RowK.nil _ _ _ _⟩
 simp [Value.cells] at hcs;obtain ⟨rfl,rfl,rfl⟩:=hcs;have hc18:Tryz.prog.cellsOf 71=18:=by kernel_rfl
 have hch:∀i,∃f:PF,i<len→∀j v,(encP f)[j]?=some v→W.cell? (x.add (i * 18+j))=some v:=fun i=>by
  by_cases hil:i<len
  ·have him:i<m:=by rw [hmm];split <;> omega
   obtain ⟨cs,h1,h2⟩:=hi i him;rw [hc18] at h1;obtain ⟨_,hlen,hcell⟩:=World.cells?_some h1;obtain ⟨f,hs⟩:=fact_in h2;refine ⟨f,fun _ j v hv=>?_⟩;have hj:j<18:=by have:=(List.getElem?_eq_some_iff.1 hv).1;simpa [encP] using this
   have e1:x.add (i * 18+j)=(x.add (i * 18)).add j:=by
    unfold Addr.add;by_cases c1:i * 18=0 <;> by_cases c2:j=0 <;> simp [c1,c2,Nat.add_assoc]
   rw [e1,hcell j hj,hs];exact hv
  exact ⟨⟨fun _=>0,⟨#[]⟩⟩,fun h=>absurd h hil⟩
 refine ⟨(List.range len).map fun i=>(hch i).choose,by simp,by unfold maxLen at hm;omega,fun i f hf=>?_⟩;have hil:i<len:=by have:=(List.getElem?_eq_some_iff.1 hf).1;simpa using this
 have es:f=(hch i).choose:=by
  rw [List.getElem?_map,List.getElem?_range hil,Option.map_some] at hf;exact (Option.some.inj hf).symm
 subst es;have hcell:=(hch i).choose_spec hil;have c0:=hcell 0 _ rfl;obtain ⟨b,off,spot⟩:=x;have hsn:spot=none:=by
  have q:=(hch 0).choose_spec (by omega) 0 _ rfl;have e0:(Addr.add ⟨b,off,spot⟩ (0 * 18+0))=⟨b,off,spot⟩:=by simp [Addr.add]
  rw [e0] at q;simpa using World.cell?_spot q
 subst hsn;have ea:∀k,(Addr.add ⟨b,off,none⟩ k)=⟨b,off+k,none⟩:=fun k=>by unfold Addr.add;split <;> simp_all
 refine ⟨b,off,rfl,?_,fun j v hv=>?_⟩
 ·rw [ea] at c0;exact World.block_lt_of_cell? _ _ c0
 have:=hcell j v hv;rw [ea] at this;rw [Nat.add_assoc];exact this
theorem ints_open {a:Option Addr} {len cap:Nat} {d:DataW H} {p:List MemPlace} (h:DataW.Trod enc Tryz.prog W base sp held 47 (.slice a len cap) d p) :
  ∃rs:List Int,rs.length=len∧(∀z∈rs,-9223372036854775808≤z∧z≤9223372036854775807)∧len≤9223372036854775807∧RowK 1 encZ W a rs:=by
 obtain ⟨fuel,hf⟩:=h;rcases open_ints Tryz.underlying47 Tryz.underlying3 (by kernel_rfl) hf with ⟨hcs,_⟩ | ⟨x,l,c,zs,hcs,_,hl,hm,hz,_,hc,hw⟩
 ·simp [Value.cells] at hcs;obtain ⟨rfl,rfl,rfl⟩:=hcs;exact ⟨[],rfl,fun z hz=>(by cases hz),by omega,fun j z hz=>(by simp at hz)⟩
 simp [Value.cells] at hcs;obtain ⟨rfl,rfl,rfl⟩:=hcs;have hzl:len≤zs.length:=by rw [hz];split <;> omega
 refine ⟨zs.take len,by rw [List.length_take];omega,fun z hz'=>bounds_i64 (hw z (List.mem_of_mem_take hz')),by unfold maxLen at hm;omega,fun i z hz'=>?_⟩;have hi:i<len:=by have:=(List.getElem?_eq_some_iff.1 hz').1;rw [List.length_take] at this;omega
 have c0:=hc i (by omega);obtain ⟨b,off,spot⟩:=x;have hs:spot=none:=by
  have c1:=hc 0 (by omega);have e0:(Addr.add ⟨b,off,spot⟩ 0)=⟨b,off,spot⟩:=by simp [Addr.add]
  rw [e0] at c1;simpa using World.cell?_spot c1
 subst hs;have e1:(Addr.add ⟨b,off,none⟩ i)=⟨b,off+i,none⟩:=by unfold Addr.add;split <;> simp_all
 rw [e1] at c0;refine ⟨b,off,rfl,World.block_lt_of_cell? _ _ c0,fun j v hj=>?_⟩;have hj0:j=0:=by have:=(List.getElem?_eq_some_iff.1 hj).1;simp [encZ] at this;omega
 subst hj0;have hv:v = .int .i64 z:=by simpa [encZ] using hj.symm
 rw [hv,Nat.mul_one,Nat.add_zero,c0];rw [List.getElem?_take_of_lt hi] at hz';simp [List.getD_eq_getElem?_getD,hz']
end
theorem factsF (n:Int) (ao:Option Addr) (ln cap:Nat) (L:List PF) (bo:Option Addr) (hn hcap:Nat) (hs:List Int) (w:World) (hn1:-9223372036854775808≤n) (hn2:n≤9223372036854775807)
  (hl:L.length=ln) (hz:ln≤9223372036854775807) (hr:RowK 18 encP w ao L) (hl2:hs.length=hn) (hz2:∀z∈hs,-9223372036854775808≤z∧z≤9223372036854775807) (hs2:hn≤9223372036854775807) (hr2:RowK 1 encZ w bo hs) (hG:Glob w) :
  Calls Tryz.prog 8 #[.int .i64 n,.slice ao ln cap,.slice bo hn hcap] w fun e w'=>e = .returned (.bool true)∧Below w.heap.size w w':=facts_any n L hs ao bo ln cap hn hcap w hn1 hn2 hl hr hl2 hr2 hz2 hG
end Fk
end
end Go.Proofs.YtifcdjmcoibblaaGreatDoor
