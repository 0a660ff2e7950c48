/- Sch -/
import Derived.Test.YtifcdjmcoibblaaGreatDoorLq10
import Derived.StillTailTactics
import Derived.BigQuiet
import Derived.Laws.Rows
import Derived.Deep.RegionHeld3
import Derived.Deep.RegionLaw
import Derived.Test.YtifcdjmcoibblaaGreatDoorLq01
set_option linter.unusedVariables false
set_option linter.unusedSimpArgs false
set_option linter.unusedSectionVars false
set_option maxRecDepth 100000
set_option maxHeartbeats 80000000
namespace Go.Proofs.YtifcdjmcoibblaaGreatDoor
section
open Go.RowKit
def eW (x:Wd):Value:=.int .u32 ((x.toNat:Nat):Int)
def encB (n:Nat):List Value:=[.int .u8 (n:Int)]
def rowW (n:Nat) (l:List Wd):Array Value:=(l.map eW ++ List.replicate (n - l.length) (Value.int .u32 0)).toArray
theorem rowW_size {n:Nat} {l:List Wd} (h:l.length≤n):(rowW n l).size=n:=by unfold rowW;simp;omega
theorem rowW_get {n:Nat} {l:List Wd} {i:Nat} {x:Wd} (h:l[i]?=some x):(rowW n l)[i]?=some (eW x):=by
 have hi:i<l.length:=(List.getElem?_eq_some_iff.1 h).1;unfold rowW;rw [List.getElem?_toArray,List.getElem?_append_left (by simpa using hi),List.getElem?_map,h];rfl
theorem rowW_zero {n:Nat} {l:List Wd} {i:Nat} (h1:l.length≤i) (h:i<n):(rowW n l)[i]?=some (.int .u32 0):=by
 unfold rowW;rw [List.getElem?_toArray,List.getElem?_append_right (by simpa using h1),List.getElem?_replicate,if_pos (by simp;omega)]
theorem rowW_set {n:Nat} {l:List Wd} (h:l.length<n) (x:Wd):(rowW n l).setIfInBounds l.length (eW x)=rowW n (l ++ [x]):=by
 unfold rowW;rw [List.setIfInBounds_toArray];congr 1
 rw [List.set_append_right _ _ (by simp)];have:n - l.length=(n - (l ++ [x]).length)+1:=by simp;omega
 rw [this,List.replicate_succ];simp
theorem rowW_one {n:Nat} {l:List Wd}:(rowW n l).all (·.oneCell')=true:=by
 rw [Array.all_eq_true_iff_forall_mem];intro v hv;unfold rowW at hv;rw [List.mem_toArray] at hv;rcases List.mem_append.1 hv with h | h
 ·obtain ⟨x,_,rfl⟩:=List.mem_map.1 h;rfl
 obtain ⟨_,rfl⟩:=List.mem_replicate.1 h;rfl
theorem rowW_full {l:List Wd}:rowW l.length l=(l.map eW).toArray:=by unfold rowW;simp
theorem RowK.byte {w:World} {ao:Option Addr} {l:List Nat} (h:RowK 1 encB w ao l) {i:Nat} (hi:i<l.length):∃b off,ao=some ⟨b,off,none⟩∧b<w.heap.size∧w.cell? ⟨b,off+i,none⟩=some (.int .u8 ((l.getD i 0:Nat):Int)):=by
 obtain ⟨b,off,e,h1,h2⟩:=h i l[i] (List.getElem?_eq_getElem hi);exact ⟨b,off,e,h1,by have:=h2 0 _ rfl;rw [List.getD_eq_getElem?_getD,List.getElem?_eq_getElem hi];simpa using this⟩
theorem wrap8 {n:Nat} (h:n<256):IntKind.wrap .u32 (n:Int)=((BitVec.ofNat 32 n).toNat:Int):=by
 rw [IntKind.wrap_u32,BitVec.toNat_ofNat];omega
theorem RowN1 {w:World} {g:Nat} {l:List Nat} (h:∀(i x:Nat),l[i]?=some x→w.cell? ⟨g,i,none⟩=some (.int .i64 (x:Int))):RowK 1 encN1 w (some ⟨g,0,none⟩) l:=fun i x hx=>by
 refine ⟨g,0,rfl,World.block_lt_of_cell? _ _ (h i x hx),fun j v hv=>?_⟩;have hj:j=0:=by
  have:=(List.getElem?_eq_some_iff.1 hv).1;simp [encN1] at this;omega
 subst hj;simp [encN1] at hv;subst hv;have:=h i x hx;simpa using this
def mx2 (x:Wd) (a b:Nat):Wd:=rotR x a ^^^ rotR x b
def mx3 (x:Wd) (a b c:Nat):Wd:=rotR x a ^^^ rotR x b ^^^ rotR x c
theorem mixed_two (x:Wd) (a b:Nat) (ha:1≤a∧a≤31) (hb:1≤b∧b≤31) (g cap:Nat) (w:World) (c0:w.cell? ⟨g,0,none⟩=some (.int .i64 (a:Int))) (c1:w.cell? ⟨g,1,none⟩=some (.int .i64 (b:Int))) :
  Calls Tryz.prog 180 #[.int .u32 ((x.toNat:Nat):Int),.slice (some ⟨g,0,none⟩) 2 cap] w fun e w'=>e = .returned (.int .u32 (((mx2 x a b).toNat:Nat):Int))∧w=w':=by
 have:=mixed_any x (some ⟨g,0,none⟩) 2 cap [a,b] w rfl (by omega) (fun n hn=>by simp at hn;rcases hn with rfl | rfl <;> assumption) (RowN1 (fun i y hy=>by
  rcases i with _ | _ | i
  ·simp at hy;subst hy;exact c0
  ·simp at hy;subst hy;exact c1
  simp at hy))
 have e:mixW x [a,b]=mx2 x a b:=by unfold mixW mx2;simp
 rw [e] at this;exact this
theorem mixed_three (x:Wd) (a b c:Nat) (ha:1≤a∧a≤31) (hb:1≤b∧b≤31) (hc:1≤c∧c≤31) (g cap:Nat) (w:World) (c0:w.cell? ⟨g,0,none⟩=some (.int .i64 (a:Int))) (c1:w.cell? ⟨g,1,none⟩=some (.int .i64 (b:Int))) (c2:w.cell? ⟨g,2,none⟩=some (.int .i64 (c:Int))) :
  Calls Tryz.prog 180 #[.int .u32 ((x.toNat:Nat):Int),.slice (some ⟨g,0,none⟩) 3 cap] w fun e w'=>e = .returned (.int .u32 (((mx3 x a b c).toNat:Nat):Int))∧w=w':=by
 have:=mixed_any x (some ⟨g,0,none⟩) 3 cap [a,b,c] w rfl (by omega) (fun n hn=>by simp at hn;rcases hn with rfl | rfl | rfl <;> assumption) (RowN1 (fun i y hy=>by
  rcases i with _ | _ | _ | i
  ·simp at hy;subst hy;exact c0
  ·simp at hy;subst hy;exact c1
  ·simp at hy;subst hy;exact c2
  simp at hy))
 have e:mixW x [a,b,c]=mx3 x a b c:=by unfold mixW mx3;simp
 rw [e] at this;exact this
theorem shl24 (x:Wd):((x.toNat:Nat):Int) * (16777216:Int) % (4294967296:Int)=(((x <<< 24).toNat:Nat):Int):=by have:=wrap_shlW x 24;rw [IntKind.wrap_u32] at this;exact this
theorem shl16 (x:Wd):((x.toNat:Nat):Int) * (65536:Int) % (4294967296:Int)=(((x <<< 16).toNat:Nat):Int):=by have:=wrap_shlW x 16;rw [IntKind.wrap_u32] at this;exact this
theorem shl8 (x:Wd):((x.toNat:Nat):Int) * (256:Int) % (4294967296:Int)=(((x <<< 8).toNat:Nat):Int):=by have:=wrap_shlW x 8;rw [IntKind.wrap_u32] at this;exact this
theorem or4 (x0 x1 x2 x3:Wd):bits BinOp.or IntKind.u32 (bits BinOp.or IntKind.u32 (bits BinOp.or IntKind.u32 (((x0.toNat:Nat):Int) * (16777216:Int) % (4294967296:Int)) (((x1.toNat:Nat):Int) * (65536:Int) % (4294967296:Int))) (((x2.toNat:Nat):Int) * (256:Int) % (4294967296:Int))) ((x3.toNat:Nat):Int)=(((x0 <<< 24 ||| x1 <<< 16 ||| x2 <<< 8 ||| x3).toNat:Nat):Int):=by
 rw [shl24,shl16,shl8,orW,orW,orW]
theorem next4 (x16 x15 x7 x2:Wd):IntKind.u32.wrap (IntKind.u32.wrap (IntKind.u32.wrap (((x16.toNat:Nat):Int)+bits BinOp.xor IntKind.u32 (((mx2 x15 7 18).toNat:Nat):Int) (((x15.toNat:Nat):Int) / (8:Int)))+((x7.toNat:Nat):Int))+bits BinOp.xor IntKind.u32 (((mx2 x2 17 19).toNat:Nat):Int) (((x2.toNat:Nat):Int) / (1024:Int)))=(((x16+ss0 x15+x7+ss1 x2).toNat:Nat):Int):=by
 have h1:((x15.toNat:Nat):Int) / (8:Int)=(((x15 >>> 3).toNat:Nat):Int):=shrW x15 3;have h2:((x2.toNat:Nat):Int) / (1024:Int)=(((x2 >>> 10).toNat:Nat):Int):=shrW x2 10;rw [h1,h2,xorW,xorW,wrap_addW,wrap_addW,wrap_addW];rfl
structure K2 (t:TypeId) (w0:World) (B:Nat) (cur:Array Value) (w':World):Prop where
 blk:w'.heap[B]?=some (.cells cur t (0,0))
 low:Below w0.heap.size w0 w'
 ge:w0.heap.size≤B
theorem K2.lt {t:TypeId} {w0 w':World} {B:Nat} {cur:Array Value} (h:K2 t w0 B cur w'):B<w'.heap.size:=(gE h.blk).1
theorem K2.alloc {t:TypeId} {w0 w':World} {B:Nat} {cur:Array Value} (h:K2 t w0 B cur w') (o:Obj):K2 t w0 B cur (w'.alloc o):=
 ⟨(Below.heap_alloc w' o B h.lt).trans h.blk,h.low.alloc h.low.size o,h.ge⟩
theorem K2.set {t:TypeId} {w0 w':World} {B:Nat} {cur:Array Value} (h:K2 t w0 B cur w') (i:Nat) (v:Value):K2 t w0 B (cur.setIfInBounds i v) (w'.setCell ⟨B,i,none⟩ v):=
 ⟨heap_setCell_same w' B i cur t v h.blk,h.low.setCell h.ge _,h.ge⟩
theorem K2.setRow {t:TypeId} {w0 w':World} {B:Nat} {cur:Array Value} (h:K2 t w0 B cur w') (cs:Array Value):K2 t w0 B cs (w'.setRow B cs):=
 ⟨setRow_heap w' B cur cs t _ h.blk,⟨h.low.os,h.low.tape,h.low.output,by rw [size_setRow];exact h.low.size,fun k hk=>(setRow_other w' B k cs (by have:=h.ge;omega)).trans (h.low.block k hk)⟩,h.ge⟩
theorem K2.drewN {t:TypeId} {w0 w':World} {B:Nat} {cur:Array Value} (h:K2 t w0 B cur w') (n:Nat):K2 t w0 B cur (w'.drewN n):=
 ⟨h.blk,⟨h.low.os,h.low.tape,h.low.output,h.low.size,h.low.block⟩,h.ge⟩
theorem K2.drew {t:TypeId} {w0 w':World} {B:Nat} {cur:Array Value} (h:K2 t w0 B cur w'):K2 t w0 B cur w'.drew:=
 ⟨h.blk,⟨h.low.os,h.low.tape,h.low.output,h.low.size,h.low.block⟩,h.ge⟩
theorem K2.cell {t:TypeId} {w0 w':World} {B:Nat} {cur:Array Value} (h:K2 t w0 B cur w') {i:Nat} {v:Value} (hv:cur[i]?=some v):w'.cell? ⟨B,i,none⟩=some v:=by
 rw [cell_of_row w' B i cur t _ h.blk];exact hv
theorem K2.frz {t:TypeId} {w0 w':World} {B:Nat} {cur:Array Value} (h:K2 t w0 B cur w') (i:Nat):w'.frozen? ⟨B,i,none⟩=false:=frozen_of_row w' B i cur t h.blk
def curB (w:World) (B k:Nat):Value:=(w.cell? ⟨B,k,none⟩).getD undef
theorem K2.cur {t:TypeId} {w0 w':World} {B:Nat} {cur:Array Value} (h:K2 t w0 B cur w') {i:Nat} (hi:i<cur.size):w'.cell? ⟨B,i,none⟩=some (curB w' B i):=by
 have:=h.cell (i:=i) (v:=cur[i]) (by simp [hi]);unfold curB;rw [this];rfl
theorem schedule_any (ao:Option Addr) (cap:Nat) (bs:List Nat) (w:World) (hln:bs.length=64) (hlt:∀n∈bs,n<256) (hrow:RowK 1 encB w ao bs) :
  Calls Tryz.prog 179 #[.slice ao 64 cap] w fun e w'=>e = .returned (.agg (rowW 64 (sched bs 64)))∧Below w.heap.size w w':=by
 have HL:=Hd hln;have HT:=Hd hlt;have HR:=Hd hrow;clear hln hlt hrow;obtain ⟨g,off,rfl,hg,_⟩:=HR.out.byte (i:=0) (by rw [HL.out];omega);go_enter Tryz.func179,Tryz.ntmps179
 go_wp2
 go_loopw [7] (fun i wr=>∃k:Nat,k≤16∧i = .int .i64 (k:Int)∧wr.heap[w.heap.size]?=some (.cells (rowW 64 (sched bs k)) 233 (0,0))∧Below w.heap.size w wr) (fun i _=>16 - (intOf i).toNat)
 case atStart=>exact ⟨0,Nat.zero_le _,rfl,heap_alloc_new w _,(Below.refl _ w).alloc (Nat.le_refl _) _⟩
 case round=>
  obtain ⟨k,hk,rfl,hb,hbl⟩:=hrel;have HB:=Hd hb;have HBL:=Hd hbl;clear hb hbl;have k0:(0:Int)≤(k:Int):=by omega
  by_cases hlt:k<16
  ·have k1:(k:Int)<16:=by omega
   have k64:(k:Int)<64:=by omega
   have hc:∀j,j<4→wr.cell? ⟨g,off+(4 * k+j),none⟩=some (.int .u8 ((bs.getD (4 * k+j) 0:Nat):Int)):=fun j hj=>by
    obtain ⟨g',o',e,h1,h2⟩:=HR.out.byte (i:=4 * k+j) (by rw [HL.out];omega);cases e;rw [HBL.out.cell (p:=⟨g,off+(4 * k+j),none⟩) h1];exact h2
   have hn:∀j,j<4→bs.getD (4 * k+j) 0<256:=fun j hj=>by
    have hj2:4 * k+j<bs.length:=by rw [HL.out];omega
    rw [List.getD_eq_getElem?_getD,List.getElem?_eq_getElem hj2];exact HT.out _ (List.getElem_mem hj2)
   have c0:=hc 0 (by omega);have c1:=hc 1 (by omega);have c2:=hc 2 (by omega);have c3:=hc 3 (by omega);have n0:=hn 0 (by omega);have n1:=hn 1 (by omega);have n2:=hn 2 (by omega);have n3:=hn 3 (by omega);have hlen:(sched bs k).length=k:=sched_len bs k;have SET:=Hd (show (rowW 64 (sched bs k)).setIfInBounds k (eW (wordAt bs k))=rowW 64 (sched bs (k+1)) from by
    have:=rowW_set (n:=64) (l:=sched bs k) (by omega) (wordAt bs k);rw [hlen] at this;rw [this];conv=>rhs;unfold sched
    rw [if_pos hlt])
   have WA:=Hd (show wordAt bs k=(BitVec.ofNat 32 (bs.getD (4 * k+0) 0) <<< 24) ||| (BitVec.ofNat 32 (bs.getD (4 * k+1) 0) <<< 16) ||| (BitVec.ofNat 32 (bs.getD (4 * k+2) 0) <<< 8) ||| BitVec.ofNat 32 (bs.getD (4 * k+3) 0) from rfl);obtain ⟨m0,hm0⟩:∃m,bs.getD (4 * k+0) 0=m:=⟨_,rfl⟩;obtain ⟨m1,hm1⟩:∃m,bs.getD (4 * k+1) 0=m:=⟨_,rfl⟩;obtain ⟨m2,hm2⟩:∃m,bs.getD (4 * k+2) 0=m:=⟨_,rfl⟩;obtain ⟨m3,hm3⟩:∃m,bs.getD (4 * k+3) 0=m:=⟨_,rfl⟩;rw [hm0] at c0 n0 WA;rw [hm1] at c1 n1 WA;rw [hm2] at c2 n2 WA;rw [hm3] at c3 n3 WA;rw [Nat.add_zero] at c0;have cz:=cell_of_row wr w.heap.size k _ _ _ HB.out;have fz:=frozen_of_row wr w.heap.size k _ _ HB.out;rw [rowW_zero (by omega) (by omega)] at cz;clear hc hn hm0 hm1 hm2 hm3 hlen;have b0:(0:Int)≤4 * (k:Int):=by omega
   have b1:(0:Int)≤4 * (k:Int)+1:=by omega
   have b2:(0:Int)≤4 * (k:Int)+2:=by omega
   have b3:(0:Int)≤4 * (k:Int)+3:=by omega
   have l0:4 * (k:Int)<64:=by omega
   have l1:4 * (k:Int)+1<64:=by omega
   have l2:4 * (k:Int)+2<64:=by omega
   have l3:4 * (k:Int)+3<64:=by omega
   have w0:IntKind.i64.wrap (4 * (k:Int))=4 * (k:Int):=by rw [IntKind.wrap_i64];omega
   have w1:IntKind.i64.wrap (4 * (k:Int)+1)=4 * (k:Int)+1:=by rw [IntKind.wrap_i64];omega
   have w2:IntKind.i64.wrap (4 * (k:Int)+2)=4 * (k:Int)+2:=by rw [IntKind.wrap_i64];omega
   have w3:IntKind.i64.wrap (4 * (k:Int)+3)=4 * (k:Int)+3:=by rw [IntKind.wrap_i64];omega
   have t0:(4 * (k:Int)).toNat=4 * k:=by omega
   have t1:(4 * (k:Int)+1).toNat=4 * k+1:=by omega
   have t2:(4 * (k:Int)+2).toNat=4 * k+2:=by omega
   have t3:(4 * (k:Int)+3).toNat=4 * k+3:=by omega
   have e0:=wrap8 n0;have e1:=wrap8 n1;have e2:=wrap8 n2;have e3:=wrap8 n3;obtain ⟨x0,hx0⟩:∃x,BitVec.ofNat 32 m0=x:=⟨_,rfl⟩;obtain ⟨x1,hx1⟩:∃x,BitVec.ofNat 32 m1=x:=⟨_,rfl⟩;obtain ⟨x2,hx2⟩:∃x,BitVec.ofNat 32 m2=x:=⟨_,rfl⟩;obtain ⟨x3,hx3⟩:∃x,BitVec.ofNat 32 m3=x:=⟨_,rfl⟩;rw [hx0] at e0 WA;rw [hx1] at e1 WA;rw [hx2] at e2 WA;rw [hx3] at e3 WA;clear hx0 hx1 hx2 hx3 n0 n1 n2 n3;go_wp2_with fail
   go_still_tail 35,(by kernel_rfl)
   change wpList _ _ _ _ _ wr.drew
   go_wp2_with fail
   refine ⟨⟨k+1,by omega,by go_num,?_,?_⟩,by simp [intOf];omega⟩
   ·rw [or4,←WA.out];have:=heap_setCell_same wr w.heap.size k _ _ (.int .u32 (((wordAt bs k).toNat:Nat):Int)) HB.out;rw [show (rowW 64 (sched bs k)).setIfInBounds k (.int .u32 (((wordAt bs k).toNat:Nat):Int))=_ from SET.out] at this;exact this
   exact (HBL.out.setCell (Nat.le_refl _) _).drew
  have hk16:k=16:=by omega
  have hb16:=HB.out;rw [hk16] at hb16;have HB16:=Hd hb16;have k16:¬(k:Int)<16:=by omega
  obtain ⟨wo,rfl⟩:∃wo:World,wo=wr:=⟨_,rfl⟩;obtain ⟨k',rfl⟩:∃k':Nat,k'=k:=⟨_,rfl⟩;clear hb16 hk16 hlt hk HB;go_wp2_with fail
  go_loopw [4] (fun i wr=>∃k:Nat,16≤k∧k≤64∧i = .int .i64 (k:Int)∧wr.heap[w.heap.size]?=some (.cells (rowW 64 (sched bs k)) 233 (0,0))∧Below w.heap.size w wr) (fun i _=>64 - (intOf i).toNat)
  case atStart=>exact ⟨16,by omega,by omega,rfl,HB16.out,HBL.out⟩
  case round=>
   obtain ⟨k,hk0,hk,rfl,hb,hbl⟩:=hrel;have HB:=Hd hb;have HBL:=Hd hbl;clear hb hbl;have k0:(0:Int)≤(k:Int):=by omega
   by_cases hlt:k<64
   ·have k1:(k:Int)<64:=by omega
    have hlen:(sched bs k).length=k:=sched_len bs k;have hc:∀j,j<k→wr.cell? ⟨w.heap.size,j,none⟩=some (eW ((sched bs k).getD j 0)):=fun j hj=>by
     rw [cell_of_row wr w.heap.size j _ _ _ HB.out,rowW_get (x:=(sched bs k).getD j 0)];rw [List.getD_eq_getElem?_getD,List.getElem?_eq_getElem (by omega)];rfl
    have c15:=hc (k - 15) (by omega);have c2:=hc (k - 2) (by omega);have c16:=hc (k - 16) (by omega);have c7:=hc (k - 7) (by omega);have SET:=Hd (show (rowW 64 (sched bs k)).setIfInBounds k (eW ((sched bs k).getD (k - 16) 0+ss0 ((sched bs k).getD (k - 15) 0)+(sched bs k).getD (k - 7) 0+ss1 ((sched bs k).getD (k - 2) 0)))=rowW 64 (sched bs (k+1)) from by
     have:=rowW_set (n:=64) (l:=sched bs k) (by omega) ((sched bs k).getD (k - 16) 0+ss0 ((sched bs k).getD (k - 15) 0)+(sched bs k).getD (k - 7) 0+ss1 ((sched bs k).getD (k - 2) 0));rw [hlen] at this;rw [this];conv=>rhs;unfold sched
     rw [if_neg (by omega)])
    have cz:=cell_of_row wr w.heap.size k _ _ _ HB.out;have fz:=frozen_of_row wr w.heap.size k _ _ HB.out;rw [rowW_zero (by omega) (by omega)] at cz;obtain ⟨x15,hx15⟩:∃x,(sched bs k).getD (k - 15) 0=x:=⟨_,rfl⟩;obtain ⟨x2,hx2⟩:∃x,(sched bs k).getD (k - 2) 0=x:=⟨_,rfl⟩;obtain ⟨x16,hx16⟩:∃x,(sched bs k).getD (k - 16) 0=x:=⟨_,rfl⟩;obtain ⟨x7,hx7⟩:∃x,(sched bs k).getD (k - 7) 0=x:=⟨_,rfl⟩;rw [hx15] at c15 SET;rw [hx2] at c2 SET;rw [hx16] at c16 SET;rw [hx7] at c7 SET;unfold eW at c15 c2 c16 c7;obtain ⟨j15,hj15⟩:∃j,k=j+15:=⟨k - 15,by omega⟩;have w15:IntKind.i64.wrap ((k:Int) - 15)=(k:Int) - 15:=by rw [IntKind.wrap_i64];omega
    have w2:IntKind.i64.wrap ((k:Int) - 2)=(k:Int) - 2:=by rw [IntKind.wrap_i64];omega
    have w16:IntKind.i64.wrap ((k:Int) - 16)=(k:Int) - 16:=by rw [IntKind.wrap_i64];omega
    have w7:IntKind.i64.wrap ((k:Int) - 7)=(k:Int) - 7:=by rw [IntKind.wrap_i64];omega
    have t15:((k:Int) - 15).toNat=k - 15:=by omega
    have t2:((k:Int) - 2).toNat=k - 2:=by omega
    have t16:((k:Int) - 16).toNat=k - 16:=by omega
    have t7:((k:Int) - 7).toNat=k - 7:=by omega
    have p15:(0:Int)≤(k:Int) - 15:=by omega
    have p2:(0:Int)≤(k:Int) - 2:=by omega
    have p16:(0:Int)≤(k:Int) - 16:=by omega
    have p7:(0:Int)≤(k:Int) - 7:=by omega
    have q15:(k:Int) - 15<64:=by omega
    have q2:(k:Int) - 2<64:=by omega
    have q16:(k:Int) - 16<64:=by omega
    have q7:(k:Int) - 7<64:=by omega
    have g15:(15:Int)≤(k:Int):=by omega
    have g2:(2:Int)≤(k:Int):=by omega
    have g16:(16:Int)≤(k:Int):=by omega
    have g7:(7:Int)≤(k:Int):=by omega
    have hws:w.heap.size<wr.heap.size:=(gE HB.out).1;have K0:=Hd (show ∀n,K2 233 w w.heap.size (rowW 64 (sched bs k)) (wr.drewN n) from fun n=>K2.drewN ⟨HB.out,HBL.out,Nat.le_refl _⟩ n);have g16':=rowW_get (n:=64) (l:=sched bs k) (i:=k - 16) (x:=x16) (by rw [←hx16,List.getD_eq_getElem?_getD,List.getElem?_eq_getElem (by omega)];rfl);have g7':=rowW_get (n:=64) (l:=sched bs k) (i:=k - 7) (x:=x7) (by rw [←hx7,List.getD_eq_getElem?_getD,List.getElem?_eq_getElem (by omega)];rfl);have hsz64:(rowW 64 (sched bs k)).size=64:=rowW_size (by omega);have SK:=Hd (show ∀w' cur,K2 233 w w.heap.size cur w'→cur.size=64→cur[k - 16]?=some (eW x16)→cur[k - 7]?=some (eW x7)→w'.cell? ⟨w.heap.size,k - 16,none⟩=some (.int .u32 ((x16.toNat:Nat):Int))∧w'.cell? ⟨w.heap.size,k - 7,none⟩=some (.int .u32 ((x7.toNat:Nat):Int))∧w'.cell? ⟨w.heap.size,k,none⟩=some (curB w' w.heap.size k)∧w'.frozen? ⟨w.heap.size,k,none⟩=false from
     fun w' cur h h1 h2 h3=>⟨h.cell h2,h.cell h3,h.cur (by omega),h.frz k⟩)
    have SK0:=Hd (fun w' h=>SK.out w' _ h hsz64 g16' g7');have SK1:=Hd (fun w' v h=>SK.out w' ((rowW 64 (sched bs k)).setIfInBounds k v) h (by rw [Array.size_setIfInBounds];exact hsz64) (by rw [Array.getElem?_setIfInBounds_ne (by omega)];exact g16') (by rw [Array.getElem?_setIfInBounds_ne (by omega)];exact g7'));clear g16' g7' hsz64;clear hc hx15 hx2 hx16 hx7 hlen hj15;go_wp2_with fail
    go_quiet (fail)
    go_wp2_with fail
    go_region_held3 (fun w'=>w'.cell? ⟨w.heap.size,k - 16,none⟩=some (.int .u32 ((x16.toNat:Nat):Int))∧w'.cell? ⟨w.heap.size,k - 7,none⟩=some (.int .u32 ((x7.toNat:Nat):Int))∧w'.cell? ⟨w.heap.size,k,none⟩=some (curB w' w.heap.size k)∧w'.frozen? ⟨w.heap.size,k,none⟩=false)
     (first | (exact SK0.out _ (K0.out nq).drew) | (exact SK0.out _ (K0.out _)) | (exact SK0.out _ ((K0.out _).alloc _)) | (exact SK0.out _ (((K0.out _).alloc _).alloc _)) | (exact SK1.out _ _ ((((K0.out _).alloc _).set _ _).alloc _)) | (exact SK1.out _ _ ((((K0.out _).set _ _).alloc _).alloc _)) | (exact SK1.out _ _ ((((K0.out _).alloc _).alloc _).set _ _)))
     (first
      | (go_at_call 180;(with_reducible refine (mixed_two x15 7 18 ?_ ?_ _ _ _ ?_ ?_).mono ?_);omega;omega;(first | (exact cell_box _ _ _ _ _ rfl _ (by simp)) | (exact cell_up (cell_box _ _ _ _ _ rfl _ (by simp)) _));(first | (exact cell_box _ _ _ _ _ rfl _ (by simp)) | (exact cell_up (cell_box _ _ _ _ _ rfl _ (by simp)) _));rintro e w' ⟨rfl,rfl⟩)
      | (go_at_call 180;(with_reducible refine (mixed_two x2 17 19 ?_ ?_ _ _ _ ?_ ?_).mono ?_);omega;omega;(first | (exact cell_box _ _ _ _ _ rfl _ (by simp)) | (exact cell_up (cell_box _ _ _ _ _ rfl _ (by simp)) _));(first | (exact cell_box _ _ _ _ _ rfl _ (by simp)) | (exact cell_up (cell_box _ _ _ _ _ rfl _ (by simp)) _));rintro e w' ⟨rfl,rfl⟩))
    all_goals
     rename_i hS
     clear hS;go_wp2_with fail
     go_roundw
     case rel=>
      have hK:∀v w',K2 233 w w.heap.size ((rowW 64 (sched bs k)).setIfInBounds k v) w'→v=eW (x16+ss0 x15+x7+ss1 x2)→∃k_1:Nat,16≤k_1∧k_1≤64∧Value.int .i64 ((k:Int)+1) = .int .i64 (k_1:Int)∧w'.heap[w.heap.size]?=some (.cells (rowW 64 (sched bs k_1)) 233 (0,0))∧Below w.heap.size w w':=fun v w' h e=>⟨k+1,by omega,by omega,by go_num,by have:=h.blk;rw [e,SET.out] at this;exact this,h.low⟩;refine hK _ _ ((((K0.out _).alloc _).set _ _).alloc _) ?_;have q:=next4 x16 x15 x7 x2;simp only [IntKind.wrap_u32] at q;unfold eW;rw [←q]
     case measure=>simp [intOf];omega
   have hk64:k=64:=by omega
   subst hk64;have HI:(Tryz.prog.info? 233).map (·.size)=some (rowW 64 (sched bs 64)).size:=by rw [rowW_size (by rw [sched_len];omega)];kernel_rfl
   have HIN:=Hd HI;have K3:=Hd ((show K2 233 w w.heap.size (rowW 64 (sched bs 64)) wr from ⟨HB.out,HBL.out,Nat.le_refl _⟩).setRow (rowW 64 (sched bs 64)));clear HI k0 hk hk0;go_wp2_with (first
    | (refine wpList_load_row rfl 233 (.tmp 2) rfl w.heap.size rfl 233 (rowW 64 (sched bs 64)) (0,0) _ HB.out Tryz.underlying233 rfl HIN.out ?_)
    | (refine wpList_store_row rfl 233 (.tmp 2) (.tmp 83) rfl w.heap.size (rowW 64 (sched bs 64)) rfl rfl 233 (rowW 64 (sched bs 64)) HB.out HIN.out rfl rowW_one ?_))
   exact bodyPost_ret (v:=.agg (rowW 64 (sched bs 64))) (results_cell_row rfl _ _ w.heap.size 233 _ (0,0) _ rfl K3.out.blk Tryz.underlying233 rfl HIN.out) rfl ⟨rfl,K3.out.low⟩
end
end Go.Proofs.YtifcdjmcoibblaaGreatDoor
