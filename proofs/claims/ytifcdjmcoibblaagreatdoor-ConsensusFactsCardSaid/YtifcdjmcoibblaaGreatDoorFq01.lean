/- Sha Rot Ali Row Mix Sch -/
import Derived.WalkKit
import Derived.Laws.BitsLemmas
import Derived.Test.YtifcdjmcoibblaaGreatDoorProg
import Derived.Lib.Hide
import Derived.BigQuiet
import Derived.OwnWalk
import Derived.Laws.AppendOwnNone
import Derived.Maps.AppendAt
import Derived.WalkLawsBesides
import Derived.WalkSpells
import Derived.StillTailTactics
import Derived.Laws.Rows
import Derived.Deep.RegionHeld3
import Derived.Deep.RegionLaw
set_option linter.unusedVariables false
set_option linter.unusedSimpArgs false
set_option linter.unusedSectionVars false
set_option maxRecDepth 100000
set_option maxHeartbeats 80000000
namespace Go.Proofs.YtifcdjmcoibblaaGreatDoor
abbrev Wd:=BitVec 32
def rotR (x:Wd) (n:Nat):Wd:=(x >>> n) ||| (x <<< (32 - n))
def ss0 (x:Wd):Wd:=rotR x 7 ^^^ rotR x 18 ^^^ (x >>> 3)
def ss1 (x:Wd):Wd:=rotR x 17 ^^^ rotR x 19 ^^^ (x >>> 10)
def bs1 (e:Wd):Wd:=rotR e 6 ^^^ rotR e 11 ^^^ rotR e 25
def bs0 (a:Wd):Wd:=rotR a 2 ^^^ rotR a 13 ^^^ rotR a 22
def chW (e f g:Wd):Wd:=(e &&& f) ^^^ (~~~e &&& g)
def majW (a b c:Wd):Wd:=(a &&& b) ^^^ (a &&& c) ^^^ (b &&& c)
def kW:List Wd:=[
 0x428a2f98,0x71374491,0xb5c0fbcf,0xe9b5dba5,0x3956c25b,0x59f111f1,0x923f82a4,0xab1c5ed5,
 0xd807aa98,0x12835b01,0x243185be,0x550c7dc3,0x72be5d74,0x80deb1fe,0x9bdc06a7,0xc19bf174,
 0xe49b69c1,0xefbe4786,0x0fc19dc6,0x240ca1cc,0x2de92c6f,0x4a7484aa,0x5cb0a9dc,0x76f988da,
 0x983e5152,0xa831c66d,0xb00327c8,0xbf597fc7,0xc6e00bf3,0xd5a79147,0x06ca6351,0x14292967,
 0x27b70a85,0x2e1b2138,0x4d2c6dfc,0x53380d13,0x650a7354,0x766a0abb,0x81c2c92e,0x92722c85,
 0xa2bfe8a1,0xa81a664b,0xc24b8b70,0xc76c51a3,0xd192e819,0xd6990624,0xf40e3585,0x106aa070,
 0x19a4c116,0x1e376c08,0x2748774c,0x34b0bcb5,0x391c0cb3,0x4ed8aa4a,0x5b9cca4f,0x682e6ff3,
 0x748f82ee,0x78a5636f,0x84c87814,0x8cc70208,0x90befffa,0xa4506ceb,0xbef9a3f7,0xc67178f2]
def h0W:List Wd:=[0x6a09e667,0xbb67ae85,0x3c6ef372,0xa54ff53a,0x510e527f,0x9b05688c,0x1f83d9ab,0x5be0cd19]
def wordAt (b:List Nat) (i:Nat):Wd:=
 (BitVec.ofNat 32 (b.getD (4 * i) 0) <<< 24) ||| (BitVec.ofNat 32 (b.getD (4 * i+1) 0) <<< 16) ||| (BitVec.ofNat 32 (b.getD (4 * i+2) 0) <<< 8) ||| BitVec.ofNat 32 (b.getD (4 * i+3) 0)
def sched (b:List Nat):Nat→List Wd
 | 0=>[]
 | i+1=>
  let w:=sched b i
  if i<16 then w ++ [wordAt b i]
  else w ++ [w.getD (i - 16) 0+ss0 (w.getD (i - 15) 0)+w.getD (i - 7) 0+ss1 (w.getD (i - 2) 0)]
def roundW (v:List Wd) (k w:Wd):List Wd:=
 let t:=v.getD 7 0+bs1 (v.getD 4 0)+chW (v.getD 4 0) (v.getD 5 0) (v.getD 6 0)+k+w
 let u:=bs0 (v.getD 0 0)+majW (v.getD 0 0) (v.getD 1 0) (v.getD 2 0)
 [t+u,v.getD 0 0,v.getD 1 0,v.getD 2 0,v.getD 3 0+t,v.getD 4 0,v.getD 5 0,v.getD 6 0]
def roundsW (ws:List Wd) (v:List Wd):Nat→List Wd
 | 0=>v
 | i+1=>roundW (roundsW ws v i) (kW.getD i 0) (ws.getD i 0)
def blockW (h:List Wd) (b:List Nat):List Wd:=
 let v:=roundsW (sched b 64) h 64
 (List.range 8).map fun i=>h.getD i 0+v.getD i 0
def padW (n:Nat):List Nat:=
 128 :: (List.replicate ((119 - n % 64) % 64) 0 ++ (List.range 8).map fun i=>(8 * n / 2 ^ (8 * (7 - i))) % 256)
def chunksW (h:List Wd):Nat→List Nat→List Wd
 | 0,_=>h
 | k+1,b=>chunksW (blockW h (b.take 64)) k (b.drop 64)
def wordBytes (x:Wd):List Nat:=[(x >>> 24).toNat % 256,(x >>> 16).toNat % 256,(x >>> 8).toNat % 256,x.toNat % 256]
def shaW (s:List Nat):List Nat:=
 let b:=s ++ padW s.length
 (chunksW h0W (b.length / 64) b).flatMap wordBytes
theorem sha_abc:shaW [97,98,99] = [0xba,0x78,0x16,0xbf,0x8f,0x01,0xcf,0xea,0x41,0x41,0x40,0xde,0x5d,0xae,0x22,0x23,0xb0,0x03,0x61,0xa3,0x96,0x17,0x7a,0x9c,0xb4,0x10,0xff,0x61,0xf2,0x00,0x15,0xad]:=by kernel_rfl
theorem sched_len (b:List Nat):∀n,(sched b n).length=n
 | 0=>rfl
 | i+1=>by
  unfold sched;split <;> simp [sched_len b i]
theorem sched_get (b:List Nat) {i n m:Nat} (hi:i<n) (hm:n≤m):(sched b m)[i]?=(sched b n)[i]?:=by
 induction m with
 | zero=>omega
 | succ k ih=>
  rcases Nat.lt_or_ge k n with q | q
  ·have:n=k+1:=by omega
   subst this;rfl
  rw [←ih q];show (if k<16 then sched b k ++ [wordAt b k] else sched b k ++ [(sched b k).getD (k - 16) 0+ss0 ((sched b k).getD (k - 15) 0)+(sched b k).getD (k - 7) 0+ss1 ((sched b k).getD (k - 2) 0)])[i]?=_;split <;> rw [List.getElem?_append_left (by rw [sched_len];omega)]
theorem roundW_len (v:List Wd) (k w:Wd):(roundW v k w).length=8:=rfl
theorem roundsW_len (ws v:List Wd) (hv:v.length=8):∀n,(roundsW ws v n).length=8
 | 0=>hv
 | n+1=>roundW_len _ _ _
theorem blockW_len (h:List Wd) (b:List Nat):(blockW h b).length=8:=by unfold blockW;simp
theorem chunksW_len:∀(k:Nat) (h:List Wd) (b:List Nat),h.length=8→(chunksW h k b).length=8
 | 0,h,b,hh=>hh
 | k+1,h,b,_=>chunksW_len k _ _ (blockW_len h _)
theorem flat_four (l:List Wd):(l.flatMap wordBytes).length=4 * l.length:=by
 induction l with
 | nil=>rfl
 | cons x t ih=>rw [List.flatMap_cons,List.length_append,ih,List.length_cons];simp [wordBytes];omega
theorem sha_len (s:List Nat):(shaW s).length=32:=by
 unfold shaW;rw [flat_four,chunksW_len _ _ _ rfl]
theorem pad_len (n:Nat):(n+(padW n).length) % 64=0:=by
 unfold padW;simp;omega
theorem wordBytes_lt (x:Wd):∀n∈wordBytes x,n<256:=by
 intro n hn;simp [wordBytes] at hn;omega
theorem sha_lt (s:List Nat):∀n∈shaW s,n<256:=by
 intro n hn;unfold shaW at hn;obtain ⟨x,_,h⟩:=List.mem_flatMap.1 hn;exact wordBytes_lt x n h
def idW (c:Nat):List Nat:=c :: List.replicate 31 0
def lists4:List (List (List Nat)):=[[idW 1],[idW 1,idW 2],[idW 3],[idW 9]]
def valW (l:List (List Nat)):List Nat:=(2 * l.length) :: l.flatten
def digW (k:Nat):List Nat:=shaW (valW (lists4.getD k []))
theorem digW_ne:(digW 0≠digW 1∧digW 0≠digW 2∧digW 0≠digW 3)∧(digW 1≠digW 2∧digW 1≠digW 3)∧digW 2≠digW 3:=by decide +kernel
theorem ofInt_w (x:Wd):BitVec.ofInt 32 ((x.toNat:Nat):Int)=x:=by
 apply BitVec.eq_of_toNat_eq;simp
theorem wrap_w (x:Wd):IntKind.wrap .u32 ((x.toNat:Nat):Int)=((x.toNat:Nat):Int):=by
 rw [IntKind.wrap_u32];have:=x.isLt;omega
theorem wrap_addW (x y:Wd):IntKind.wrap .u32 (((x.toNat:Nat):Int)+((y.toNat:Nat):Int))=(((x+y).toNat:Nat):Int):=by
 rw [IntKind.wrap_u32,BitVec.toNat_add];omega
theorem wrap_shlW (x:Wd) (n:Nat):IntKind.wrap .u32 (((x.toNat:Nat):Int) * 2 ^ n)=(((x <<< n).toNat:Nat):Int):=by
 rw [IntKind.wrap_u32,BitVec.toNat_shiftLeft,Nat.shiftLeft_eq];rw [Int.natCast_emod,Int.natCast_mul,Int.natCast_pow];rfl
theorem shrW (x:Wd) (n:Nat):((x.toNat:Nat):Int) / 2 ^ n=(((x >>> n).toNat:Nat):Int):=by
 rw [BitVec.toNat_ushiftRight,Nat.shiftRight_eq_div_pow,Int.natCast_ediv,Int.natCast_pow];rfl
theorem orW (x y:Wd):bits BinOp.or IntKind.u32 ((x.toNat:Nat):Int) ((y.toNat:Nat):Int)=(((x ||| y).toNat:Nat):Int):=by
 show IntKind.wrap .u32 (((BitVec.ofInt 32 ((x.toNat:Nat):Int) ||| BitVec.ofInt 32 ((y.toNat:Nat):Int)).toNat:Nat):Int)=_;rw [ofInt_w,ofInt_w,wrap_w]
theorem xorW (x y:Wd):bits BinOp.xor IntKind.u32 ((x.toNat:Nat):Int) ((y.toNat:Nat):Int)=(((x ^^^ y).toNat:Nat):Int):=by
 show IntKind.wrap .u32 (((BitVec.ofInt 32 ((x.toNat:Nat):Int) ^^^ BitVec.ofInt 32 ((y.toNat:Nat):Int)).toNat:Nat):Int)=_;rw [ofInt_w,ofInt_w,wrap_w]
theorem andW (x y:Wd):bits BinOp.and IntKind.u32 ((x.toNat:Nat):Int) ((y.toNat:Nat):Int)=(((x &&& y).toNat:Nat):Int):=by
 show IntKind.wrap .u32 (((BitVec.ofInt 32 ((x.toNat:Nat):Int) &&& BitVec.ofInt 32 ((y.toNat:Nat):Int)).toNat:Nat):Int)=_;rw [ofInt_w,ofInt_w,wrap_w]
theorem rotated_any (x:Wd) (n:Nat) (h1:1≤n) (h31:n≤31) (w:World):Calls Tryz.prog 182 #[.int .u32 ((x.toNat:Nat):Int),.int .i64 (n:Int)] w fun e w'=>e = .returned (.int .u32 (((rotR x n).toNat:Nat):Int))∧w'=w.drew:=by
 go_enter Tryz.func182,Tryz.ntmps182
 have n0:(0:Int)≤(n:Int):=by omega
 have nn:¬(n:Int)<0:=by omega
 have m0:¬(32:Int) - (n:Int)<0:=by omega
 have e1:(32:Int) - (n:Int)=((32 - n:Nat):Int):=by omega
 go_wp2
 go_region
 go_wp2
 go_ret;refine ⟨?_,rfl⟩;have h2:((x.toNat:Nat):Int) * 2 ^ (32 - n) % 4294967296=(((x <<< (32 - n)).toNat:Nat):Int):=by rw [←wrap_shlW,IntKind.wrap_u32]
 rw [shrW,h2,orW];rfl
theorem and31 (n:Nat) (h1:1≤n) (h31:n≤31):bits BinOp.and IntKind.u64 (IntKind.u64.wrap (-(n:Int))) 31=((32 - n:Nat):Int):=by
 have h:∀k:Fin 31,bits BinOp.and IntKind.u64 (IntKind.u64.wrap (-((k.val+1:Nat):Int))) 31=((32 - (k.val+1):Nat):Int):=by decide +kernel
 have q:=h ⟨n - 1,by omega⟩;rw [show (⟨n - 1,by omega⟩:Fin 31).val+1=n from by show n - 1+1=n;omega] at q;exact q
theorem rotl_any (x:Wd) (n:Nat) (h1:1≤n) (h31:n≤31) (w:World):Calls Tryz.prog 222 #[.int .u32 ((x.toNat:Nat):Int),.int .i64 (-(n:Int))] w fun e w'=>e = .returned (.int .u32 (((rotR x n).toNat:Nat):Int))∧w=w':=by
 have ha:=and31 n h1 h31;have s0:¬((32 - n:Nat):Int)<0:=by omega
 have e1:(32:Int) - ((32 - n:Nat):Int)=(n:Int):=by omega
 have nn:¬(n:Int)<0:=by omega
 have hw:IntKind.u64.wrap (n:Int)=(n:Int):=by rw [IntKind.wrap_u64];omega
 go_enter Tryz.func222,Tryz.ntmps222
 go_wp2
 go_ret;refine ⟨?_,rfl⟩;have h2:((x.toNat:Nat):Int) * 2 ^ (32 - n) % 4294967296=(((x <<< (32 - n)).toNat:Nat):Int):=by rw [←wrap_shlW,IntKind.wrap_u32]
 rw [shrW,h2,orW];show Ending.returned (Value.int .u32 (((x <<< (32 - n) ||| x >>> n).toNat:Nat):Int))=_;rw [BitVec.or_comm];rfl
theorem Hd {p:Prop} (h:p):RowKit.Hid p:=h
section
variable {α:Type} {b c:α} {l:List α} {i:Nat}
theorem gE {x:Array α} (h:x[i]?=some b):∃h:i<x.size,x[i]=b:=Array.getElem?_eq_some_iff.1 h
theorem zz:(∀{α:Type} {l:List α} {i:Nat} (h:i<l.toArray.size),l.toArray[i]=l[i]'(by simpa using h))∧(∀{α:Type} {b:α} {l:List α} {i:Nat} (h:i+1<(b :: l).length),(b :: l)[i+1]=l[i]'(Nat.lt_of_succ_lt_succ h))∧(∀{α:Type} {b:α} {l:List α} (h:0<(b :: l).length),(b :: l)[0]=b)∧(∀{α:Type} {b:α} {l:List α} {i:Nat},l.toArray.setIfInBounds i b=(l.set i b).toArray)∧(∀{α:Type} {b c:α} {l:List α},(b :: l).set 0 c=c :: l)∧∀{α:Type} {b c:α} {l:List α} {i:Nat},(b :: l).set (i+1) c=b :: l.set i c:=
 ⟨fun h=>List.getElem_toArray h,fun h=>List.getElem_cons_succ ..,fun _=>rfl,List.setIfInBounds_toArray ..,rfl,rfl⟩
end
section
open Go.RowKit
def RowK {α:Type} (k:Nat) (enc:α→List Value) (w:World) (ao:Option Addr) (l:List α):Prop:=
 ∀i x,l[i]?=some x→∃b off,ao=some ⟨b,off,none⟩∧b<w.heap.size∧∀j v,(enc x)[j]?=some v→w.cell? ⟨b,off+i * k+j,none⟩=some v
theorem RowK.nil {α:Type} (k:Nat) (enc:α→List Value) (w:World) (ao:Option Addr):RowK k enc w ao []:=fun i x h=>by simp at h
theorem RowK.later {α:Type} {k:Nat} {enc:α→List Value} {w w':World} {ao:Option Addr} {l:List α} (h:RowK k enc w ao l) (hb:Below w.heap.size w w'):RowK k enc w' ao l:=fun i x hx=>by
 obtain ⟨b,off,e,h1,h2⟩:=h i x hx;exact ⟨b,off,e,Nat.lt_of_lt_of_le h1 hb.size,fun j v hv=>by rw [hb.cell (p:=⟨b,off+i * k+j,none⟩) h1];exact h2 j v hv⟩
theorem RowK.alloc {α:Type} {k:Nat} {enc:α→List Value} {w:World} {ao:Option Addr} {l:List α} (h:RowK k enc w ao l) (o:Obj):RowK k enc (w.alloc o) ao l:=h.later ((Below.refl _ _).alloc (Nat.le_refl _) o)
theorem flat_get {α:Type} {k:Nat} {enc:α→List Value} (hk:∀x,(enc x).length=k):∀(l:List α) (i:Nat) (x:α) (j:Nat) (v:Value),l[i]?=some x→(enc x)[j]?=some v→(l.flatMap enc)[i * k+j]?=some v
 | [],i,x,j,v,h,_=>by simp at h
 | y :: r,0,x,j,v,h,hv=>by
  simp at h;subst h;have hj:j<(enc y).length:=(List.getElem?_eq_some_iff.1 hv).1;rw [List.flatMap_cons,Nat.zero_mul,Nat.zero_add,List.getElem?_append_left hj];exact hv
 | y :: r,i+1,x,j,v,h,hv=>by
  have e:(i+1) * k+j=(enc y).length+(i * k+j):=by rw [hk y,Nat.succ_mul];omega
  rw [List.flatMap_cons,e,List.getElem?_append_right (by omega),Nat.add_sub_cancel_left];exact flat_get hk r i x j v (by simpa using h) hv
theorem flat_length {α:Type} {k:Nat} {enc:α→List Value} (hk:∀x,(enc x).length=k) (l:List α):(l.flatMap enc).length=l.length * k:=by
 induction l with
 | nil=>simp
 | cons a r ih=>rw [List.flatMap_cons,List.length_append,ih,hk a,List.length_cons,Nat.succ_mul];omega
theorem flat_snoc {α:Type} (enc:α→List Value) (l:List α) (x:α):(l ++ [x]).flatMap enc=l.flatMap enc ++ enc x:=by simp
theorem rowK_of_owns {α:Type} {k:Nat} {enc:α→List Value} (hk:∀x,(enc x).length=k) (hk0:0<k) {w:World} {base e n:Nat} {v:Value} {l:List α} (h:w.ownsRow base e k v n (l.flatMap enc)) :
  ∃ao cap,v = .slice ao l.length cap∧((ao=none→cap=0)∧l.length≤cap)∧RowK k enc w ao l:=by
 obtain ⟨hlen,h | ⟨g,cap,cur,hv,_,hb,hcap,_,_,ht⟩⟩:=h
 ·obtain ⟨rfl,rfl⟩:=h;rw [flat_length hk] at hlen;have:l = []:=by
   rcases l with _ | ⟨a,r⟩
   ·rfl
   simp [Nat.succ_mul] at hlen;omega
  subst this;exact ⟨none,0,rfl,⟨fun _=>rfl,Nat.le_refl _⟩,RowK.nil _ _ _ _⟩
 rw [flat_length hk] at hlen;have hn:l.length=n:=Nat.eq_of_mul_eq_mul_right hk0 hlen;refine ⟨some ⟨g,0,none⟩,cap,by rw [hv,hn],⟨(fun h=>by cases h),by omega⟩,fun i x hx=>⟨g,0,rfl,?_,fun j v hv=>?_⟩⟩
 ·rcases Nat.lt_or_ge g w.heap.size with h | h
  ·exact h
  rw [Array.getElem?_eq_none h] at hb;cases hb
 rw [Nat.zero_add];have h1:=flat_get hk l i x j v hx hv;rw [←ht] at h1;have h2:i * k+j<n * k:=by
  have:=(List.getElem?_eq_some_iff.1 h1).1;rw [List.length_take] at this;omega
 rw [List.getElem?_take_of_lt h2,Array.getElem?_toList] at h1;simp [World.cell?,hb,h1]
def SlcK {α:Type} (k:Nat) (enc:α→List Value) (w:World) (l:List α) (e:Ending) (w':World):Prop:=
 ∃(ao:Option Addr) (cap:Nat),e = .returned (.slice ao l.length cap)∧((ao=none→cap=0)∧l.length≤cap)∧RowK k enc w' ao l∧Below w.heap.size w w'
theorem cells_new (W:World) (cs:List Value) (t:TypeId):∀j u,cs[j]?=some u→(W.alloc (.cells cs.toArray t)).cell? ((⟨W.heap.size,0,none⟩:Addr).add j)=some u:=by
 intro j u hu;have e:(Addr.add ⟨W.heap.size,0,none⟩ j)=⟨W.heap.size,j,none⟩:=by unfold Addr.add;split <;> simp_all
 rw [e];unfold World.cell?;rw [show (⟨W.heap.size,j,none⟩:Addr).block=W.heap.size from rfl,heap_alloc_new W];simpa using hu
theorem cells_at (W:World) (cs:List Value) (t:TypeId) (a:Nat) (ha:W.heap.size=a):∀j u,cs[j]?=some u→(W.alloc (.cells cs.toArray t)).cell? ((⟨a,0,none⟩:Addr).add j)=some u:=by
 subst ha;exact cells_new W cs t
theorem owns_ne {w:World} {base e k n:Nat} {v:Value} {xs:List Value} (h:w.ownsRow base e k v n xs) (g:Nat) (hg:w.heap.size≤g):v.ownBlock≠some g:=by
 obtain ⟨_,h | ⟨g',cap,cur,rfl,h1,hb,_⟩⟩:=h
 ·rw [h.1];simp [Value.ownBlock]
 have:=(gE hb).1;simp [Value.ownBlock];omega
theorem keep_cell {X w1:World} {v:Value} {g o:Nat} {u:Value} (gr:X.grownBy w1 v.ownBlock) (hc:X.cell? ⟨g,o,none⟩=some u) (hne:v.ownBlock≠some g):w1.cell? ⟨g,o,none⟩=some u:=by
 have hl:=World.block_lt_of_cell? _ _ hc;rw [World.cell?_of_block (w:=X) (gr.block g hl (fun h=>hne h.symm))];exact hc
theorem cell_box (W:World) (cs:Array Value) (t:TypeId) (o:Nat) (u:Value) (hu:cs[o]?=some u) (a:Nat) (ha:W.heap.size=a):(W.alloc (.cells cs t)).cell? ⟨a,o,none⟩=some u:=by
 subst ha;unfold World.cell?;rw [show (⟨W.heap.size,o,none⟩:Addr).block=W.heap.size from rfl,heap_alloc_new W];simpa using hu
theorem cell_up {W:World} {g o:Nat} {u:Value} (h:W.cell? ⟨g,o,none⟩=some u) (ob:Obj):(W.alloc ob).cell? ⟨g,o,none⟩=some u:=by
 rw [World.cell?_of_block (w:=W) (Below.heap_alloc W ob g (World.block_lt_of_cell? _ _ h))];exact h
theorem grown_own {B:Nat} {w X w1:World} {e k:Nat} {v:Value} {n:Nat} {xs:List Value} (hX:Below B w X) (hB:B≤w.heap.size) (ho:X.ownsRow B e k v n xs) (gr:X.grownBy w1 v.ownBlock):Below B w w1:=
 hX.grown gr (Nat.le_trans hB hX.size) (fun j hj=>by
  obtain ⟨_,h | ⟨g,cap,cur,rfl,h1,_⟩⟩:=ho
  ·rw [h.1] at hj;simp [Value.ownBlock] at hj
  simp [Value.ownBlock] at hj;omega)
theorem flat_of {α:Type} {k:Nat} {enc:α→List Value} (hk:∀x,(enc x).length=k) (hk0:0<k):∀(l:List α) (j:Nat) (u:Value),(l.flatMap enc)[j]?=some u→∃i x r,l[i]?=some x∧(enc x)[r]?=some u∧j=i * k+r
 | [],j,u,h=>by simp at h
 | y :: t,j,u,h=>by
  rw [List.flatMap_cons] at h;rcases Nat.lt_or_ge j k with hj | hj
  ·rw [List.getElem?_append_left (by rw [hk];exact hj)] at h;exact ⟨0,y,j,rfl,h,by omega⟩
  rw [List.getElem?_append_right (by rw [hk];exact hj),hk] at h;obtain ⟨i,x,r,h1,h2,h3⟩:=flat_of hk hk0 t _ u h;exact ⟨i+1,x,r,by simpa using h1,h2,by rw [Nat.succ_mul];omega⟩
theorem RowK.news {α:Type} {k:Nat} {enc:α→List Value} (hk:∀x,(enc x).length=k) (hk0:0<k) {w:World} {ad:Addr} {l:List α} (h:RowK k enc w (some ad) l):∀j u,(l.flatMap enc)[j]?=some u→w.cell? (ad.add j)=some u:=by
 intro j u hu;obtain ⟨i,x,r,h1,h2,rfl⟩:=flat_of hk hk0 l j u hu;obtain ⟨b,off,e,_,hc⟩:=h i x h1;simp only [Option.some.injEq] at e;subst e;have e:(Addr.add ⟨b,off,none⟩ (i * k+r))=⟨b,off+i * k+r,none⟩:=by unfold Addr.add;split <;> simp_all [Nat.add_assoc]
 rw [e];exact hc r u h2
theorem flat_one {α:Type} {enc:α→List Value} (h:∀x,∀u∈enc x,u.oneCell'=true) (l:List α):∀u∈l.flatMap enc,u.oneCell'=true:=by
 intro u hu;rw [List.mem_flatMap] at hu;obtain ⟨x,_,hx⟩:=hu;exact h x u hx
theorem owns_emptyK {α:Type} (enc:α→List Value) (k:Nat) (w:World) (e:TypeId):(w.alloc (.cells #[] e)).ownsRow w.heap.size e k (.slice (some ⟨w.heap.size,0,none⟩) 0 0) 0 (([]:List α).flatMap enc):=
 ⟨by simp,.inr ⟨w.heap.size,0,#[],rfl,Nat.le_refl _,heap_alloc_new w _,Nat.le_refl _,by unfold maxLen;omega,by simp,by simp⟩⟩
theorem wpList_append_row {α:Type} {P:Program} {w:World} {ops:Array Oper} {rest:List Oper} {o:Oper} {a:Act} {Q:Exit→Act→World→Prop} (hgd:o.guard=none) (s x:Operand) (t:TypeId)
  (ho:o.op = .call {callee:=.builtin .append,args:=#[s,x],argTypes:=#[t,t]})
  (base:Nat) (e:TypeId) (i:TypeInfo) (z:Value) (size bytes:Nat) (ht:P.underlying t=some (.slice e)) (hi:P.info? e=some i) (hz:i.zero=some z)
  (hsize:i.size=size) (hby:i.bytes=bytes) (hzs:z.cells.size=size) (hsz:0<size)
  (v:Value) (n:Nat) (xs:List Value) (hs:a.eval s=v) (hown:w.ownsRow base e size v n xs)
  (enc:α→List Value) (hk:∀x,(enc x).length=size) (h1:∀x,∀u∈enc x,u.oneCell'=true) (bo:Option Addr) (m c:Nat) (l:List α) (hx:a.eval x = .slice bo m c) (hl:l.length=m) (hc:(bo=none→c=0)∧m≤c) (hrow:RowK size enc w bo l)
  (h63:n+m≤maxLen) (hbytes:(n+m) * bytes≤140737488355328) (hbase:base≤w.heap.size)
  (h:∀v' w',w'.ownsRow base e size v' (n+m) (xs ++ l.flatMap enc)→w.grownBy w' v.ownBlock→wpList P ops Q rest (a.put o.dst v') w'):wpList P ops Q (o :: rest) a w:=by
 rcases bo with _ | ad
 ·obtain rfl:=hc.1 rfl;obtain rfl:m=0:=by omega
  obtain rfl:l = []:=List.eq_nil_of_length_eq_zero hl;exact wpList_append_own_none hgd s x t ho base e i size ht hi v n xs hs hown hx (h v w (by simpa using hown) (World.grownBy.refl _ _))
 exact wpList_append_own w hgd s x t ho base e i z size bytes ht hi hz hsize hby hzs hsz v n xs hs hown ad m c (l.flatMap enc) hx (by rw [flat_length hk,hl]) (hrow.news hk hsz) (flat_one h1 l) h63 hbytes hbase (fun v' w' h2 h3 _=>h v' w' h2 h3)
def encT (s:ByteArray):List Value:=[.string s]
theorem encT_len (x:ByteArray):(encT x).length=1:=rfl
theorem encT_one (x:ByteArray):∀u∈encT x,u.oneCell'=true:=by intro u hu;simp [encT] at hu;subst hu;rfl
theorem Tryz.infoStr:(Tryz.prog.info? 9).map (fun i=>(i.zero,i.size,i.bytes))=some (some (.string (ByteArray.mk #[])),1,16):=by kernel_rfl
theorem RowK.str {w:World} {ao:Option Addr} {l:List ByteArray} (h:RowK 1 encT w ao l) {i:Nat} (hi:i<l.length):∃b off,ao=some ⟨b,off,none⟩∧b<w.heap.size∧w.cell? ⟨b,off+i,none⟩=some (.string l[i]):=by
 obtain ⟨b,off,e,h1,h2⟩:=h i l[i] (List.getElem?_eq_getElem hi);exact ⟨b,off,e,h1,by simpa using h2 0 _ rfl⟩
theorem fin_T {w w1:World} {v:Value} {n e:Nat} {l:List ByteArray} (ho:w1.ownsRow w.heap.size e 1 v n (l.flatMap encT)) (hb:Below w.heap.size w w1):SlcK 1 encT w l (.returned v) w1:=by
 obtain ⟨ao,cap,rfl,h1,h2⟩:=rowK_of_owns encT_len (by decide) ho;exact ⟨ao,cap,rfl,h1,h2,hb⟩
end
section
open Go.RowKit
def encN1 (n:Nat):List Value:=[.int .i64 (n:Int)]
def mixW (x:Wd) (ns:List Nat):Wd:=ns.foldl (fun a n=>a ^^^ rotR x n) 0
theorem mixed_any (x:Wd) (ao:Option Addr) (ln cap:Nat) (ns:List Nat) (w:World) (hln:ns.length=ln) (hn:ln≤1000) (hr:∀n∈ns,1≤n∧n≤31) (hrow:RowK 1 encN1 w ao ns) :
  Calls Tryz.prog 180 #[.int .u32 ((x.toNat:Nat):Int),.slice ao ln cap] w fun e w'=>e = .returned (.int .u32 (((mixW x ns).toNat:Nat):Int))∧w=w':=by
 have HL:=Hd hln;have HR:=Hd hr;have HW:=Hd hrow;clear hln hr hrow;go_enter Tryz.func180,Tryz.ntmps180
 go_wp2
 go_loopw [5,10] (fun o j wr=>wr=w∧∃k:Nat,k≤ln∧j = .int .i64 (k:Int)∧o = .int .u32 (((mixW x (ns.take k)).toNat:Nat):Int)) (fun _ j _=>ln - (intOf j).toNat)
 case atStart=>exact ⟨rfl,0,Nat.zero_le _,rfl,rfl⟩
 case round=>
  obtain ⟨rfl,k,hk,rfl,rfl⟩:=hrel;have k0:(0:Int)≤(k:Int):=by omega
  by_cases hlt:k<ln
  ·have k1:(k:Int)<(ln:Int):=by omega
   have hkl:k<ns.length:=by rw [HL.out];exact hlt
   obtain ⟨g,o,rfl,_,hce⟩:=HW.out k ns[k] (List.getElem?_eq_getElem hkl);have ce:wr.cell? ⟨g,o+k,none⟩=some (.int .i64 ((ns[k]:Nat):Int)):=by have q:=hce 0 _ rfl;rwa [Nat.mul_one,Nat.add_zero] at q
   have hnk:=HR.out ns[k] (List.getElem_mem hkl);have NX:=Hd (show mixW x (ns.take (k+1))=mixW x (ns.take k) ^^^ rotR x ns[k] from by
    unfold mixW;rw [List.take_succ_eq_append_getElem hkl,List.foldl_append];rfl)
   obtain ⟨n,hnn⟩:∃n,ns[k]=n:=⟨_,rfl⟩;rw [hnn] at ce hnk NX;have RT:=Hd (rotl_any x n hnk.1 hnk.2 wr);obtain ⟨a,ha⟩:∃a,mixW x (ns.take k)=a:=⟨_,rfl⟩;obtain ⟨b,hb⟩:∃b,rotR x n=b:=⟨_,rfl⟩;rw [ha,hb] at NX;rw [hb] at RT;rw [ha];have hx:=xorW a b;have n0:(0:Int)≤(n:Int):=by omega
   have n31:(n:Int)≤31:=by omega
   have nw:IntKind.i64.wrap (-(n:Int)) = -(n:Int):=by rw [IntKind.wrap_i64];omega
   have nw2:wrap64 (-(n:Int)) = -(n:Int):=by unfold wrap64;omega
   clear hce hkl hnn ha hb hnk;go_wp2_with (first | (go_at_call 222;(with_reducible refine RT.out.mono ?_);rintro e w' ⟨rfl,rfl⟩))
   go_roundw
   case rel=>exact ⟨trivial,k+1,by omega,by go_num,by rw [NX.out];first | rfl | (rw [hx]) | trace_state⟩
   case measure=>simp [intOf];omega
  have k1:¬(k:Int)<(ln:Int):=by omega
  have hkn:ns.take k=ns:=List.take_of_length_le (by rw [HL.out];omega);rw [hkn];clear hkn;go_wp2
  go_ret;exact ⟨rfl,rfl⟩
end
section
open Go.RowKit
def eW (x:Wd):Value:=.int .u32 ((x.toNat:Nat):Int)
def encB (n:Nat):List Value:=[.int .u8 (n:Int)]
def rowW (n:Nat) (l:List Wd):Array Value:=(l.map eW ++ List.replicate (n - l.length) (Value.int .u32 0)).toArray
theorem rowW_size {n:Nat} {l:List Wd} (h:l.length≤n):(rowW n l).size=n:=by unfold rowW;simp;omega
theorem rowW_get {n:Nat} {l:List Wd} {i:Nat} {x:Wd} (h:l[i]?=some x):(rowW n l)[i]?=some (eW x):=by
 have hi:i<l.length:=(List.getElem?_eq_some_iff.1 h).1;unfold rowW;rw [List.getElem?_toArray,List.getElem?_append_left (by simpa using hi),List.getElem?_map,h];rfl
theorem rowW_zero {n:Nat} {l:List Wd} {i:Nat} (h1:l.length≤i) (h:i<n):(rowW n l)[i]?=some (.int .u32 0):=by
 unfold rowW;rw [List.getElem?_toArray,List.getElem?_append_right (by simpa using h1),List.getElem?_replicate,if_pos (by simp;omega)]
theorem rowW_set {n:Nat} {l:List Wd} (h:l.length<n) (x:Wd):(rowW n l).setIfInBounds l.length (eW x)=rowW n (l ++ [x]):=by
 unfold rowW;rw [List.setIfInBounds_toArray];congr 1
 rw [List.set_append_right _ _ (by simp)];have:n - l.length=(n - (l ++ [x]).length)+1:=by simp;omega
 rw [this,List.replicate_succ];simp
theorem rowW_one {n:Nat} {l:List Wd}:(rowW n l).all (·.oneCell')=true:=by
 rw [Array.all_eq_true_iff_forall_mem];intro v hv;unfold rowW at hv;rw [List.mem_toArray] at hv;rcases List.mem_append.1 hv with h | h
 ·obtain ⟨x,_,rfl⟩:=List.mem_map.1 h;rfl
 obtain ⟨_,rfl⟩:=List.mem_replicate.1 h;rfl
theorem rowW_full {l:List Wd}:rowW l.length l=(l.map eW).toArray:=by unfold rowW;simp
theorem RowK.byte {w:World} {ao:Option Addr} {l:List Nat} (h:RowK 1 encB w ao l) {i:Nat} (hi:i<l.length):∃b off,ao=some ⟨b,off,none⟩∧b<w.heap.size∧w.cell? ⟨b,off+i,none⟩=some (.int .u8 ((l.getD i 0:Nat):Int)):=by
 obtain ⟨b,off,e,h1,h2⟩:=h i l[i] (List.getElem?_eq_getElem hi);exact ⟨b,off,e,h1,by have:=h2 0 _ rfl;rw [List.getD_eq_getElem?_getD,List.getElem?_eq_getElem hi];simpa using this⟩
theorem wrap8 {n:Nat} (h:n<256):IntKind.wrap .u32 (n:Int)=((BitVec.ofNat 32 n).toNat:Int):=by
 rw [IntKind.wrap_u32,BitVec.toNat_ofNat];omega
theorem RowN1 {w:World} {g:Nat} {l:List Nat} (h:∀(i x:Nat),l[i]?=some x→w.cell? ⟨g,i,none⟩=some (.int .i64 (x:Int))):RowK 1 encN1 w (some ⟨g,0,none⟩) l:=fun i x hx=>by
 refine ⟨g,0,rfl,World.block_lt_of_cell? _ _ (h i x hx),fun j v hv=>?_⟩;have hj:j=0:=by
  have:=(List.getElem?_eq_some_iff.1 hv).1;simp [encN1] at this;omega
 subst hj;simp [encN1] at hv;subst hv;have:=h i x hx;simpa using this
def mx2 (x:Wd) (a b:Nat):Wd:=rotR x a ^^^ rotR x b
def mx3 (x:Wd) (a b c:Nat):Wd:=rotR x a ^^^ rotR x b ^^^ rotR x c
theorem mixed_two (x:Wd) (a b:Nat) (ha:1≤a∧a≤31) (hb:1≤b∧b≤31) (g cap:Nat) (w:World) (c0:w.cell? ⟨g,0,none⟩=some (.int .i64 (a:Int))) (c1:w.cell? ⟨g,1,none⟩=some (.int .i64 (b:Int))) :
  Calls Tryz.prog 180 #[.int .u32 ((x.toNat:Nat):Int),.slice (some ⟨g,0,none⟩) 2 cap] w fun e w'=>e = .returned (.int .u32 (((mx2 x a b).toNat:Nat):Int))∧w=w':=by
 have:=mixed_any x (some ⟨g,0,none⟩) 2 cap [a,b] w rfl (by omega) (fun n hn=>by simp at hn;rcases hn with rfl | rfl <;> assumption) (RowN1 (fun i y hy=>by
  rcases i with _ | _ | i
  ·simp at hy;subst hy;exact c0
  ·simp at hy;subst hy;exact c1
  simp at hy))
 have e:mixW x [a,b]=mx2 x a b:=by unfold mixW mx2;simp
 rw [e] at this;exact this
theorem mixed_three (x:Wd) (a b c:Nat) (ha:1≤a∧a≤31) (hb:1≤b∧b≤31) (hc:1≤c∧c≤31) (g cap:Nat) (w:World) (c0:w.cell? ⟨g,0,none⟩=some (.int .i64 (a:Int))) (c1:w.cell? ⟨g,1,none⟩=some (.int .i64 (b:Int))) (c2:w.cell? ⟨g,2,none⟩=some (.int .i64 (c:Int))) :
  Calls Tryz.prog 180 #[.int .u32 ((x.toNat:Nat):Int),.slice (some ⟨g,0,none⟩) 3 cap] w fun e w'=>e = .returned (.int .u32 (((mx3 x a b c).toNat:Nat):Int))∧w=w':=by
 have:=mixed_any x (some ⟨g,0,none⟩) 3 cap [a,b,c] w rfl (by omega) (fun n hn=>by simp at hn;rcases hn with rfl | rfl | rfl <;> assumption) (RowN1 (fun i y hy=>by
  rcases i with _ | _ | _ | i
  ·simp at hy;subst hy;exact c0
  ·simp at hy;subst hy;exact c1
  ·simp at hy;subst hy;exact c2
  simp at hy))
 have e:mixW x [a,b,c]=mx3 x a b c:=by unfold mixW mx3;simp
 rw [e] at this;exact this
theorem shl24 (x:Wd):((x.toNat:Nat):Int) * (16777216:Int) % (4294967296:Int)=(((x <<< 24).toNat:Nat):Int):=by have:=wrap_shlW x 24;rw [IntKind.wrap_u32] at this;exact this
theorem shl16 (x:Wd):((x.toNat:Nat):Int) * (65536:Int) % (4294967296:Int)=(((x <<< 16).toNat:Nat):Int):=by have:=wrap_shlW x 16;rw [IntKind.wrap_u32] at this;exact this
theorem shl8 (x:Wd):((x.toNat:Nat):Int) * (256:Int) % (4294967296:Int)=(((x <<< 8).toNat:Nat):Int):=by have:=wrap_shlW x 8;rw [IntKind.wrap_u32] at this;exact this
theorem or4 (x0 x1 x2 x3:Wd):bits BinOp.or IntKind.u32 (bits BinOp.or IntKind.u32 (bits BinOp.or IntKind.u32 (((x0.toNat:Nat):Int) * (16777216:Int) % (4294967296:Int)) (((x1.toNat:Nat):Int) * (65536:Int) % (4294967296:Int))) (((x2.toNat:Nat):Int) * (256:Int) % (4294967296:Int))) ((x3.toNat:Nat):Int)=(((x0 <<< 24 ||| x1 <<< 16 ||| x2 <<< 8 ||| x3).toNat:Nat):Int):=by
 rw [shl24,shl16,shl8,orW,orW,orW]
theorem next4 (x16 x15 x7 x2:Wd):IntKind.u32.wrap (IntKind.u32.wrap (IntKind.u32.wrap (((x16.toNat:Nat):Int)+bits BinOp.xor IntKind.u32 (((mx2 x15 7 18).toNat:Nat):Int) (((x15.toNat:Nat):Int) / (8:Int)))+((x7.toNat:Nat):Int))+bits BinOp.xor IntKind.u32 (((mx2 x2 17 19).toNat:Nat):Int) (((x2.toNat:Nat):Int) / (1024:Int)))=(((x16+ss0 x15+x7+ss1 x2).toNat:Nat):Int):=by
 have h1:((x15.toNat:Nat):Int) / (8:Int)=(((x15 >>> 3).toNat:Nat):Int):=shrW x15 3;have h2:((x2.toNat:Nat):Int) / (1024:Int)=(((x2 >>> 10).toNat:Nat):Int):=shrW x2 10;rw [h1,h2,xorW,xorW,wrap_addW,wrap_addW,wrap_addW];rfl
structure K2 (t:TypeId) (w0:World) (B:Nat) (cur:Array Value) (w':World):Prop where
 blk:w'.heap[B]?=some (.cells cur t (0,0))
 low:Below w0.heap.size w0 w'
 ge:w0.heap.size≤B
theorem K2.lt {t:TypeId} {w0 w':World} {B:Nat} {cur:Array Value} (h:K2 t w0 B cur w'):B<w'.heap.size:=(gE h.blk).1
theorem K2.alloc {t:TypeId} {w0 w':World} {B:Nat} {cur:Array Value} (h:K2 t w0 B cur w') (o:Obj):K2 t w0 B cur (w'.alloc o):=
 ⟨(Below.heap_alloc w' o B h.lt).trans h.blk,h.low.alloc h.low.size o,h.ge⟩
theorem K2.set {t:TypeId} {w0 w':World} {B:Nat} {cur:Array Value} (h:K2 t w0 B cur w') (i:Nat) (v:Value):K2 t w0 B (cur.setIfInBounds i v) (w'.setCell ⟨B,i,none⟩ v):=
 ⟨heap_setCell_same w' B i cur t v h.blk,h.low.setCell h.ge _,h.ge⟩
theorem K2.setRow {t:TypeId} {w0 w':World} {B:Nat} {cur:Array Value} (h:K2 t w0 B cur w') (cs:Array Value):K2 t w0 B cs (w'.setRow B cs):=
 ⟨setRow_heap w' B cur cs t _ h.blk,⟨h.low.os,h.low.tape,h.low.output,by rw [size_setRow];exact h.low.size,fun k hk=>(setRow_other w' B k cs (by have:=h.ge;omega)).trans (h.low.block k hk)⟩,h.ge⟩
theorem K2.drewN {t:TypeId} {w0 w':World} {B:Nat} {cur:Array Value} (h:K2 t w0 B cur w') (n:Nat):K2 t w0 B cur (w'.drewN n):=
 ⟨h.blk,⟨h.low.os,h.low.tape,h.low.output,h.low.size,h.low.block⟩,h.ge⟩
theorem K2.drew {t:TypeId} {w0 w':World} {B:Nat} {cur:Array Value} (h:K2 t w0 B cur w'):K2 t w0 B cur w'.drew:=
 ⟨h.blk,⟨h.low.os,h.low.tape,h.low.output,h.low.size,h.low.block⟩,h.ge⟩
theorem K2.cell {t:TypeId} {w0 w':World} {B:Nat} {cur:Array Value} (h:K2 t w0 B cur w') {i:Nat} {v:Value} (hv:cur[i]?=some v):w'.cell? ⟨B,i,none⟩=some v:=by
 rw [cell_of_row w' B i cur t _ h.blk];exact hv
theorem K2.frz {t:TypeId} {w0 w':World} {B:Nat} {cur:Array Value} (h:K2 t w0 B cur w') (i:Nat):w'.frozen? ⟨B,i,none⟩=false:=frozen_of_row w' B i cur t h.blk
def curB (w:World) (B k:Nat):Value:=(w.cell? ⟨B,k,none⟩).getD undef
theorem K2.cur {t:TypeId} {w0 w':World} {B:Nat} {cur:Array Value} (h:K2 t w0 B cur w') {i:Nat} (hi:i<cur.size):w'.cell? ⟨B,i,none⟩=some (curB w' B i):=by
 have:=h.cell (i:=i) (v:=cur[i]) (by simp [hi]);unfold curB;rw [this];rfl
theorem schedule_any (ao:Option Addr) (cap:Nat) (bs:List Nat) (w:World) (hln:bs.length=64) (hlt:∀n∈bs,n<256) (hrow:RowK 1 encB w ao bs) :
  Calls Tryz.prog 179 #[.slice ao 64 cap] w fun e w'=>e = .returned (.agg (rowW 64 (sched bs 64)))∧Below w.heap.size w w':=by
 have HL:=Hd hln;have HT:=Hd hlt;have HR:=Hd hrow;clear hln hlt hrow;obtain ⟨g,off,rfl,hg,_⟩:=HR.out.byte (i:=0) (by rw [HL.out];omega);go_enter Tryz.func179,Tryz.ntmps179
 go_wp2
 go_loopw [7] (fun i wr=>∃k:Nat,k≤16∧i = .int .i64 (k:Int)∧wr.heap[w.heap.size]?=some (.cells (rowW 64 (sched bs k)) 233 (0,0))∧Below w.heap.size w wr) (fun i _=>16 - (intOf i).toNat)
 case atStart=>exact ⟨0,Nat.zero_le _,rfl,heap_alloc_new w _,(Below.refl _ w).alloc (Nat.le_refl _) _⟩
 case round=>
  obtain ⟨k,hk,rfl,hb,hbl⟩:=hrel;have HB:=Hd hb;have HBL:=Hd hbl;clear hb hbl;have k0:(0:Int)≤(k:Int):=by omega
  by_cases hlt:k<16
  ·have k1:(k:Int)<16:=by omega
   have k64:(k:Int)<64:=by omega
   have hc:∀j,j<4→wr.cell? ⟨g,off+(4 * k+j),none⟩=some (.int .u8 ((bs.getD (4 * k+j) 0:Nat):Int)):=fun j hj=>by
    obtain ⟨g',o',e,h1,h2⟩:=HR.out.byte (i:=4 * k+j) (by rw [HL.out];omega);cases e;rw [HBL.out.cell (p:=⟨g,off+(4 * k+j),none⟩) h1];exact h2
   have hn:∀j,j<4→bs.getD (4 * k+j) 0<256:=fun j hj=>by
    have hj2:4 * k+j<bs.length:=by rw [HL.out];omega
    rw [List.getD_eq_getElem?_getD,List.getElem?_eq_getElem hj2];exact HT.out _ (List.getElem_mem hj2)
   have c0:=hc 0 (by omega);have c1:=hc 1 (by omega);have c2:=hc 2 (by omega);have c3:=hc 3 (by omega);have n0:=hn 0 (by omega);have n1:=hn 1 (by omega);have n2:=hn 2 (by omega);have n3:=hn 3 (by omega);have hlen:(sched bs k).length=k:=sched_len bs k;have SET:=Hd (show (rowW 64 (sched bs k)).setIfInBounds k (eW (wordAt bs k))=rowW 64 (sched bs (k+1)) from by
    have:=rowW_set (n:=64) (l:=sched bs k) (by omega) (wordAt bs k);rw [hlen] at this;rw [this];conv=>rhs;unfold sched
    rw [if_pos hlt])
   have WA:=Hd (show wordAt bs k=(BitVec.ofNat 32 (bs.getD (4 * k+0) 0) <<< 24) ||| (BitVec.ofNat 32 (bs.getD (4 * k+1) 0) <<< 16) ||| (BitVec.ofNat 32 (bs.getD (4 * k+2) 0) <<< 8) ||| BitVec.ofNat 32 (bs.getD (4 * k+3) 0) from rfl);obtain ⟨m0,hm0⟩:∃m,bs.getD (4 * k+0) 0=m:=⟨_,rfl⟩;obtain ⟨m1,hm1⟩:∃m,bs.getD (4 * k+1) 0=m:=⟨_,rfl⟩;obtain ⟨m2,hm2⟩:∃m,bs.getD (4 * k+2) 0=m:=⟨_,rfl⟩;obtain ⟨m3,hm3⟩:∃m,bs.getD (4 * k+3) 0=m:=⟨_,rfl⟩;rw [hm0] at c0 n0 WA;rw [hm1] at c1 n1 WA;rw [hm2] at c2 n2 WA;rw [hm3] at c3 n3 WA;rw [Nat.add_zero] at c0;have cz:=cell_of_row wr w.heap.size k _ _ _ HB.out;have fz:=frozen_of_row wr w.heap.size k _ _ HB.out;rw [rowW_zero (by omega) (by omega)] at cz;clear hc hn hm0 hm1 hm2 hm3 hlen;have b0:(0:Int)≤4 * (k:Int):=by omega
   have b1:(0:Int)≤4 * (k:Int)+1:=by omega
   have b2:(0:Int)≤4 * (k:Int)+2:=by omega
   have b3:(0:Int)≤4 * (k:Int)+3:=by omega
   have l0:4 * (k:Int)<64:=by omega
   have l1:4 * (k:Int)+1<64:=by omega
   have l2:4 * (k:Int)+2<64:=by omega
   have l3:4 * (k:Int)+3<64:=by omega
   have w0:IntKind.i64.wrap (4 * (k:Int))=4 * (k:Int):=by rw [IntKind.wrap_i64];omega
   have w1:IntKind.i64.wrap (4 * (k:Int)+1)=4 * (k:Int)+1:=by rw [IntKind.wrap_i64];omega
   have w2:IntKind.i64.wrap (4 * (k:Int)+2)=4 * (k:Int)+2:=by rw [IntKind.wrap_i64];omega
   have w3:IntKind.i64.wrap (4 * (k:Int)+3)=4 * (k:Int)+3:=by rw [IntKind.wrap_i64];omega
   have t0:(4 * (k:Int)).toNat=4 * k:=by omega
   have t1:(4 * (k:Int)+1).toNat=4 * k+1:=by omega
   have t2:(4 * (k:Int)+2).toNat=4 * k+2:=by omega
   have t3:(4 * (k:Int)+3).toNat=4 * k+3:=by omega
   have e0:=wrap8 n0;have e1:=wrap8 n1;have e2:=wrap8 n2;have e3:=wrap8 n3;obtain ⟨x0,hx0⟩:∃x,BitVec.ofNat 32 m0=x:=⟨_,rfl⟩;obtain ⟨x1,hx1⟩:∃x,BitVec.ofNat 32 m1=x:=⟨_,rfl⟩;obtain ⟨x2,hx2⟩:∃x,BitVec.ofNat 32 m2=x:=⟨_,rfl⟩;obtain ⟨x3,hx3⟩:∃x,BitVec.ofNat 32 m3=x:=⟨_,rfl⟩;rw [hx0] at e0 WA;rw [hx1] at e1 WA;rw [hx2] at e2 WA;rw [hx3] at e3 WA;clear hx0 hx1 hx2 hx3 n0 n1 n2 n3;go_wp2_with fail
   go_still_tail 35,(by kernel_rfl)
   change wpList _ _ _ _ _ wr.drew
   go_wp2_with fail
   refine ⟨⟨k+1,by omega,by go_num,?_,?_⟩,by simp [intOf];omega⟩
   ·rw [or4,←WA.out];have:=heap_setCell_same wr w.heap.size k _ _ (.int .u32 (((wordAt bs k).toNat:Nat):Int)) HB.out;rw [show (rowW 64 (sched bs k)).setIfInBounds k (.int .u32 (((wordAt bs k).toNat:Nat):Int))=_ from SET.out] at this;exact this
   exact (HBL.out.setCell (Nat.le_refl _) _).drew
  have hk16:k=16:=by omega
  have hb16:=HB.out;rw [hk16] at hb16;have HB16:=Hd hb16;have k16:¬(k:Int)<16:=by omega
  obtain ⟨wo,rfl⟩:∃wo:World,wo=wr:=⟨_,rfl⟩;obtain ⟨k',rfl⟩:∃k':Nat,k'=k:=⟨_,rfl⟩;clear hb16 hk16 hlt hk HB;go_wp2_with fail
  go_loopw [4] (fun i wr=>∃k:Nat,16≤k∧k≤64∧i = .int .i64 (k:Int)∧wr.heap[w.heap.size]?=some (.cells (rowW 64 (sched bs k)) 233 (0,0))∧Below w.heap.size w wr) (fun i _=>64 - (intOf i).toNat)
  case atStart=>exact ⟨16,by omega,by omega,rfl,HB16.out,HBL.out⟩
  case round=>
   obtain ⟨k,hk0,hk,rfl,hb,hbl⟩:=hrel;have HB:=Hd hb;have HBL:=Hd hbl;clear hb hbl;have k0:(0:Int)≤(k:Int):=by omega
   by_cases hlt:k<64
   ·have k1:(k:Int)<64:=by omega
    have hlen:(sched bs k).length=k:=sched_len bs k;have hc:∀j,j<k→wr.cell? ⟨w.heap.size,j,none⟩=some (eW ((sched bs k).getD j 0)):=fun j hj=>by
     rw [cell_of_row wr w.heap.size j _ _ _ HB.out,rowW_get (x:=(sched bs k).getD j 0)];rw [List.getD_eq_getElem?_getD,List.getElem?_eq_getElem (by omega)];rfl
    have c15:=hc (k - 15) (by omega);have c2:=hc (k - 2) (by omega);have c16:=hc (k - 16) (by omega);have c7:=hc (k - 7) (by omega);have SET:=Hd (show (rowW 64 (sched bs k)).setIfInBounds k (eW ((sched bs k).getD (k - 16) 0+ss0 ((sched bs k).getD (k - 15) 0)+(sched bs k).getD (k - 7) 0+ss1 ((sched bs k).getD (k - 2) 0)))=rowW 64 (sched bs (k+1)) from by
     have:=rowW_set (n:=64) (l:=sched bs k) (by omega) ((sched bs k).getD (k - 16) 0+ss0 ((sched bs k).getD (k - 15) 0)+(sched bs k).getD (k - 7) 0+ss1 ((sched bs k).getD (k - 2) 0));rw [hlen] at this;rw [this];conv=>rhs;unfold sched
     rw [if_neg (by omega)])
    have cz:=cell_of_row wr w.heap.size k _ _ _ HB.out;have fz:=frozen_of_row wr w.heap.size k _ _ HB.out;rw [rowW_zero (by omega) (by omega)] at cz;obtain ⟨x15,hx15⟩:∃x,(sched bs k).getD (k - 15) 0=x:=⟨_,rfl⟩;obtain ⟨x2,hx2⟩:∃x,(sched bs k).getD (k - 2) 0=x:=⟨_,rfl⟩;obtain ⟨x16,hx16⟩:∃x,(sched bs k).getD (k - 16) 0=x:=⟨_,rfl⟩;obtain ⟨x7,hx7⟩:∃x,(sched bs k).getD (k - 7) 0=x:=⟨_,rfl⟩;rw [hx15] at c15 SET;rw [hx2] at c2 SET;rw [hx16] at c16 SET;rw [hx7] at c7 SET;unfold eW at c15 c2 c16 c7;obtain ⟨j15,hj15⟩:∃j,k=j+15:=⟨k - 15,by omega⟩;have w15:IntKind.i64.wrap ((k:Int) - 15)=(k:Int) - 15:=by rw [IntKind.wrap_i64];omega
    have w2:IntKind.i64.wrap ((k:Int) - 2)=(k:Int) - 2:=by rw [IntKind.wrap_i64];omega
    have w16:IntKind.i64.wrap ((k:Int) - 16)=(k:Int) - 16:=by rw [IntKind.wrap_i64];omega
    have w7:IntKind.i64.wrap ((k:Int) - 7)=(k:Int) - 7:=by rw [IntKind.wrap_i64];omega
    have t15:((k:Int) - 15).toNat=k - 15:=by omega
    have t2:((k:Int) - 2).toNat=k - 2:=by omega
    have t16:((k:Int) - 16).toNat=k - 16:=by omega
    have t7:((k:Int) - 7).toNat=k - 7:=by omega
    have p15:(0:Int)≤(k:Int) - 15:=by omega
    have p2:(0:Int)≤(k:Int) - 2:=by omega
    have p16:(0:Int)≤(k:Int) - 16:=by omega
    have p7:(0:Int)≤(k:Int) - 7:=by omega
    have q15:(k:Int) - 15<64:=by omega
    have q2:(k:Int) - 2<64:=by omega
    have q16:(k:Int) - 16<64:=by omega
    have q7:(k:Int) - 7<64:=by omega
    have g15:(15:Int)≤(k:Int):=by omega
    have g2:(2:Int)≤(k:Int):=by omega
    have g16:(16:Int)≤(k:Int):=by omega
    have g7:(7:Int)≤(k:Int):=by omega
    have hws:w.heap.size<wr.heap.size:=(gE HB.out).1;have K0:=Hd (show ∀n,K2 233 w w.heap.size (rowW 64 (sched bs k)) (wr.drewN n) from fun n=>K2.drewN ⟨HB.out,HBL.out,Nat.le_refl _⟩ n);have g16':=rowW_get (n:=64) (l:=sched bs k) (i:=k - 16) (x:=x16) (by rw [←hx16,List.getD_eq_getElem?_getD,List.getElem?_eq_getElem (by omega)];rfl);have g7':=rowW_get (n:=64) (l:=sched bs k) (i:=k - 7) (x:=x7) (by rw [←hx7,List.getD_eq_getElem?_getD,List.getElem?_eq_getElem (by omega)];rfl);have hsz64:(rowW 64 (sched bs k)).size=64:=rowW_size (by omega);have SK:=Hd (show ∀w' cur,K2 233 w w.heap.size cur w'→cur.size=64→cur[k - 16]?=some (eW x16)→cur[k - 7]?=some (eW x7)→w'.cell? ⟨w.heap.size,k - 16,none⟩=some (.int .u32 ((x16.toNat:Nat):Int))∧w'.cell? ⟨w.heap.size,k - 7,none⟩=some (.int .u32 ((x7.toNat:Nat):Int))∧w'.cell? ⟨w.heap.size,k,none⟩=some (curB w' w.heap.size k)∧w'.frozen? ⟨w.heap.size,k,none⟩=false from
     fun w' cur h h1 h2 h3=>⟨h.cell h2,h.cell h3,h.cur (by omega),h.frz k⟩)
    have SK0:=Hd (fun w' h=>SK.out w' _ h hsz64 g16' g7');have SK1:=Hd (fun w' v h=>SK.out w' ((rowW 64 (sched bs k)).setIfInBounds k v) h (by rw [Array.size_setIfInBounds];exact hsz64) (by rw [Array.getElem?_setIfInBounds_ne (by omega)];exact g16') (by rw [Array.getElem?_setIfInBounds_ne (by omega)];exact g7'));clear g16' g7' hsz64;clear hc hx15 hx2 hx16 hx7 hlen hj15;go_wp2_with fail
    go_quiet (fail)
    go_wp2_with fail
    go_region_held3 (fun w'=>w'.cell? ⟨w.heap.size,k - 16,none⟩=some (.int .u32 ((x16.toNat:Nat):Int))∧w'.cell? ⟨w.heap.size,k - 7,none⟩=some (.int .u32 ((x7.toNat:Nat):Int))∧w'.cell? ⟨w.heap.size,k,none⟩=some (curB w' w.heap.size k)∧w'.frozen? ⟨w.heap.size,k,none⟩=false)
     (first | (exact SK0.out _ (K0.out nq).drew) | (exact SK0.out _ (K0.out _)) | (exact SK0.out _ ((K0.out _).alloc _)) | (exact SK0.out _ (((K0.out _).alloc _).alloc _)) | (exact SK1.out _ _ ((((K0.out _).alloc _).set _ _).alloc _)) | (exact SK1.out _ _ ((((K0.out _).set _ _).alloc _).alloc _)) | (exact SK1.out _ _ ((((K0.out _).alloc _).alloc _).set _ _)))
     (first
      | (go_at_call 180;(with_reducible refine (mixed_two x15 7 18 ?_ ?_ _ _ _ ?_ ?_).mono ?_);omega;omega;(first | (exact cell_box _ _ _ _ _ rfl _ (by simp)) | (exact cell_up (cell_box _ _ _ _ _ rfl _ (by simp)) _));(first | (exact cell_box _ _ _ _ _ rfl _ (by simp)) | (exact cell_up (cell_box _ _ _ _ _ rfl _ (by simp)) _));rintro e w' ⟨rfl,rfl⟩)
      | (go_at_call 180;(with_reducible refine (mixed_two x2 17 19 ?_ ?_ _ _ _ ?_ ?_).mono ?_);omega;omega;(first | (exact cell_box _ _ _ _ _ rfl _ (by simp)) | (exact cell_up (cell_box _ _ _ _ _ rfl _ (by simp)) _));(first | (exact cell_box _ _ _ _ _ rfl _ (by simp)) | (exact cell_up (cell_box _ _ _ _ _ rfl _ (by simp)) _));rintro e w' ⟨rfl,rfl⟩))
    all_goals
     rename_i hS
     clear hS;go_wp2_with fail
     go_roundw
     case rel=>
      have hK:∀v w',K2 233 w w.heap.size ((rowW 64 (sched bs k)).setIfInBounds k v) w'→v=eW (x16+ss0 x15+x7+ss1 x2)→∃k_1:Nat,16≤k_1∧k_1≤64∧Value.int .i64 ((k:Int)+1) = .int .i64 (k_1:Int)∧w'.heap[w.heap.size]?=some (.cells (rowW 64 (sched bs k_1)) 233 (0,0))∧Below w.heap.size w w':=fun v w' h e=>⟨k+1,by omega,by omega,by go_num,by have:=h.blk;rw [e,SET.out] at this;exact this,h.low⟩;refine hK _ _ ((((K0.out _).alloc _).set _ _).alloc _) ?_;have q:=next4 x16 x15 x7 x2;simp only [IntKind.wrap_u32] at q;unfold eW;rw [←q]
     case measure=>simp [intOf];omega
   have hk64:k=64:=by omega
   subst hk64;have HI:(Tryz.prog.info? 233).map (·.size)=some (rowW 64 (sched bs 64)).size:=by rw [rowW_size (by rw [sched_len];omega)];kernel_rfl
   have HIN:=Hd HI;have K3:=Hd ((show K2 233 w w.heap.size (rowW 64 (sched bs 64)) wr from ⟨HB.out,HBL.out,Nat.le_refl _⟩).setRow (rowW 64 (sched bs 64)));clear HI k0 hk hk0;go_wp2_with (first
    | (refine wpList_load_row rfl 233 (.tmp 2) rfl w.heap.size rfl 233 (rowW 64 (sched bs 64)) (0,0) _ HB.out Tryz.underlying233 rfl HIN.out ?_)
    | (refine wpList_store_row rfl 233 (.tmp 2) (.tmp 83) rfl w.heap.size (rowW 64 (sched bs 64)) rfl rfl 233 (rowW 64 (sched bs 64)) HB.out HIN.out rfl rowW_one ?_))
   exact bodyPost_ret (v:=.agg (rowW 64 (sched bs 64))) (results_cell_row rfl _ _ w.heap.size 233 _ (0,0) _ rfl K3.out.blk Tryz.underlying233 rfl HIN.out) rfl ⟨rfl,K3.out.low⟩
end
end Go.Proofs.YtifcdjmcoibblaaGreatDoor
