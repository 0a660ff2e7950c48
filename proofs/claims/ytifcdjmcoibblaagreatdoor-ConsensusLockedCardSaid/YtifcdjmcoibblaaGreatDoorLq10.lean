/- Rul Mrw AskA Sha Rot Mix -/
import Derived.Test.YtifcdjmcoibblaaGreatDoorLq09
import Derived.Test.YtifcdjmcoibblaaGreatDoorLq07
import Derived.WalkKit
import Derived.Laws.BitsLemmas
import Derived.Test.YtifcdjmcoibblaaGreatDoorProg
import Derived.Test.YtifcdjmcoibblaaGreatDoorLq06
import Derived.Lib.Hide
import Derived.Test.YtifcdjmcoibblaaGreatDoorLq01
set_option linter.unusedVariables false
set_option linter.unusedSimpArgs false
set_option linter.unusedSectionVars false
set_option maxRecDepth 100000
set_option maxHeartbeats 80000000
namespace Go.Proofs.YtifcdjmcoibblaaGreatDoor
section
open Go.RowKit
def szB (d:ByteArray):Prop:=d.toList.isEmpty=true∨d.size=32
theorem szB_nil:szB (ByteArray.mk #[]):=.inl (by simp)
structure GLaw (G:ByteArray→List ByteArray→Prop):Prop where
 one:∀d l l',G d l→G d l'→l=l'
 len:∀d l,G d l→l.length≤60
structure Ok (G:ByteArray→List ByteArray→Prop) (s:StB):Prop where
 inv:InvS szB s
 gi:GI szB G s
theorem Ok.rule {G:ByteArray→List ByteArray→Prop} {s s':StB} (h:Ok G s) {k:Nat} (he:s.rule k=some s'):Ok G s':=⟨(rule_inv h.inv he).1,rule_G h.inv h.gi he⟩
theorem Ok.coh {G:ByteArray→List ByteArray→Prop} {s:StB} (h:Ok G s) (g:GLaw G):CohS s:=h.gi.coh g.one
theorem Ok.mine {G:ByteArray→List ByteArray→Prop} {s:StB} (h:Ok G s):s.mine.length≤1000:=Nat.le_trans h.inv.mine_len (by omega)
theorem Ok.stand {G:ByteArray→List ByteArray→Prop} {s:StB} (h:Ok G s):s.stand.length≤1000:=Nat.le_trans h.inv.stand_len (by omega)
def RuleE (R:Nat→Prop) (w:World) (x:Nat) (o:Option StB) (e:Ending) (w':World):Prop:=
 match o with
 | none=>e = .returned (.bool false)∧Below w.heap.size w w'
 | some s'=>e = .returned (.bool true)∧Turned R w x s' w'
theorem Turned.after {R:Nat→Prop} {w w1 w2:World} {x:Nat} {s':StB} (hb:Below w.heap.size w w1) (h:Turned R w1 x s' w2):Turned R w x s' w2:=by
 obtain ⟨p',R',h1,h2,h3⟩:=h;have hs:=hb.size;exact ⟨p',R',h1,(Chg.of_below hb (fun k q1 q2=>by omega)).trans (h2.mono (fun k _ hk=>.inl hk)),⟨h3.1,fun k hk=>by
  rcases h3.2 k hk with q | q
  ·exact .inl q
  exact .inr (Nat.le_trans hs q)⟩⟩
theorem Turned.then {R:Nat→Prop} {w w1 w2:World} {x:Nat} {s':StB} (h:Turned R w x s' w1) (hb:Below w1.heap.size w1 w2):Turned R w x s' w2:=by
 obtain ⟨p',R',h1,h2,h3⟩:=h;exact ⟨p',R',h1.below hb,h2.trans (Chg.of_below hb (fun k q1 q2=>by omega)),h3⟩
theorem Turned.node {R:Nat→Prop} {w w1:World} {x:Nat} {s':StB} (h:Turned R w x s' w1):∃p' R',NodeP R' w1 x p' s'∧(∀w2 s2,Turned R' w1 x s2 w2→Turned R w x s2 w2):=by
 obtain ⟨p',R',h1,h2,h3⟩:=h;exact ⟨p',R',h1,fun w2 s2 h=>Turned.trans h2 h3 h⟩
end
section
open Go.RowKit
structure MRow (w:World) (b:Nat) (m:MsgB) (ao:Option Addr) (cap:Nat):Prop where
 c0:w.cell? ⟨b,0,none⟩=some (.int .i64 m.kind)
 c1:w.cell? ⟨b,1,none⟩=some (.int .i64 m.frm)
 c2:w.cell? ⟨b,2,none⟩=some (.int .i64 m.to)
 c3:w.cell? ⟨b,3,none⟩=some (.int .i64 m.height)
 c4:w.cell? ⟨b,4,none⟩=some (.int .i64 m.round)
 c5:w.cell? ⟨b,5,none⟩=some (.int .i64 m.valid)
 c6:w.cell? ⟨b,6,none⟩=some (.string m.dig)
 c7:w.cell? ⟨b,7,none⟩=some (.slice ao m.list.length cap)
 fz:∀o,w.frozen? ⟨b,o,none⟩=false
theorem MRow.of {w:World} {b:Nat} {m:MsgB} {ao:Option Addr} {cap:Nat} (h:w.heap[b]?=some (.cells (encM m (.slice ao m.list.length cap)) 36 (0,0))):MRow w b m ao cap:=by
 refine ⟨?_,?_,?_,?_,?_,?_,?_,?_,fun o=>frozen_of_row w b o _ _ h⟩ <;> (rw [cell_of_row w b _ _ _ _ h];rfl)
end
section
open Go.RowKit
theorem NodeP.lay_ques {R:Nat→Prop} {w:World} {x:Nat} {p:Ptr} {s:StB} (h:NodeP R w x p s) (k a b:Int) :
  ∃o,(Instr.mapUpdate 106 (.map (some p.ques)) (.int .i64 k) (.agg #[.int .i64 a,.int .i64 b])).run Tryz.prog w = .ok () (w.putObj p.ques o)∧NodeP R (w.putObj p.ques o) x p {s with ques:=putA k (a,b) s.ques}:=by
 obtain ⟨o,h1,h2⟩:=h.maps.ques.update (P:=Tryz.prog) keyI Tryz.underlying106 (good_st w _) (x:=iv k) ⟨k,rfl⟩ (plv (a,b));refine ⟨o,h1,?_⟩;have h3:=h2 _ (World.putObj_heap_same (o:=o) h.maps.ques.lt);rw [putV_enc (ek:=iv) (ev:=fun _=>plv) encSt_eq iv_inj] at h3;exact h.put_ques (fun k _ hk=>World.putObj_heap_other hk) (by simp [World.putObj]) h3
theorem NodeP.lay_del {R:Nat→Prop} {w:World} {x:Nat} {p:Ptr} {s:StB} (h:NodeP R w x p s) (k:Int) (t:TypeId) :
  ∃o,(Builtin.delete_ #[106,3] t #[.map (some p.ques),.int .i64 k]).run Tryz.prog w = .ok (.tuple #[]) (w.putObj p.ques o)∧NodeP R (w.putObj p.ques o) x p {s with ques:=delA k s.ques}:=by
 obtain ⟨o,h1,h2⟩:=h.maps.ques.delete (P:=Tryz.prog) keyI Tryz.underlying106 (good_st w _) (x:=iv k) ⟨k,rfl⟩ t #[106,3] rfl;refine ⟨o,h1,?_⟩;have h3:=h2 _ (World.putObj_heap_same (o:=o) h.maps.ques.lt);rw [delV_enc (ek:=iv) (ev:=fun _=>plv) encSt_eq iv_inj] at h3;exact h.put_ques (fun k _ hk=>World.putObj_heap_other hk) (by simp [World.putObj]) h3
theorem NodeP.lay_inf {R:Nat→Prop} {w:World} {x:Nat} {p:Ptr} {s:StB} (h:NodeP R w x p s) (a b:Int) :
  ∃o,(Instr.mapUpdate 107 (.map (some p.inf)) (.agg #[.int .i64 a,.int .i64 b]) (.bool true)).run Tryz.prog w = .ok () (w.putObj p.inf o)∧NodeP R (w.putObj p.inf o) x p {s with inf:=insA (a,b) s.inf}:=by
 obtain ⟨o,h1,h2⟩:=h.maps.inf.update (P:=Tryz.prog) keyQuest Tryz.underlying107 (good_pl w _) (x:=plv (a,b)) ⟨a,b,rfl⟩ (.bool true);refine ⟨o,h1,?_⟩;have h3:=h2 _ (World.putObj_heap_same (o:=o) h.maps.inf.lt);rw [putV_set (ek:=plv) encPl_eq plv_inj] at h3;exact h.put_inf (fun k _ hk=>World.putObj_heap_other hk) (by simp [World.putObj]) h3
section
variable {R:Nat→Prop} {w:World} {x:Nat} {p:Ptr} {s:StB}
theorem decs_look (h:NodeP R w x p s) (k:Int):∃a sl,∀W,Below w.heap.size w W→(Instr.lookup 105 (.map (some p.decs)) (.int .i64 k) false).run Tryz.prog W = .ok (.agg #[.int .i64 a,.string (s.decDig k),sl]) W:=by
 obtain ⟨L,h1,h2⟩:=h.maps.decs;have q:∀W,Below w.heap.size w W→_:=fun W hW=>(h1.kept (hW.block _ h1.lt)).lookup (P:=Tryz.prog) keyI Tryz.underlying105 (good_rel W h2) (x:=iv k) ⟨k,rfl⟩ (zVal W) false;rcases getV_rel k h2 with ⟨e1,e2⟩ | ⟨v,y,e1,e2,e3⟩
 ·refine ⟨0,.slice none 0 0,fun W hW=>?_⟩;have:=q W hW;rw [e1] at this;have e:s.decDig k=ByteArray.mk #[]:=by unfold NS.decDig;rw [e2];rfl
  rw [e];exact this
 obtain ⟨sl,rfl,_⟩:=e3;refine ⟨y.round,sl,fun W hW=>?_⟩;have:=q W hW;rw [e1] at this;have e:s.decDig k=y.dig:=by unfold NS.decDig;rw [e2]
 rw [e];exact this
def tellB (s:StB) (m:MsgB):Bool:=(m.kind == 3) && !(s.proposer m.frm m.height m.round) && (m.dig.toList == (s.decDig m.height).toList)
theorem tell_iff (s:StB) (m:MsgB):tellB s m=true↔(m.kind=3∧s.proposer m.frm m.height m.round=false∧m.dig=s.decDig m.height):=by
 unfold tellB;simp only [Bool.and_eq_true,beq_iff_eq,Bool.not_eq_true',and_assoc];constructor
 ·rintro ⟨a,b,c⟩;exact ⟨a,b,toList_inj c⟩
 rintro ⟨a,b,c⟩;exact ⟨a,b,by rw [c]⟩
def dropB (s:StB) (m:MsgB):Bool:=match getA m.frm s.ques with | some q=>decide (q.1=m.height) | none=>false
theorem ask_tell {m:MsgB} (h:tellB s m=true):s.ask m = {s with inf:=insA (m.height,m.frm) s.inf,ques:=if dropB s m=true then delA m.frm s.ques else s.ques}:=by
 unfold NS.ask dropB;rw [if_pos ((tell_iff s m).1 h)];rcases getA m.frm s.ques with _ | q
 ·simp
 simp
def askB (s:StB) (m:MsgB):Bool:=match getA m.frm s.ques with | some q=>decide (q.1<m.height) || (decide (q.1=m.height) && decide (q.2<m.round)) | none=>true
theorem ask_known {m:MsgB} (h:tellB s m=false) (h2:(m.height,m.frm)∈s.inf):s.ask m=s:=by
 unfold NS.ask;rw [if_neg (fun q=>by rw [(tell_iff s m).2 q] at h;cases h),if_pos h2]
theorem ask_new {m:MsgB} (h:tellB s m=false) (h2:(m.height,m.frm)∉s.inf):s.ask m=if askB s m=true then {s with ques:=putA m.frm (m.height,m.round) s.ques} else s:=by
 unfold NS.ask askB;rw [if_neg (fun q=>by rw [(tell_iff s m).2 q] at h;cases h),if_neg h2];rcases getA m.frm s.ques with _ | q
 ·simp
 simp
end
end
abbrev Wd:=BitVec 32
def rotR (x:Wd) (n:Nat):Wd:=(x >>> n) ||| (x <<< (32 - n))
def ss0 (x:Wd):Wd:=rotR x 7 ^^^ rotR x 18 ^^^ (x >>> 3)
def ss1 (x:Wd):Wd:=rotR x 17 ^^^ rotR x 19 ^^^ (x >>> 10)
def bs1 (e:Wd):Wd:=rotR e 6 ^^^ rotR e 11 ^^^ rotR e 25
def bs0 (a:Wd):Wd:=rotR a 2 ^^^ rotR a 13 ^^^ rotR a 22
def chW (e f g:Wd):Wd:=(e &&& f) ^^^ (~~~e &&& g)
def majW (a b c:Wd):Wd:=(a &&& b) ^^^ (a &&& c) ^^^ (b &&& c)
def kW:List Wd:=[
 0x428a2f98,0x71374491,0xb5c0fbcf,0xe9b5dba5,0x3956c25b,0x59f111f1,0x923f82a4,0xab1c5ed5,
 0xd807aa98,0x12835b01,0x243185be,0x550c7dc3,0x72be5d74,0x80deb1fe,0x9bdc06a7,0xc19bf174,
 0xe49b69c1,0xefbe4786,0x0fc19dc6,0x240ca1cc,0x2de92c6f,0x4a7484aa,0x5cb0a9dc,0x76f988da,
 0x983e5152,0xa831c66d,0xb00327c8,0xbf597fc7,0xc6e00bf3,0xd5a79147,0x06ca6351,0x14292967,
 0x27b70a85,0x2e1b2138,0x4d2c6dfc,0x53380d13,0x650a7354,0x766a0abb,0x81c2c92e,0x92722c85,
 0xa2bfe8a1,0xa81a664b,0xc24b8b70,0xc76c51a3,0xd192e819,0xd6990624,0xf40e3585,0x106aa070,
 0x19a4c116,0x1e376c08,0x2748774c,0x34b0bcb5,0x391c0cb3,0x4ed8aa4a,0x5b9cca4f,0x682e6ff3,
 0x748f82ee,0x78a5636f,0x84c87814,0x8cc70208,0x90befffa,0xa4506ceb,0xbef9a3f7,0xc67178f2]
def h0W:List Wd:=[0x6a09e667,0xbb67ae85,0x3c6ef372,0xa54ff53a,0x510e527f,0x9b05688c,0x1f83d9ab,0x5be0cd19]
def wordAt (b:List Nat) (i:Nat):Wd:=
 (BitVec.ofNat 32 (b.getD (4 * i) 0) <<< 24) ||| (BitVec.ofNat 32 (b.getD (4 * i+1) 0) <<< 16) ||| (BitVec.ofNat 32 (b.getD (4 * i+2) 0) <<< 8) ||| BitVec.ofNat 32 (b.getD (4 * i+3) 0)
def sched (b:List Nat):Nat→List Wd
 | 0=>[]
 | i+1=>
  let w:=sched b i
  if i<16 then w ++ [wordAt b i]
  else w ++ [w.getD (i - 16) 0+ss0 (w.getD (i - 15) 0)+w.getD (i - 7) 0+ss1 (w.getD (i - 2) 0)]
def roundW (v:List Wd) (k w:Wd):List Wd:=
 let t:=v.getD 7 0+bs1 (v.getD 4 0)+chW (v.getD 4 0) (v.getD 5 0) (v.getD 6 0)+k+w
 let u:=bs0 (v.getD 0 0)+majW (v.getD 0 0) (v.getD 1 0) (v.getD 2 0)
 [t+u,v.getD 0 0,v.getD 1 0,v.getD 2 0,v.getD 3 0+t,v.getD 4 0,v.getD 5 0,v.getD 6 0]
def roundsW (ws:List Wd) (v:List Wd):Nat→List Wd
 | 0=>v
 | i+1=>roundW (roundsW ws v i) (kW.getD i 0) (ws.getD i 0)
def blockW (h:List Wd) (b:List Nat):List Wd:=
 let v:=roundsW (sched b 64) h 64
 (List.range 8).map fun i=>h.getD i 0+v.getD i 0
def padW (n:Nat):List Nat:=
 128 :: (List.replicate ((119 - n % 64) % 64) 0 ++ (List.range 8).map fun i=>(8 * n / 2 ^ (8 * (7 - i))) % 256)
def chunksW (h:List Wd):Nat→List Nat→List Wd
 | 0,_=>h
 | k+1,b=>chunksW (blockW h (b.take 64)) k (b.drop 64)
def wordBytes (x:Wd):List Nat:=[(x >>> 24).toNat % 256,(x >>> 16).toNat % 256,(x >>> 8).toNat % 256,x.toNat % 256]
def shaW (s:List Nat):List Nat:=
 let b:=s ++ padW s.length
 (chunksW h0W (b.length / 64) b).flatMap wordBytes
theorem sha_abc:shaW [97,98,99] = [0xba,0x78,0x16,0xbf,0x8f,0x01,0xcf,0xea,0x41,0x41,0x40,0xde,0x5d,0xae,0x22,0x23,0xb0,0x03,0x61,0xa3,0x96,0x17,0x7a,0x9c,0xb4,0x10,0xff,0x61,0xf2,0x00,0x15,0xad]:=by kernel_rfl
theorem sched_len (b:List Nat):∀n,(sched b n).length=n
 | 0=>rfl
 | i+1=>by
  unfold sched;split <;> simp [sched_len b i]
theorem sched_get (b:List Nat) {i n m:Nat} (hi:i<n) (hm:n≤m):(sched b m)[i]?=(sched b n)[i]?:=by
 induction m with
 | zero=>omega
 | succ k ih=>
  rcases Nat.lt_or_ge k n with q | q
  ·have:n=k+1:=by omega
   subst this;rfl
  rw [←ih q];show (if k<16 then sched b k ++ [wordAt b k] else sched b k ++ [(sched b k).getD (k - 16) 0+ss0 ((sched b k).getD (k - 15) 0)+(sched b k).getD (k - 7) 0+ss1 ((sched b k).getD (k - 2) 0)])[i]?=_;split <;> rw [List.getElem?_append_left (by rw [sched_len];omega)]
theorem roundW_len (v:List Wd) (k w:Wd):(roundW v k w).length=8:=rfl
theorem roundsW_len (ws v:List Wd) (hv:v.length=8):∀n,(roundsW ws v n).length=8
 | 0=>hv
 | n+1=>roundW_len _ _ _
theorem blockW_len (h:List Wd) (b:List Nat):(blockW h b).length=8:=by unfold blockW;simp
theorem chunksW_len:∀(k:Nat) (h:List Wd) (b:List Nat),h.length=8→(chunksW h k b).length=8
 | 0,h,b,hh=>hh
 | k+1,h,b,_=>chunksW_len k _ _ (blockW_len h _)
theorem flat_four (l:List Wd):(l.flatMap wordBytes).length=4 * l.length:=by
 induction l with
 | nil=>rfl
 | cons x t ih=>rw [List.flatMap_cons,List.length_append,ih,List.length_cons];simp [wordBytes];omega
theorem sha_len (s:List Nat):(shaW s).length=32:=by
 unfold shaW;rw [flat_four,chunksW_len _ _ _ rfl]
theorem pad_len (n:Nat):(n+(padW n).length) % 64=0:=by
 unfold padW;simp;omega
theorem wordBytes_lt (x:Wd):∀n∈wordBytes x,n<256:=by
 intro n hn;simp [wordBytes] at hn;omega
theorem sha_lt (s:List Nat):∀n∈shaW s,n<256:=by
 intro n hn;unfold shaW at hn;obtain ⟨x,_,h⟩:=List.mem_flatMap.1 hn;exact wordBytes_lt x n h
def idW (c:Nat):List Nat:=c :: List.replicate 31 0
def lists4:List (List (List Nat)):=[[idW 1],[idW 1,idW 2],[idW 3],[idW 9]]
def valW (l:List (List Nat)):List Nat:=(2 * l.length) :: l.flatten
def digW (k:Nat):List Nat:=shaW (valW (lists4.getD k []))
theorem digW_ne:(digW 0≠digW 1∧digW 0≠digW 2∧digW 0≠digW 3)∧(digW 1≠digW 2∧digW 1≠digW 3)∧digW 2≠digW 3:=by decide +kernel
theorem ofInt_w (x:Wd):BitVec.ofInt 32 ((x.toNat:Nat):Int)=x:=by
 apply BitVec.eq_of_toNat_eq;simp
theorem wrap_w (x:Wd):IntKind.wrap .u32 ((x.toNat:Nat):Int)=((x.toNat:Nat):Int):=by
 rw [IntKind.wrap_u32];have:=x.isLt;omega
theorem wrap_addW (x y:Wd):IntKind.wrap .u32 (((x.toNat:Nat):Int)+((y.toNat:Nat):Int))=(((x+y).toNat:Nat):Int):=by
 rw [IntKind.wrap_u32,BitVec.toNat_add];omega
theorem wrap_shlW (x:Wd) (n:Nat):IntKind.wrap .u32 (((x.toNat:Nat):Int) * 2 ^ n)=(((x <<< n).toNat:Nat):Int):=by
 rw [IntKind.wrap_u32,BitVec.toNat_shiftLeft,Nat.shiftLeft_eq];rw [Int.natCast_emod,Int.natCast_mul,Int.natCast_pow];rfl
theorem shrW (x:Wd) (n:Nat):((x.toNat:Nat):Int) / 2 ^ n=(((x >>> n).toNat:Nat):Int):=by
 rw [BitVec.toNat_ushiftRight,Nat.shiftRight_eq_div_pow,Int.natCast_ediv,Int.natCast_pow];rfl
theorem orW (x y:Wd):bits BinOp.or IntKind.u32 ((x.toNat:Nat):Int) ((y.toNat:Nat):Int)=(((x ||| y).toNat:Nat):Int):=by
 show IntKind.wrap .u32 (((BitVec.ofInt 32 ((x.toNat:Nat):Int) ||| BitVec.ofInt 32 ((y.toNat:Nat):Int)).toNat:Nat):Int)=_;rw [ofInt_w,ofInt_w,wrap_w]
theorem xorW (x y:Wd):bits BinOp.xor IntKind.u32 ((x.toNat:Nat):Int) ((y.toNat:Nat):Int)=(((x ^^^ y).toNat:Nat):Int):=by
 show IntKind.wrap .u32 (((BitVec.ofInt 32 ((x.toNat:Nat):Int) ^^^ BitVec.ofInt 32 ((y.toNat:Nat):Int)).toNat:Nat):Int)=_;rw [ofInt_w,ofInt_w,wrap_w]
theorem andW (x y:Wd):bits BinOp.and IntKind.u32 ((x.toNat:Nat):Int) ((y.toNat:Nat):Int)=(((x &&& y).toNat:Nat):Int):=by
 show IntKind.wrap .u32 (((BitVec.ofInt 32 ((x.toNat:Nat):Int) &&& BitVec.ofInt 32 ((y.toNat:Nat):Int)).toNat:Nat):Int)=_;rw [ofInt_w,ofInt_w,wrap_w]
theorem rotated_any (x:Wd) (n:Nat) (h1:1≤n) (h31:n≤31) (w:World):Calls Tryz.prog 182 #[.int .u32 ((x.toNat:Nat):Int),.int .i64 (n:Int)] w fun e w'=>e = .returned (.int .u32 (((rotR x n).toNat:Nat):Int))∧w'=w.drew:=by
 go_enter Tryz.func182,Tryz.ntmps182
 have n0:(0:Int)≤(n:Int):=by omega
 have nn:¬(n:Int)<0:=by omega
 have m0:¬(32:Int) - (n:Int)<0:=by omega
 have e1:(32:Int) - (n:Int)=((32 - n:Nat):Int):=by omega
 go_wp2
 go_region
 go_wp2
 go_ret;refine ⟨?_,rfl⟩;have h2:((x.toNat:Nat):Int) * 2 ^ (32 - n) % 4294967296=(((x <<< (32 - n)).toNat:Nat):Int):=by rw [←wrap_shlW,IntKind.wrap_u32]
 rw [shrW,h2,orW];rfl
theorem and31 (n:Nat) (h1:1≤n) (h31:n≤31):bits BinOp.and IntKind.u64 (IntKind.u64.wrap (-(n:Int))) 31=((32 - n:Nat):Int):=by
 have h:∀k:Fin 31,bits BinOp.and IntKind.u64 (IntKind.u64.wrap (-((k.val+1:Nat):Int))) 31=((32 - (k.val+1):Nat):Int):=by decide +kernel
 have q:=h ⟨n - 1,by omega⟩;rw [show (⟨n - 1,by omega⟩:Fin 31).val+1=n from by show n - 1+1=n;omega] at q;exact q
theorem rotl_any (x:Wd) (n:Nat) (h1:1≤n) (h31:n≤31) (w:World):Calls Tryz.prog 222 #[.int .u32 ((x.toNat:Nat):Int),.int .i64 (-(n:Int))] w fun e w'=>e = .returned (.int .u32 (((rotR x n).toNat:Nat):Int))∧w=w':=by
 have ha:=and31 n h1 h31;have s0:¬((32 - n:Nat):Int)<0:=by omega
 have e1:(32:Int) - ((32 - n:Nat):Int)=(n:Int):=by omega
 have nn:¬(n:Int)<0:=by omega
 have hw:IntKind.u64.wrap (n:Int)=(n:Int):=by rw [IntKind.wrap_u64];omega
 go_enter Tryz.func222,Tryz.ntmps222
 go_wp2
 go_ret;refine ⟨?_,rfl⟩;have h2:((x.toNat:Nat):Int) * 2 ^ (32 - n) % 4294967296=(((x <<< (32 - n)).toNat:Nat):Int):=by rw [←wrap_shlW,IntKind.wrap_u32]
 rw [shrW,h2,orW];show Ending.returned (Value.int .u32 (((x <<< (32 - n) ||| x >>> n).toNat:Nat):Int))=_;rw [BitVec.or_comm];rfl
section
open Go.RowKit
def encN1 (n:Nat):List Value:=[.int .i64 (n:Int)]
def mixW (x:Wd) (ns:List Nat):Wd:=ns.foldl (fun a n=>a ^^^ rotR x n) 0
theorem mixed_any (x:Wd) (ao:Option Addr) (ln cap:Nat) (ns:List Nat) (w:World) (hln:ns.length=ln) (hn:ln≤1000) (hr:∀n∈ns,1≤n∧n≤31) (hrow:RowK 1 encN1 w ao ns) :
  Calls Tryz.prog 180 #[.int .u32 ((x.toNat:Nat):Int),.slice ao ln cap] w fun e w'=>e = .returned (.int .u32 (((mixW x ns).toNat:Nat):Int))∧w=w':=by
 have HL:=Hd hln;have HR:=Hd hr;have HW:=Hd hrow;clear hln hr hrow;go_enter Tryz.func180,Tryz.ntmps180
 go_wp2
 go_loopw [5,10] (fun o j wr=>wr=w∧∃k:Nat,k≤ln∧j = .int .i64 (k:Int)∧o = .int .u32 (((mixW x (ns.take k)).toNat:Nat):Int)) (fun _ j _=>ln - (intOf j).toNat)
 case atStart=>exact ⟨rfl,0,Nat.zero_le _,rfl,rfl⟩
 case round=>
  obtain ⟨rfl,k,hk,rfl,rfl⟩:=hrel;have k0:(0:Int)≤(k:Int):=by omega
  by_cases hlt:k<ln
  ·have k1:(k:Int)<(ln:Int):=by omega
   have hkl:k<ns.length:=by rw [HL.out];exact hlt
   obtain ⟨g,o,rfl,_,hce⟩:=HW.out k ns[k] (List.getElem?_eq_getElem hkl);have ce:wr.cell? ⟨g,o+k,none⟩=some (.int .i64 ((ns[k]:Nat):Int)):=by have q:=hce 0 _ rfl;rwa [Nat.mul_one,Nat.add_zero] at q
   have hnk:=HR.out ns[k] (List.getElem_mem hkl);have NX:=Hd (show mixW x (ns.take (k+1))=mixW x (ns.take k) ^^^ rotR x ns[k] from by
    unfold mixW;rw [List.take_succ_eq_append_getElem hkl,List.foldl_append];rfl)
   obtain ⟨n,hnn⟩:∃n,ns[k]=n:=⟨_,rfl⟩;rw [hnn] at ce hnk NX;have RT:=Hd (rotl_any x n hnk.1 hnk.2 wr);obtain ⟨a,ha⟩:∃a,mixW x (ns.take k)=a:=⟨_,rfl⟩;obtain ⟨b,hb⟩:∃b,rotR x n=b:=⟨_,rfl⟩;rw [ha,hb] at NX;rw [hb] at RT;rw [ha];have hx:=xorW a b;have n0:(0:Int)≤(n:Int):=by omega
   have n31:(n:Int)≤31:=by omega
   have nw:IntKind.i64.wrap (-(n:Int)) = -(n:Int):=by rw [IntKind.wrap_i64];omega
   have nw2:wrap64 (-(n:Int)) = -(n:Int):=by unfold wrap64;omega
   clear hce hkl hnn ha hb hnk;go_wp2_with (first | (go_at_call 222;(with_reducible refine RT.out.mono ?_);rintro e w' ⟨rfl,rfl⟩))
   go_roundw
   case rel=>exact ⟨trivial,k+1,by omega,by go_num,by rw [NX.out];first | rfl | (rw [hx]) | trace_state⟩
   case measure=>simp [intOf];omega
  have k1:¬(k:Int)<(ln:Int):=by omega
  have hkn:ns.take k=ns:=List.take_of_length_le (by rw [HL.out];omega);rw [hkn];clear hkn;go_wp2
  go_ret;exact ⟨rfl,rfl⟩
end
end Go.Proofs.YtifcdjmcoibblaaGreatDoor
