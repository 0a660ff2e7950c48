/- Rul Mrw AskA Sha Rot Mix -/
import Derived.Test.YtifcdjmcoibblaaGreatDoorAq09
set_option linter.unusedVariables false
set_option linter.unusedSimpArgs false
set_option linter.unusedSectionVars false
set_option maxRecDepth 100000
set_option maxHeartbeats 80000000
namespace Go.Proofs.YtifcdjmcoibblaaGreatDoor
section
open Go.RowKit
def szB (d:ByteArray):Prop:=d.toList.isEmpty=true∨d.size=32
theorem Z7s:szB (ByteArray.mk #[]):=.inl (by simp)
structure Zin (G:ByteArray->List ByteArray->Prop):Prop where
 one:∀d l l',G d l->G d l'->l=l'
 len:∀d l,G d l->l.length<=60
structure Ok (G:ByteArray->List ByteArray->Prop) (s:StB):Prop where
 inv:Z0x szB s
 gi:GI szB G s
theorem Ok.rule {G:ByteArray->List ByteArray->Prop} {s s':StB} (h:Ok G s) {k:Nat} (he:s.rule k=some s'):Ok G s':=⟨(Zbs h.inv he).1,Zpl h.inv h.gi he⟩
theorem Ok.coh {G:ByteArray->List ByteArray->Prop} {s:StB} (h:Ok G s) (g:Zin G):Zsp s:=h.gi.coh g.one
theorem Ok.mine {G:ByteArray->List ByteArray->Prop} {s:StB} (h:Ok G s):s.mine.length<=1000:=Nat.le_trans h.inv.mine_len (by omega)
theorem Ok.stand {G:ByteArray->List ByteArray->Prop} {s:StB} (h:Ok G s):s.stand.length<=1000:=Nat.le_trans h.inv.stand_len (by omega)
def Z7t (R:Nat->Prop) (w:World) (x:Nat) (o:Option StB) (e:Ending) (w':World):Prop:=
 match o with
 | none=>e = .returned (.bool false)∧Below w.heap.size w w'
 | some s'=>e = .returned (.bool true)∧Z06 R w x s' w'
theorem Z06.after {R:Nat->Prop} {w w1 w2:World} {x:Nat} {s':StB} (hb:Below w.heap.size w w1) (h:Z06 R w1 x s' w2):Z06 R w x s' w2:=by
 obtain ⟨p',R',h1,h2,h3⟩:=h;have hs:=hb.size;exact ⟨p',R',h1,(Chg.of_below hb (λk q1 q2=>by omega)).trans (h2.mono (λk _ hk=>.inl hk)),⟨h3.1,λk hk=>by
  rcases h3.2 k hk with q | q
  ·exact .inl q
  exact .inr (Nat.le_trans hs q)⟩⟩
theorem Z06.then {R:Nat->Prop} {w w1 w2:World} {x:Nat} {s':StB} (h:Z06 R w x s' w1) (hb:Below w1.heap.size w1 w2):Z06 R w x s' w2:=by
 obtain ⟨p',R',h1,h2,h3⟩:=h;exact ⟨p',R',h1.below hb,h2.trans (Chg.of_below hb (λk q1 q2=>by omega)),h3⟩
theorem Z06.node {R:Nat->Prop} {w w1:World} {x:Nat} {s':StB} (h:Z06 R w x s' w1):∃p' R',Z00 R' w1 x p' s'∧(∀w2 s2,Z06 R' w1 x s2 w2->Z06 R w x s2 w2):=by
 obtain ⟨p',R',h1,h2,h3⟩:=h;exact ⟨p',R',h1,λw2 s2 h=>Z06.trans h2 h3 h⟩
end
section
open Go.RowKit
structure Z1y (w:World) (b:Nat) (m:Z0k) (ao:Option Addr) (cap:Nat):Prop where
 c0:w.cell? ⟨b,0,none⟩=some (.int .i64 m.kind)
 c1:w.cell? ⟨b,1,none⟩=some (.int .i64 m.frm)
 c2:w.cell? ⟨b,2,none⟩=some (.int .i64 m.to)
 c3:w.cell? ⟨b,3,none⟩=some (.int .i64 m.height)
 c4:w.cell? ⟨b,4,none⟩=some (.int .i64 m.round)
 c5:w.cell? ⟨b,5,none⟩=some (.int .i64 m.valid)
 c6:w.cell? ⟨b,6,none⟩=some (.string m.dig)
 c7:w.cell? ⟨b,7,none⟩=some (.slice ao m.list.length cap)
 fz:∀o,w.frozen? ⟨b,o,none⟩=false
theorem Z1y.of {w:World} {b:Nat} {m:Z0k} {ao:Option Addr} {cap:Nat} (h:w.heap[b]?=some (.cells (Z0l m (.slice ao m.list.length cap)) 36 (0,0))):Z1y w b m ao cap:=by
 refine ⟨?_,?_,?_,?_,?_,?_,?_,?_,λo=>frozen_of_row w b o _ _ h⟩ <;> (rw [cell_of_row w b _ _ _ _ h];rfl)
end
section
open Go.RowKit
theorem Z00.lay_ques {R:Nat->Prop} {w:World} {x:Nat} {p:Ptr} {s:StB} (h:Z00 R w x p s) (k a b:Int) :
  ∃o,(Instr.mapUpdate 106 (.map (some p.ques)) (.int .i64 k) (.agg #[.int .i64 a,.int .i64 b])).run Tryz.prog w = .ok () (w.putObj p.ques o)∧Z00 R (w.putObj p.ques o) x p {s with ques:=Z18 k (a,b) s.ques}:=by
 obtain ⟨o,h1,h2⟩:=h.maps.ques.update (P:=Tryz.prog) Zku Tryz.underlying106 (Z93 w _) (x:=iv k) ⟨k,rfl⟩ (plv (a,b));refine ⟨o,h1,?_⟩;have h3:=h2 _ (World.putObj_heap_same (o:=o) h.maps.ques.lt);rw [Z5g (ek:=iv) (ev:=λ_=>plv) Z6x Zdq] at h3;exact h.put_ques (λk _ hk=>World.putObj_heap_other hk) (by simp [World.putObj]) h3
theorem Z00.lay_del {R:Nat->Prop} {w:World} {x:Nat} {p:Ptr} {s:StB} (h:Z00 R w x p s) (k:Int) (t:TypeId) :
  ∃o,(Builtin.delete_ #[106,3] t #[.map (some p.ques),.int .i64 k]).run Tryz.prog w = .ok (.tuple #[]) (w.putObj p.ques o)∧Z00 R (w.putObj p.ques o) x p {s with ques:=Zk4 k s.ques}:=by
 obtain ⟨o,h1,h2⟩:=h.maps.ques.delete (P:=Tryz.prog) Zku Tryz.underlying106 (Z93 w _) (x:=iv k) ⟨k,rfl⟩ t #[106,3] rfl;refine ⟨o,h1,?_⟩;have h3:=h2 _ (World.putObj_heap_same (o:=o) h.maps.ques.lt);rw [Zhg (ek:=iv) (ev:=λ_=>plv) Z6x Zdq] at h3;exact h.put_ques (λk _ hk=>World.putObj_heap_other hk) (by simp [World.putObj]) h3
theorem Z00.lay_inf {R:Nat->Prop} {w:World} {x:Nat} {p:Ptr} {s:StB} (h:Z00 R w x p s) (a b:Int) :
  ∃o,(Instr.mapUpdate 107 (.map (some p.inf)) (.agg #[.int .i64 a,.int .i64 b]) (.bool true)).run Tryz.prog w = .ok () (w.putObj p.inf o)∧Z00 R (w.putObj p.inf o) x p {s with inf:=Z2j (a,b) s.inf}:=by
 obtain ⟨o,h1,h2⟩:=h.maps.inf.update (P:=Tryz.prog) Zhc Tryz.underlying107 (Zby w _) (x:=plv (a,b)) ⟨a,b,rfl⟩ (.bool true);refine ⟨o,h1,?_⟩;have h3:=h2 _ (World.putObj_heap_same (o:=o) h.maps.inf.lt);rw [Z6v (ek:=plv) Z8i Zbz] at h3;exact h.put_inf (λk _ hk=>World.putObj_heap_other hk) (by simp [World.putObj]) h3
section
variable {R:Nat->Prop} {w:World} {x:Nat} {p:Ptr} {s:StB}
theorem Zl4 (h:Z00 R w x p s) (k:Int):∃a sl,∀W,Below w.heap.size w W->(Instr.lookup 105 (.map (some p.decs)) (.int .i64 k) false).run Tryz.prog W = .ok (.agg #[.int .i64 a,.string (s.decDig k),sl]) W:=by
 obtain ⟨L,h1,h2⟩:=h.maps.decs;have q:∀W,Below w.heap.size w W->_:=λW hW=>(h1.kept (hW.block _ h1.lt)).lookup (P:=Tryz.prog) Zku Tryz.underlying105 (Z5h W h2) (x:=iv k) ⟨k,rfl⟩ (Zta W) false;rcases Z8g k h2 with ⟨e1,e2⟩ | ⟨v,y,e1,e2,e3⟩
 ·refine ⟨0,.slice none 0 0,λW hW=>?_⟩;have:=q W hW;rw [e1] at this;have e:s.decDig k=ByteArray.mk #[]:=by unfold NS.decDig;rw [e2];rfl
  rw [e];exact this
 obtain ⟨sl,rfl,_⟩:=e3;refine ⟨y.round,sl,λW hW=>?_⟩;have:=q W hW;rw [e1] at this;have e:s.decDig k=y.dig:=by unfold NS.decDig;rw [e2]
 rw [e];exact this
def Zio (s:StB) (m:Z0k):Bool:=(m.kind == 3) && !(s.proposer m.frm m.height m.round) && (m.dig.toList == (s.decDig m.height).toList)
theorem Zc4 (s:StB) (m:Z0k):Zio s m=true↔(m.kind=3∧s.proposer m.frm m.height m.round=false∧m.dig=s.decDig m.height):=by
 unfold Zio;simp only [Bool.and_eq_true,beq_iff_eq,Bool.not_eq_true',and_assoc];constructor
 ·rintro ⟨a,b,c⟩;exact ⟨a,b,toList_inj c⟩
 rintro ⟨a,b,c⟩;exact ⟨a,b,by rw [c]⟩
def Znw (s:StB) (m:Z0k):Bool:=match Z02 m.frm s.ques with | some q=>decide (q.1=m.height) | none=>false
theorem Znx {m:Z0k} (h:Zio s m=true):s.ask m = {s with inf:=Z2j (m.height,m.frm) s.inf,ques:=if Znw s m=true then Zk4 m.frm s.ques else s.ques}:=by
 unfold NS.ask Znw;rw [if_pos ((Zc4 s m).1 h)];rcases Z02 m.frm s.ques with _ | q
 ·simp
 simp
def Zst (s:StB) (m:Z0k):Bool:=match Z02 m.frm s.ques with | some q=>decide (q.1<m.height) || (decide (q.1=m.height) && decide (q.2<m.round)) | none=>true
theorem Zl5 {m:Z0k} (h:Zio s m=false) (h2:(m.height,m.frm)∈s.inf):s.ask m=s:=by
 unfold NS.ask;rw [if_neg (λq=>by rw [(Zc4 s m).2 q] at h;cases h),if_pos h2]
theorem Zqg {m:Z0k} (h:Zio s m=false) (h2:(m.height,m.frm)∉s.inf):s.ask m=if Zst s m=true then {s with ques:=Z18 m.frm (m.height,m.round) s.ques} else s:=by
 unfold NS.ask Zst;rw [if_neg (λq=>by rw [(Zc4 s m).2 q] at h;cases h),if_neg h2];rcases Z02 m.frm s.ques with _ | q
 ·simp
 simp
end
end
abbrev Wd:=BitVec 32
def Z3y (x:Wd) (n:Nat):Wd:=(x >>> n) ||| (x <<< (32 - n))
def ss0 (x:Wd):Wd:=Z3y x 7 ^^^ Z3y x 18 ^^^ (x >>> 3)
def ss1 (x:Wd):Wd:=Z3y x 17 ^^^ Z3y x 19 ^^^ (x >>> 10)
def bs1 (e:Wd):Wd:=Z3y e 6 ^^^ Z3y e 11 ^^^ Z3y e 25
def bs0 (a:Wd):Wd:=Z3y a 2 ^^^ Z3y a 13 ^^^ Z3y a 22
def chW (e f g:Wd):Wd:=(e &&& f) ^^^ (~~~e &&& g)
def Zrz (a b c:Wd):Wd:=(a &&& b) ^^^ (a &&& c) ^^^ (b &&& c)
def kW:List Wd:=[
 0x428a2f98,0x71374491,0xb5c0fbcf,0xe9b5dba5,0x3956c25b,0x59f111f1,0x923f82a4,0xab1c5ed5,
 0xd807aa98,0x12835b01,0x243185be,0x550c7dc3,0x72be5d74,0x80deb1fe,0x9bdc06a7,0xc19bf174,
 0xe49b69c1,0xefbe4786,0x0fc19dc6,0x240ca1cc,0x2de92c6f,0x4a7484aa,0x5cb0a9dc,0x76f988da,
 0x983e5152,0xa831c66d,0xb00327c8,0xbf597fc7,0xc6e00bf3,0xd5a79147,0x06ca6351,0x14292967,
 0x27b70a85,0x2e1b2138,0x4d2c6dfc,0x53380d13,0x650a7354,0x766a0abb,0x81c2c92e,0x92722c85,
 0xa2bfe8a1,0xa81a664b,0xc24b8b70,0xc76c51a3,0xd192e819,0xd6990624,0xf40e3585,0x106aa070,
 0x19a4c116,0x1e376c08,0x2748774c,0x34b0bcb5,0x391c0cb3,0x4ed8aa4a,0x5b9cca4f,0x682e6ff3,
 0x748f82ee,0x78a5636f,0x84c87814,0x8cc70208,0x90befffa,0xa4506ceb,0xbef9a3f7,0xc67178f2]
def h0W:List Wd:=[0x6a09e667,0xbb67ae85,0x3c6ef372,0xa54ff53a,0x510e527f,0x9b05688c,0x1f83d9ab,0x5be0cd19]
def Z72 (b:List Nat) (i:Nat):Wd:=
 (BitVec.ofNat 32 (b.getD (4 * i) 0) <<< 24) ||| (BitVec.ofNat 32 (b.getD (4 * i+1) 0) <<< 16) ||| (BitVec.ofNat 32 (b.getD (4 * i+2) 0) <<< 8) ||| BitVec.ofNat 32 (b.getD (4 * i+3) 0)
def Z0o (b:List Nat):Nat->List Wd
 | 0=>[]
 | i+1=>
  let w:=Z0o b i
  if i<16 then w ++ [Z72 b i]
  else w ++ [w.getD (i - 16) 0+ss0 (w.getD (i - 15) 0)+w.getD (i - 7) 0+ss1 (w.getD (i - 2) 0)]
def Zhl (v:List Wd) (k w:Wd):List Wd:=
 let t:=v.getD 7 0+bs1 (v.getD 4 0)+chW (v.getD 4 0) (v.getD 5 0) (v.getD 6 0)+k+w
 let u:=bs0 (v.getD 0 0)+Zrz (v.getD 0 0) (v.getD 1 0) (v.getD 2 0)
 [t+u,v.getD 0 0,v.getD 1 0,v.getD 2 0,v.getD 3 0+t,v.getD 4 0,v.getD 5 0,v.getD 6 0]
def Z1o (ws:List Wd) (v:List Wd):Nat->List Wd
 | 0=>v
 | i+1=>Zhl (Z1o ws v i) (kW.getD i 0) (ws.getD i 0)
def Z4r (h:List Wd) (b:List Nat):List Wd:=
 let v:=Z1o (Z0o b 64) h 64
 (List.range 8).map λi=>h.getD i 0+v.getD i 0
def Zhm (n:Nat):List Nat:=
 128 :: (List.replicate ((119 - n % 64) % 64) 0 ++ (List.range 8).map λi=>(8 * n / 2 ^ (8 * (7 - i))) % 256)
def Z1p (h:List Wd):Nat->List Nat->List Wd
 | 0,_=>h
 | k+1,b=>Z1p (Z4r h (b.take 64)) k (b.drop 64)
def Z08 (x:Wd):List Nat:=[(x >>> 24).toNat % 256,(x >>> 16).toNat % 256,(x >>> 8).toNat % 256,x.toNat % 256]
def Zg0 (s:List Nat):List Nat:=
 let b:=s ++ Zhm s.length
 (Z1p h0W (b.length / 64) b).flatMap Z08
theorem Z1j (b:List Nat):∀n,(Z0o b n).length=n
 | 0=>rfl
 | i+1=>by
  unfold Z0o;split <;> simp [Z1j b i]
theorem Zip (v:List Wd) (k w:Wd):(Zhl v k w).length=8:=rfl
theorem Z6a (ws v:List Wd) (hv:v.length=8):∀n,(Z1o ws v n).length=8
 | 0=>hv
 | n+1=>Zip _ _ _
theorem Ziq (h:List Wd) (b:List Nat):(Z4r h b).length=8:=by unfold Z4r;simp
theorem Z1q:∀(k:Nat) (h:List Wd) (b:List Nat),h.length=8->(Z1p h k b).length=8
 | 0,h,b,hh=>hh
 | k+1,h,b,_=>Z1q k _ _ (Ziq h _)
theorem Z73 (l:List Wd):(l.flatMap Z08).length=4 * l.length:=by
 induction l with
 | nil=>rfl
 | cons x t ih=>rw [List.flatMap_cons,List.length_append,ih,List.length_cons];simp [Z08];omega
theorem Zl6 (s:List Nat):(Zg0 s).length=32:=by
 unfold Zg0;rw [Z73,Z1q _ _ _ rfl]
theorem Zl7 (n:Nat):(n+(Zhm n).length) % 64=0:=by
 unfold Zhm;simp;omega
def Zsu (l:List (List Nat)):List Nat:=(2 * l.length) :: l.flatten
theorem Z7u (x:Wd):BitVec.ofInt 32 ((x.toNat:Nat):Int)=x:=by
 apply BitVec.eq_of_toNat_eq;simp
theorem Zl8 (x:Wd):IntKind.wrap .u32 ((x.toNat:Nat):Int)=((x.toNat:Nat):Int):=by
 rw [IntKind.wrap_u32];have:=x.isLt;omega
theorem Z16 (x y:Wd):IntKind.wrap .u32 (((x.toNat:Nat):Int)+((y.toNat:Nat):Int))=(((x+y).toNat:Nat):Int):=by
 rw [IntKind.wrap_u32,BitVec.toNat_add];omega
theorem Z2t (x:Wd) (n:Nat):IntKind.wrap .u32 (((x.toNat:Nat):Int) * 2 ^ n)=(((x <<< n).toNat:Nat):Int):=by
 rw [IntKind.wrap_u32,BitVec.toNat_shiftLeft,Nat.shiftLeft_eq];rw [Int.natCast_emod,Int.natCast_mul,Int.natCast_pow];rfl
theorem Zpp (x:Wd) (n:Nat):((x.toNat:Nat):Int) / 2 ^ n=(((x >>> n).toNat:Nat):Int):=by
 rw [BitVec.toNat_ushiftRight,Nat.shiftRight_eq_div_pow,Int.natCast_ediv,Int.natCast_pow];rfl
theorem orW (x y:Wd):bits BinOp.or IntKind.u32 ((x.toNat:Nat):Int) ((y.toNat:Nat):Int)=(((x ||| y).toNat:Nat):Int):=by
 show IntKind.wrap .u32 (((BitVec.ofInt 32 ((x.toNat:Nat):Int) ||| BitVec.ofInt 32 ((y.toNat:Nat):Int)).toNat:Nat):Int)=_;rw [Z7u,Z7u,Zl8]
theorem Zfe (x y:Wd):bits BinOp.xor IntKind.u32 ((x.toNat:Nat):Int) ((y.toNat:Nat):Int)=(((x ^^^ y).toNat:Nat):Int):=by
 show IntKind.wrap .u32 (((BitVec.ofInt 32 ((x.toNat:Nat):Int) ^^^ BitVec.ofInt 32 ((y.toNat:Nat):Int)).toNat:Nat):Int)=_;rw [Z7u,Z7u,Zl8]
theorem Znb (x y:Wd):bits BinOp.and IntKind.u32 ((x.toNat:Nat):Int) ((y.toNat:Nat):Int)=(((x &&& y).toNat:Nat):Int):=by
 show IntKind.wrap .u32 (((BitVec.ofInt 32 ((x.toNat:Nat):Int) &&& BitVec.ofInt 32 ((y.toNat:Nat):Int)).toNat:Nat):Int)=_;rw [Z7u,Z7u,Zl8]
theorem Z1c (x:Wd) (n:Nat) (h1:1<=n) (h31:n<=31) (w:World):Calls Tryz.prog 182 #[.int .u32 ((x.toNat:Nat):Int),.int .i64 (n:Int)] w λe w'=>e = .returned (.int .u32 (((Z3y x n).toNat:Nat):Int))∧w'=w.drew:=by
 go_enter Tryz.func182,Tryz.ntmps182
 have n0:(0:Int)<=(n:Int):=by omega
 have nn:¬(n:Int)<0:=by omega
 have m0:¬(32:Int) - (n:Int)<0:=by omega
 have e1:(32:Int) - (n:Int)=((32 - n:Nat):Int):=by omega
 go_wp2
 go_region
 go_wp2
 go_ret;refine ⟨?_,rfl⟩;have h2:((x.toNat:Nat):Int) * 2 ^ (32 - n) % 4294967296=(((x <<< (32 - n)).toNat:Nat):Int):=by rw [<-Z2t,IntKind.wrap_u32]
 rw [Zpp,h2,orW];rfl
theorem Ztc (n:Nat) (h1:1<=n) (h31:n<=31):bits BinOp.and IntKind.u64 (IntKind.u64.wrap (-(n:Int))) 31=((32 - n:Nat):Int):=by
 have h:∀k:Fin 31,bits BinOp.and IntKind.u64 (IntKind.u64.wrap (-((k.val+1:Nat):Int))) 31=((32 - (k.val+1):Nat):Int):=by decide +kernel
 have q:=h ⟨n - 1,by omega⟩;rw [show (⟨n - 1,by omega⟩:Fin 31).val+1=n from by show n - 1+1=n;omega] at q;exact q
theorem Zny (x:Wd) (n:Nat) (h1:1<=n) (h31:n<=31) (w:World):Calls Tryz.prog 222 #[.int .u32 ((x.toNat:Nat):Int),.int .i64 (-(n:Int))] w λe w'=>e = .returned (.int .u32 (((Z3y x n).toNat:Nat):Int))∧w=w':=by
 have ha:=Ztc n h1 h31;have s0:¬((32 - n:Nat):Int)<0:=by omega
 have e1:(32:Int) - ((32 - n:Nat):Int)=(n:Int):=by omega
 have nn:¬(n:Int)<0:=by omega
 have hw:IntKind.u64.wrap (n:Int)=(n:Int):=by rw [IntKind.wrap_u64];omega
 go_enter Tryz.func222,Tryz.ntmps222
 go_wp2
 go_ret;refine ⟨?_,rfl⟩;have h2:((x.toNat:Nat):Int) * 2 ^ (32 - n) % 4294967296=(((x <<< (32 - n)).toNat:Nat):Int):=by rw [<-Z2t,IntKind.wrap_u32]
 rw [Zpp,h2,orW];show Ending.returned (Value.int .u32 (((x <<< (32 - n) ||| x >>> n).toNat:Nat):Int))=_;rw [BitVec.or_comm];rfl
section
open Go.RowKit
def Znz (n:Nat):List Value:=[.int .i64 (n:Int)]
def Znc (x:Wd) (ns:List Nat):Wd:=ns.foldl (λa n=>a ^^^ Z3y x n) 0
theorem Zdz (x:Wd) (ao:Option Addr) (ln cap:Nat) (ns:List Nat) (w:World) (hln:ns.length=ln) (hn:ln<=1000) (hr:∀n∈ns,1<=n∧n<=31) (hrow:Z1l 1 Znz w ao ns) :
  Calls Tryz.prog 180 #[.int .u32 ((x.toNat:Nat):Int),.slice ao ln cap] w λe w'=>e = .returned (.int .u32 (((Znc x ns).toNat:Nat):Int))∧w=w':=by
 have HL:=Hd hln;have HR:=Hd hr;have HW:=Hd hrow;clear hln hr hrow;go_enter Tryz.func180,Tryz.ntmps180
 go_wp2
 go_loopw [5,10] (λo j wr=>wr=w∧∃k:Nat,k<=ln∧j = .int .i64 (k:Int)∧o = .int .u32 (((Znc x (ns.take k)).toNat:Nat):Int)) (λ_ j _=>ln - (intOf j).toNat)
 case atStart=>exact ⟨rfl,0,Nat.zero_le _,rfl,rfl⟩
 case round=>
  obtain ⟨rfl,k,hk,rfl,rfl⟩:=hrel;have k0:(0:Int)<=(k:Int):=by omega
  by_cases hlt:k<ln
  ·have k1:(k:Int)<(ln:Int):=by omega
   have hkl:k<ns.length:=by rw [HL.out];exact hlt
   obtain ⟨g,o,rfl,_,hce⟩:=HW.out k ns[k] (List.getElem?_eq_getElem hkl);have ce:wr.cell? ⟨g,o+k,none⟩=some (.int .i64 ((ns[k]:Nat):Int)):=by have q:=hce 0 _ rfl;rwa [Nat.mul_one,Nat.add_zero] at q
   have hnk:=HR.out ns[k] (List.getElem_mem hkl);have NX:=Hd (show Znc x (ns.take (k+1))=Znc x (ns.take k) ^^^ Z3y x ns[k] from by
    unfold Znc;rw [List.take_succ_eq_append_getElem hkl,List.foldl_append];rfl)
   obtain ⟨n,hnn⟩:∃n,ns[k]=n:=⟨_,rfl⟩;rw [hnn] at ce hnk NX;have RT:=Hd (Zny x n hnk.1 hnk.2 wr);obtain ⟨a,ha⟩:∃a,Znc x (ns.take k)=a:=⟨_,rfl⟩;obtain ⟨b,hb⟩:∃b,Z3y x n=b:=⟨_,rfl⟩;rw [ha,hb] at NX;rw [hb] at RT;rw [ha];have hx:=Zfe a b;have n0:(0:Int)<=(n:Int):=by omega
   have n31:(n:Int)<=31:=by omega
   have nw:IntKind.i64.wrap (-(n:Int)) = -(n:Int):=by rw [IntKind.wrap_i64];omega
   have nw2:wrap64 (-(n:Int)) = -(n:Int):=by unfold wrap64;omega
   clear hce hkl hnn ha hb hnk;go_wp2_with (first | (go_at_call 222;(with_reducible refine RT.out.mono ?_);rintro e w' ⟨rfl,rfl⟩))
   go_roundw
   case rel=>exact ⟨trivial,k+1,by omega,by go_num,by rw [NX.out];first | rfl | (rw [hx]) | trace_state⟩
   case measure=>simp [intOf];omega
  have k1:¬(k:Int)<(ln:Int):=by omega
  have hkn:ns.take k=ns:=List.take_of_length_le (by rw [HL.out];omega);rw [hkn];clear hkn;go_wp2
  go_ret;exact ⟨rfl,rfl⟩
end
end Go.Proofs.YtifcdjmcoibblaaGreatDoor
