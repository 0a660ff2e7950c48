/- RExt Put Val Fpl Fms Fcu -/
import Derived.Test.YtifcdjmcoibblaaGreatDoorFq03
import Derived.Test.YtifcdjmcoibblaaGreatDoorFq01
import Derived.Test.YtifcdjmcoibblaaGreatDoorFq11
import Derived.Test.YtifcdjmcoibblaaGreatDoorFq12
import Derived.Test.YtifcdjmcoibblaaGreatDoorFq04
import Derived.WalkSpells
import Derived.WalkLawsBesides
import Derived.BigQuiet
import Derived.Test.YtifcdjmcoibblaaGreatDoorFq16
import Derived.Test.YtifcdjmcoibblaaGreatDoorFq05
import Derived.Test.YtifcdjmcoibblaaGreatDoorFq14
import Derived.Test.YtifcdjmcoibblaaGreatDoorFq06
set_option linter.unusedVariables false
set_option linter.unusedSimpArgs false
set_option linter.unusedSectionVars false
set_option maxRecDepth 100000
set_option maxHeartbeats 80000000
namespace Go.Proofs.YtifcdjmcoibblaaGreatDoor
section
open Go.RowKit
theorem encB_len (x:Nat):(encB x).length=1:=rfl
theorem encB_one (x:Nat):∀u∈encB x,u.oneCell'=true:=by intro u hu;simp [encB] at hu;subst hu;rfl
theorem conv_row {w:World} {ao:Option Addr} {l:List Nat} (n cap:Nat) (hn:l.length=n) (hp:0<n) (h:RowK 1 encB w ao l):(convert 135 9 (.slice ao n cap)).run Tryz.prog w = .ok (.string (strB l)) w:=by
 obtain ⟨g,off,rfl,_,_⟩:=h.byte (i:=0) (by omega);have:=run_convert_bytes_arg (P:=Tryz.prog) w 135 5 Tryz.underlying135 Tryz.underlying5 g off n cap (l.map fun (n:Nat)=>(n:Int)) (by rw [List.length_map];exact hn) (fun i hi=>by
  obtain ⟨g',o',e,_,hc⟩:=h.byte (i:=i) (by omega);cases e;rw [hc,List.getD_eq_getElem?_getD,List.getD_eq_getElem?_getD,List.getElem?_map,List.getElem?_eq_getElem (by omega)];rfl) 9 Tryz.underlying9
 rwa [strOfNums_cast] at this
def OwnN (w:World) (base:Nat) (v:Value) (l:List Nat):Prop:=(v = .slice none 0 0∧l = [])∨OwnB w base v l
theorem OwnN.kept {w w':World} {base:Nat} {v:Value} {l:List Nat} (h:OwnN w base v l) (hk:∀k,base≤k→k<w.heap.size→w'.heap[k]?=w.heap[k]?):OwnN w' base v l:=h.imp id (fun h=>h.kept hk)
theorem OwnN.later {w w':World} {base:Nat} {v:Value} {l:List Nat} (h:OwnN w base v l) (hk:Below w.heap.size w w'):OwnN w' base v l:=h.imp id (fun h=>h.later hk)
theorem OwnN.alloc {w:World} {base:Nat} {v:Value} {l:List Nat} (h:OwnN w base v l) (o:Obj):OwnN (w.alloc o) base v l:=h.later ((Below.refl _ _).alloc (Nat.le_refl _) o)
theorem OwnN.form {w:World} {base:Nat} {v:Value} {l:List Nat} (h:OwnN w base v l):∃ao cap,v = .slice ao l.length cap∧((ao=none→cap=0)∧l.length≤cap)∧RowK 1 encB w ao l∧cap≤maxLen:=by
 rcases h with ⟨rfl,rfl⟩ | h
 ·exact ⟨none,0,rfl,⟨fun _=>rfl,Nat.le_refl _⟩,RowK.nil _ _ _ _,Nat.zero_le _⟩
 obtain ⟨g,cap,hv,_,h1,h2,h3⟩:=h.row;exact ⟨_,cap,hv,⟨(fun h=>by cases h),h1⟩,h3,h2⟩
theorem run_append_byteN (w:World) (ty:TypeId) (base:Nat) (v:Value) (l:List Nat) (h:OwnN w base v l) (g2 c2 b:Nat) (hc:w.cell? ⟨g2,0,none⟩=some (eB b)) (hl:l.length≤1099511627776) (hb:base≤w.heap.size) :
  ∃v' w',(Builtin.append_ #[135,135] ty #[v,.slice (some ⟨g2,0,none⟩) 1 c2]).run Tryz.prog w = .ok v' w'∧OwnB w' base v' (l ++ [b])∧Below base w w':=by
 rcases h with ⟨rfl,rfl⟩ | h
 ·obtain ⟨i,hi,hz,hs,hby⟩:=info_parts Tryz.infoB;have hnews:∀j u,([eB b]:List Value)[j]?=some u→w.cell? ((⟨g2,0,none⟩:Addr).add j)=some u:=fun j u hu=>by
   rcases j with _ | j
   ·simp at hu;subst hu;rw [add_off];exact hc
   simp at hu
  have hr:=run_append_nil (P:=Tryz.prog) w 135 ty 5 i (.int .u8 0) Tryz.underlying135 hi hz ⟨g2,0,none⟩ 1 c2 [eB b] (by rw [hs];rfl) hnews (by omega) (by omega) (by rw [hby];omega);have hge:=grownCap_ge w 1 0 5;refine ⟨_,_,hr,⟨w.heap.size,_,_,(0,0),rfl,hb,heap_alloc_new w.drew _,(fun j _=>by simp),hge,grownCap_le_maxLen w 1 0 5 (by unfold maxLen;omega),?_,?_⟩,((Below.refl base w).drew).alloc hb _⟩
  ·have hz1:(Value.int IntKind.u8 0).cells.size=1:=rfl;simp only [Array.size_append,List.size_toArray,size_zeroCells,hz1,List.length_cons,List.length_nil];omega
  simp only [Array.toList_append,List.nil_append,List.length_cons,List.length_nil];exact List.take_left' rfl
 exact run_append_byte w ty base v l h g2 c2 b hc hl hb
theorem wpList_append_byteN {w:World} {ops:Array Oper} {rest:List Oper} {o:Oper} {a:Act} {Q:Exit→Act→World→Prop} (hgd:o.guard=none) (s x:Operand)
  (ho:o.op = .call {callee:=.builtin .append,args:=#[s,x],argTypes:=#[135,135]})
  (base:Nat) (v:Value) (l:List Nat) (hs:a.eval s=v) (h:OwnN w base v l) (g2 c2 b:Nat) (hx:a.eval x = .slice (some ⟨g2,0,none⟩) 1 c2) (hc:w.cell? ⟨g2,0,none⟩=some (eB b)) (hl:l.length≤1099511627776) (hb:base≤w.heap.size)
  (hK:∀v' w',OwnB w' base v' (l ++ [b])→Below base w w'→wpList Tryz.prog ops Q rest (a.put o.dst v') w'):wpList Tryz.prog ops Q (o :: rest) a w:=by
 refine wpList_plain hgd fun K hK'=>?_;obtain ⟨v',w',hr,h2,h3⟩:=run_append_byteN w o.type base v l h g2 c2 b hc hl hb;unfold Oper.wp execOp;simp only [ho,resolve,invoke,builtin,Sem.run_bind,Sem.run_pure,Result.andThen_ok,List.map_toArray,List.map_cons,List.map_nil,hs,hx,hr];exact hK' _ _ (hK v' w' h2 h3)
theorem extended_any (s:ByteArray) (w:World) (hs:s.size≤1000000) :
  Calls Tryz.prog 135 #[.string s] w fun e w'=>(∃v,e = .returned v∧OwnB w' w.heap.size v (bytesN s ++ padW s.size))∧Below w.heap.size w w':=by
 go_enter Tryz.func135,Tryz.ntmps135
 go_wp2_with fail
 go_loopw [3,4] (fun v i wr=>∃j:Nat,j≤s.size∧i = .int .i64 (j:Int)∧OwnN wr w.heap.size v ((bytesN s).take j)∧Below w.heap.size w wr) (fun _ i _=>s.size - (intOf i).toNat)
 case atStart=>exact ⟨0,by omega,rfl,.inl ⟨rfl,rfl⟩,Below.refl _ _⟩
 case round=>
  obtain ⟨j,hj,rfl,ho,hb⟩:=hrel;have BW:=Hd hb;have OW:=Hd ho;obtain ⟨ao,cap,hv,hcap,_,hcm⟩:=ho.form;have hln:((bytesN s).take j).length=j:=by rw [List.length_take,bytesN_len];omega
  rw [hln] at hv hcap;subst hv;obtain ⟨hc0,hc1⟩:=hcap;have HC:=Hd hc0;unfold maxLen at hcm;have HLN:=Hd hln;clear hb ho hln hc0;have j0:(0:Int)≤(j:Int):=by omega
  by_cases hlt:j<s.size
  ·have NX:=Hd (show (bytesN s).take (j+1)=(bytesN s).take j ++ [s[j].toNat] from by
    rw [List.take_succ_eq_append_getElem (by rw [bytesN_len];exact hlt)];congr 2
    unfold bytesN;rw [List.getElem_map];rfl)
   go_wp2_with (first
    | (at_builtin;go_loud (refine wpList_append_byteN rfl (.tmp 12) (.tmp 16) rfl w.heap.size (.slice ao j cap) ((bytesN s).take j) rfl (OW.out.alloc _) wr.heap.size 1 s[j].toNat rfl (cell_box _ _ _ _ _ rfl _ rfl) (by rw [HLN.out];omega) (by have:=BW.out.size;simp;omega) ?_;intro v3 W3 hown hbel;rw [←NX.out] at hown;have O3:=Hd hown;have B3:=Hd ((BW.out.alloc BW.out.size _).trans hbel);clear hown hbel)))
   exact ⟨⟨j+1,by omega,by go_num,.inr O3.out,B3.out⟩,by simp [intOf];omega⟩
  have hjs:j=s.size:=by omega
  have hw0:=OW.out;rw [hjs,List.take_of_length_le (by rw [bytesN_len];exact Nat.le_refl _)] at hw0;have hjn:¬(j:Int)<(s.size:Int):=by omega
  have HJS:=Hd hjs;rw [←hjs] at hw0;have O0:=Hd hw0;obtain ⟨wo,hwo⟩:∃wo:World,wo=wr:=⟨_,rfl⟩;subst hwo;clear hjs hw0 hlt OW;go_wp2_with (first
   | (at_builtin;go_loud (refine wpList_append_byteN rfl (.tmp 18) (.tmp 19) rfl w.heap.size (.slice ao j cap) (bytesN s) rfl (O0.out.alloc _) wo.heap.size 1 128 rfl (cell_box _ _ _ _ _ rfl _ rfl) (by rw [bytesN_len];omega) (by have:=BW.out.size;simp;omega) ?_;intro v2 W2 hown hbel;have O2:=Hd hown;have B2:=Hd ((BW.out.alloc BW.out.size _).trans hbel);clear hown hbel)))
  obtain ⟨J,hJ⟩:∃J,(119 - s.size % 64) % 64=J:=⟨_,rfl⟩;have hJ1:J<64:=by omega
  have HJ:=Hd hJ;clear hJ O0 BW;go_loopw [3] (fun v wr=>∃j:Nat,j≤J∧OwnB wr w.heap.size v (bytesN s ++ 128 :: List.replicate j 0)∧Below w.heap.size w wr) (fun v _=>s.size+1+J - lenV v)
  case atStart=>exact ⟨0,by omega,O2.out,B2.out⟩
  case round=>
   obtain ⟨q,hq,ho,hb⟩:=hrel;have BW:=Hd hb;have OW:=Hd ho;have OC:=Hd ho.cell;obtain ⟨g,cap2,hv,hbg,hgl,hlc,hcm2,_⟩:=OC.out;have hln:(bytesN s ++ 128 :: List.replicate q 0).length=s.size+1+q:=by simp [bytesN_len];omega
   rw [hln] at hv hlc;subst hv;clear hb ho OC;unfold maxLen at hcm2;obtain ⟨n,hn⟩:∃n,s.size+1+q=n:=⟨_,rfl⟩;rw [hn] at OW hlc ⊢;have hn1:n≤1000100:=by omega
   have HN:=Hd hn;have HLN2:=Hd hln;have n0:(0:Int)≤(n:Int):=by omega
   have LT:=Hd hbg;by_cases hlt:q<J
   ·have t1:¬(n:Int) % 64=56:=by have:=HJ.out;omega
    have t2:((n:Int) % 64 == 56)=false:=by simpa using t1
    clear hn hln hbg;go_wp2_with (first
     | (at_builtin;go_loud (refine wpList_append_byteN rfl (.tmp 25) (.tmp 26) rfl w.heap.size (.slice (some ⟨g,0,none⟩) n cap2) (bytesN s ++ 128 :: List.replicate q 0) rfl (.inr (OW.out.alloc _)) wr.heap.size 1 0 rfl (cell_box _ _ _ _ _ rfl _ rfl) (by rw [HLN2.out];omega) (by have:=BW.out.size;simp;omega) ?_;intro v3 W3 hown hbel;have O3:=Hd hown;have B3:=Hd ((BW.out.alloc BW.out.size _).trans hbel);clear hown hbel)))
    have hl3:lenV v3=n+1:=by
     obtain ⟨g3,c3,h3,_⟩:=O3.out.cell;rw [h3];show (_:List Nat).length=_;rw [List.length_append,HLN2.out,HN.out];rfl
    refine ⟨⟨q+1,hlt,?_,B3.out⟩,?_⟩
    ·rw [repl_succ];exact O3.out
    rw [hl3,HN.out.symm];show s.size+1+J - (s.size+1+q+1)<s.size+1+J - (s.size+1+q);omega
   have hqJ:q=J:=by omega
   have t1:(n:Int) % 64=56:=by have:=HJ.out;omega
   rw [hqJ] at OW;obtain ⟨pre,hpre⟩:∃p,bytesN s ++ 128 :: List.replicate J 0=p:=⟨_,rfl⟩;rw [hpre] at OW;have PRE:=Hd (show pre.length=n∧pre ++ lenW s.size 8=bytesN s ++ padW s.size from ⟨by rw [←hpre,←hqJ,HLN2.out,HN.out],by rw [←hpre,pad_eq,HJ.out];simp⟩);obtain ⟨wp,hwp⟩:∃wp:World,wp=wr:=⟨_,rfl⟩;subst hwp;clear hn hln hbg hqJ hlt hq HLN2 hpre O2 B2;go_wp2_with fail
   have T1:=Hd t1;clear t1;go_loopw [3,5] (fun v i wr=>∃k:Nat,k≤8∧i = .int .i64 (7 - (k:Int))∧OwnB wr w.heap.size v (pre ++ lenW s.size k)∧Below w.heap.size w wr) (fun _ i _=>(intOf i+1).toNat)
   case atStart=>exact ⟨0,by omega,rfl,by simpa [lenW] using OW.out,BW.out⟩
   case round=>
    obtain ⟨k,hk,rfl,ho,hb⟩:=hrel;have BX:=Hd hb;have OX:=Hd ho;have OC:=Hd ho.cell;obtain ⟨g2,cap3,hv,hbg,hgl2,hlc2,hcm3,_⟩:=OC.out;have hln:(pre ++ lenW s.size k).length=n+k:=by rw [List.length_append,PRE.out.1,lenW_len]
    rw [hln] at hv hlc2;subst hv;clear hb ho OC;unfold maxLen at hcm3;have HLN3:=Hd hln;have LT2:=Hd hbg;by_cases hlt:k<8
    ·obtain ⟨m,hm⟩:∃m,8 * (7 - k)=m:=⟨_,rfl⟩;have LS:=Hd (lenW_succ s.size k);rw [hm] at LS;have e1:(8:Int) * (7 - (k:Int))=(m:Int):=by omega
     have nn:¬(m:Int)<0:=by omega
     have m0:(0:Int)≤(m:Int):=by omega
     have m1:(m:Int)≤64:=by omega
     have k0:(0:Int)≤7 - (k:Int):=by omega
     have k7:7 - (k:Int)≤7:=by omega
     clear hm hln hbg hlt;have BY:=Hd (show (#[Value.int .u8 (8 * (s.size:Int) / 2 ^ m % 256)]:Array Value)[0]?=some (eB ((8 * s.size / 2 ^ m) % 256)) from by
      show some (Value.int .u8 _)=some (Value.int .u8 _);congr 2)
     go_wp2_with (first
      | (at_builtin;go_loud (refine wpList_append_byteN rfl (.tmp 32) (.tmp 40) rfl w.heap.size (.slice (some ⟨g2,0,none⟩) (n+k) cap3) (pre ++ lenW s.size k) rfl (.inr (OX.out.alloc _)) wr.heap.size 1 ((8 * s.size / 2 ^ m) % 256) rfl (cell_box _ _ _ _ _ BY.out _ rfl) (by rw [HLN3.out];omega) (by have:=BX.out.size;simp;omega) ?_;intro v3 W3 hown hbel;rw [List.append_assoc,←LS.out] at hown;have O3:=Hd hown;have B3:=Hd ((BX.out.alloc BX.out.size _).trans hbel);clear hown hbel)))
     refine ⟨⟨k+1,by omega,by go_num,O3.out,B3.out⟩,by simp [intOf];omega⟩
    have hk8:k=8:=by omega
    have hox:=OX.out;rw [hk8,PRE.out.2] at hox;rw [←hk8] at hox;have OY:=Hd hox;have kn:¬(0:Int)≤7 - (k:Int):=by omega
    clear hox hk8 hln hbg hlt hk OX;go_wp2_with fail
    go_ret;exact ⟨⟨_,rfl,OY.out⟩,BX.out⟩
end
section
open Go.RowKit
attribute [local go_sem] Oper.semAt_some
theorem groups_any (z:Int) (w:World) :
  Calls Tryz.prog 162 #[.int .u64 z] w fun e w'=>e = .returned (.func (.func 217) #[] #[.pointer (some ⟨w.heap.size,0,none⟩)])∧w'=w.alloc (.cells #[.int .u64 z] 209):=by
 go_enter Tryz.func162,Tryz.ntmps162
 go_wp2
 go_ret;exact ⟨rfl,rfl⟩
def encG (n:Nat):Array Value:=#[.int .u8 (n:Int),.bool true]
theorem and127 (z:Nat) (h:z<128):bits BinOp.and IntKind.u64 (z:Int) 127=(z:Int):=by
 have q:∀k:Fin 128,bits BinOp.and IntKind.u64 ((k.val:Nat):Int) 127=((k.val:Nat):Int):=by decide +kernel
 exact q ⟨z,h⟩
theorem groups_seq (n bx z:Nat) (w:World) (hz:z<128) (hb:w.cell? ⟨bx,0,none⟩=some (.int .u64 (z:Int))) :
  SeqAll n Tryz.prog 217 #[.pointer (some ⟨bx,0,none⟩)] encG (fun k=>k=bx) [z] w:=by
 intro lp J O W hW hO hJ hY h0;have hbc:W.cell? ⟨bx,0,none⟩=some (.int .u64 (z:Int)):=by rw [hW.cell (p:=⟨bx,0,none⟩) (World.block_lt_of_cell? _ _ hb)];exact hb
 obtain ⟨fn,tmps,assign,body,hy,hR⟩:=hY [] z [] O W rfl h0;dsimp only [encG] at hy;have HRD:=Hd hR;have ha:=and127 z hz;have z0:(0:Int)≤(z:Int):=by omega
 have z1:(z:Int)<128:=by omega
 have zw:IntKind.u8.wrap (z:Int)=(z:Int):=by rw [IntKind.wrap_u8];omega
 clear hY h0 hJ hO hW hb hR;refine callsIn_of_wp Tryz.func217 rfl trivial ?_ rfl;simp only [Tryz.ntmps217,List.size_toArray,List.length_cons,List.length_nil,Nat.reduceAdd,Nat.reduceSub,Array.replicate_succ,Array.replicate_zero,List.push_toArray,List.append_toArray,List.nil_append,List.cons_append];gi_wp2
 refine wpIn_loop_rounds 1 ?_;rw [roundsIn_succ];gi_wp2
 refine ⟨fun h=>absurd h (by simp [Fence.wide]),HRD.out.mono ?_⟩;rintro e W3 ⟨rfl,O2,hj3,hc3,ho3⟩;gi_wp2
 exact bodyPost_ret (v:=.tuple #[]) (results_none rfl _ _ _) rfl ⟨⟨_,rfl⟩,O2,hj3⟩
def chrB (n:Nat):ByteArray:=strB [n]
theorem shl1 (n:Nat) (h:n<64):bits BinOp.xor IntKind.u64 ((n:Int) * 2) 0=((2 * n:Nat):Int):=by
 have q:∀k:Fin 64,bits BinOp.xor IntKind.u64 (((k.val:Nat):Int) * 2) 0=((2 * k.val:Nat):Int):=by decide +kernel
 exact q ⟨n,h⟩
theorem putint_any (n:Nat) (w:World) (hn:n<64) :
  Calls Tryz.prog 105 #[.int .i64 (n:Int)] w fun e w'=>e = .returned (.tuple #[.string (chrB (2 * n)),.int .i64 0])∧Below w.heap.size w w':=by
 obtain ⟨i0,hi,hz0,hz1,hz2⟩:=info_parts Tryz.infoB;suffices HH:∀k,CallsIn Fence.wide k Tryz.prog 105 #[.int .i64 (n:Int)] w (fun e w'=>e = .returned (.tuple #[.string (chrB (2 * n)),.int .i64 0])∧Below w.heap.size w w') from (callsIn_wide (n:=5)).1 (HH 5)
 intro nF;have n0:(0:Int)≤(n:Int):=by omega
 have n1:(n:Int)<64:=by omega
 have sh:=shl1 n hn;obtain ⟨z,hz⟩:∃z,2 * n=z:=⟨_,rfl⟩;have hzl:z<128:=by omega
 rw [hz] at sh;have HZ:=Hd hz;clear hz;have g1:¬(n:Int) < -4611686018427387903:=by omega
 have g2:¬(4611686018427387903:Int)<(n:Int):=by omega
 refine callsIn_of_wp_marks Tryz.func105 rfl trivial ?_ rfl;simp only [Tryz.ntmps105,List.size_toArray,List.length_cons,List.length_nil,Nat.reduceAdd,Nat.reduceSub,Array.replicate_succ,Array.replicate_zero,List.push_toArray,List.append_toArray,List.nil_append,List.cons_append];have d0:(n:Int) / 9223372036854775808=0:=by omega
 gi_wp2
 clear sh;refine wide_call (groups_any (z:Int) _) ?_;rintro e w' ⟨rfl,rfl⟩;gi_wp2
 obtain ⟨W2,hW2⟩:∃W2,(w.alloc (.cells #[.slice none 0 0] 135)).alloc (.cells #[.int .u64 (z:Int)] 209)=W2:=⟨_,rfl⟩;have HS2:=Hd (show W2.heap.size=w.heap.size+2 by rw [←hW2];simp);have B2:=Hd (show Below w.heap.size w W2 by rw [←hW2];exact ((Below.refl _ w).alloc (Nat.le_refl _) _).alloc (by simp) _);have BX:=Hd (show Boxed W2 w.heap.size 135 (.slice none 0 0) by rw [←hW2];exact (Boxed.new w _ _).alloc _);have BM:=Hd (show W2.cell? ⟨w.heap.size+1,0,none⟩=some (.int .u64 (z:Int)) by rw [←hW2];exact cell_box _ _ _ 0 _ rfl _ (by simp));rw [hW2];clear hW2;refine wpIn_range_all (gf:=217) (lb:=#[.pointer (some ⟨w.heap.size+1,0,none⟩)]) rfl (enters_of Tryz.func217 (by kernel_rfl) rfl)
  (groups_seq _ (w.heap.size+1) z W2 hzl BM.out) (fun _=>rfl)
  (fun pre O W=>∃v,BoxRow w W w.heap.size 135 5 1 pre.length v (pre.flatMap encB) O) (fun k=>k=w.heap.size∨(Value.slice none 0 0).ownBlock=some k) ?hO0 ?hI ?h0
  (fun pre x a' O W=>a' = {tmps:=#[.int .i64 (n:Int),undef,.string {data:=#[]},.int .i64 0,.pointer (some ⟨w.heap.size,0,none⟩),.int .u8 (x:Int),.bool true,.int .i64 (n:Int),.bool false,.bool false,.int .i64 (n:Int),.bool false,.bool false,.int .i64 (n:Int),.int .u64 (n:Int),.int .u64 ((n:Int) * 2),.int .i64 (n:Int),.int .i64 0,.int .u64 0,.int .u64 (z:Int),.func (.func 217) #[] #[.pointer (some ⟨w.heap.size+1,0,none⟩)],.int .u8 (x:Int),.bool true,undef,undef,undef,undef,undef,undef,undef,undef,undef,undef],defers:=[]} ∧
   ∃v,BoxRow w W w.heap.size 135 5 1 pre.length v (pre.flatMap encB) O) ?hM ?assign ?body ?done
 case hO0=>
  intro k hk;rcases hk with rfl | hk
  ·exact ⟨by have:=HS2.out;omega,by omega⟩
  simp [Value.ownBlock] at hk
 case hI=>rintro s O A A' C ⟨v,h⟩ hc hC;exact ⟨v,h.chg hc (fun k hk=>⟨by have:=(hC k hk).1;have:=HS2.out;omega,(hC k hk).2⟩)⟩
 case h0=>exact ⟨_,fun k=>Iff.rfl,BX.out,World.ownsRow_nil _ _ _ _,B2.out,Nat.le_refl _⟩
 case hM=>rintro s x a' O A A' C ⟨e,v,h⟩ hc hC;exact ⟨e,v,h.chg hc (fun k hk=>⟨by have:=(hC k hk).1;have:=HS2.out;omega,(hC k hk).2⟩)⟩
 case assign=>
  intro l' pre x rest O W K hx hi hK;dsimp only [encG];gi_wp2
  exact hK _ O W ⟨rfl,hi⟩ (Chg.refl _ _) (fun k h=>.inl h)
 case body=>
  rintro l' pre x rest a' O W hx ⟨rfl,v,hbr⟩;have BR:=Hd hbr;have hcell:=hbr.box.cell;have hpl:pre.length≤1000:=by
   have h2:([z]:List Nat).length=pre.length+(rest.length+1):=by rw [hx];simp
   simp at h2;omega
  clear hbr hx;gi_wp2_with (first
   | (gi_at_builtin;refine wpListIn_append_own_at _ rfl _ _ 135 rfl w.heap.size 5 i0 (.int .u8 0) 1 1 Tryz.underlying135 hi hz0 hz1 hz2 rfl (by decide) _ _ _ rfl (BR.out.row.alloc _) ⟨W.heap.size,0,none⟩ 1 1 (encB x) rfl rfl (cells_at _ _ _ _ rfl) (encB_one _) (by unfold maxLen;omega) (by omega) (by have:=BR.out.bel.size;simp;omega) ?_;intro v' w1 own gr hnil hloc;obtain ⟨g',cap',rfl⟩:=ownsRow_succ own;obtain ⟨hv1,hap⟩:=BR.out.appended (by decide) own gr hloc;have AP:=Hd hap;have hc1:=hv1.cell;have hf1:=hv1.frozen;clear own gr hnil hloc hap hv1)
   | gi_in)
  obtain ⟨O',h1,h2,h3⟩:=AP.out;exact ⟨O',⟨_,by rw [flat_snoc,List.length_append];exact h1⟩,h2,h3⟩
 case done=>
  rintro D O W hD hnD ⟨v,hbr⟩ hK;have hcell:=hbr.box.cell;have BR:=Hd hbr;obtain ⟨ao,cap,hv,h1,h2⟩:=rowK_of_owns encB_len (by decide) hbr.row;subst hv;have cv:=conv_row 1 cap rfl (by omega) h2;clear hbr;gi_wp2
  refine ⟨by simp,.inl ⟨_,_,rfl,run_takeDeferred hK,?_⟩⟩;have hB:=BR.out.chg (Chg.put W D (.deferred none) (C:=fun k=>k=D) rfl) (fun k hk=>by subst hk;exact ⟨by have:=HS2.out;omega,hnD⟩);exact ⟨_,results_tmp2 rfl _ _ _,by rw [HZ.out];rfl,hB.bel⟩
end
section
open Go.RowKit
def leS (a b:ByteArray):Bool:=Op.bytesLess a.toList b.toList || a.toList == b.toList
def okAt (l:List ByteArray) (i:Nat):Bool:=decide ((l.getD i ByteArray.empty).size=32) && (decide (i=0) || !leS (l.getD i ByteArray.empty) (l.getD (i - 1) ByteArray.empty))
def ascS (l:List ByteArray):Bool:=(List.range l.length).all (okAt l)
theorem ascS_of {l:List ByteArray} (h:∀j,j<l.length→okAt l j=true):ascS l=true:=by
 unfold ascS;rw [List.all_eq_true];intro x hx;exact h x (List.mem_range.1 hx)
theorem ascS_no {l:List ByteArray} {j:Nat} (hj:j<l.length) (h:okAt l j=false):ascS l=false:=by
 unfold ascS;rw [List.all_eq_false];exact ⟨j,List.mem_range.2 hj,by rw [h];simp⟩
theorem ascending_any (ao:Option Addr) (n cap:Nat) (l:List ByteArray) (w:World) (hl:l.length=n) (hn:n≤60) (hrow:RowK 1 encT w ao l) :
  Calls Tryz.prog 71 #[.slice ao n cap] w fun e w'=>e = .returned (.bool (ascS l))∧w=w':=by
 have HL:=Hd hl;have HR:=Hd hrow;clear hl hrow;have n4:(n:Int)≤4000:=by omega
 go_enter Tryz.func71,Tryz.ntmps71
 go_wp2
 go_loopw [3,4,7] (fun _ _ i wr=>wr=w∧∃k:Nat,k≤n∧i = .int .i64 (k:Int)∧∀j,j<k→okAt l j=true) (fun _ _ i _=>n - (intOf i).toNat)
 case atStart=>exact ⟨rfl,0,by omega,rfl,fun j hj=>by omega⟩
 case round=>
  obtain ⟨rfl,k,hk,rfl,hall⟩:=hrel;have HA:=Hd hall;clear hall;have k0:(0:Int)≤(k:Int):=by omega
  by_cases hlt:k<n
  ·have k1:(k:Int)<(n:Int):=by omega
   have hkl:k<l.length:=by rw [HL.out];exact hlt
   obtain ⟨b,off,rfl,_,hc⟩:=HR.out.str hkl;obtain ⟨s,hs⟩:∃s,l[k]=s:=⟨_,rfl⟩;have HS:=Hd (show l.getD k ByteArray.empty=s from by rw [List.getD_eq_getElem?_getD,List.getElem?_eq_getElem hkl,←hs];rfl);rw [hs] at hc;clear hs;by_cases hz:s.size=32
   ·by_cases hk0:k=0
    ·have OK:=Hd (show ∀j,j<k+1→okAt l j=true from fun j hj=>by
      rcases Nat.lt_or_ge j k with q | q
      ·exact HA.out j q
      have:j=k:=by omega
      subst this;unfold okAt;rw [HS.out,hz,hk0];simp)
     subst hk0;rw [Nat.add_zero] at hc;have hz2:((s.size:Int) == 32)=true:=by rw [hz];rfl
     clear hkl;go_wp2
     go_roundw
     case rel=>exact ⟨trivial,1,by omega,rfl,fun j hj=>OK.out j (by omega)⟩
     case measure=>simp [intOf];omega
    have hk1:(0:Int)<(k:Int):=by omega
    obtain ⟨b',off',e,_,hc2⟩:=HR.out.str (i:=k - 1) (by rw [HL.out];omega);cases e;obtain ⟨p,hp⟩:∃s,l[k - 1]'(by rw [HL.out];omega)=s:=⟨_,rfl⟩;have HP:=Hd (show l.getD (k - 1) ByteArray.empty=p from by rw [List.getD_eq_getElem?_getD,List.getElem?_eq_getElem (by omega),←hp];rfl);rw [hp] at hc2;have t1:((k:Int) - 1).toNat=k - 1:=by omega
    have q0:(0:Int)≤(k:Int) - 1:=by omega
    have q1:(k:Int) - 1<(n:Int):=by omega
    have g1:(1:Int)≤(k:Int):=by omega
    have HK0:=Hd hk0;have HZ:=Hd hz;have hz2:((s.size:Int) == 32)=true:=by rw [hz];rfl
    have d0:decide ((0:Int)<(k:Int))=true:=by simpa using hk1
    rcases hle:leS s p with _ | _
    ·have OK:=Hd (show ∀j,j<k+1→okAt l j=true from fun j hj=>by
      rcases Nat.lt_or_ge j k with q | q
      ·exact HA.out j q
      have:j=k:=by omega
      subst this;unfold okAt;rw [HS.out,HP.out,hz,hle];simp)
     have hle2:(Op.bytesLess s.toList p.toList || s.toList == p.toList)=false:=hle;clear hp hkl hk0 hle;go_wp2
     go_roundw
     case rel=>exact ⟨trivial,k+1,by omega,by go_num,OK.out⟩
     case measure=>simp [intOf];omega
    have NO:=Hd (show ascS l=false from ascS_no (j:=k) (by omega) (by unfold okAt;rw [HS.out,HP.out,hle];simp [hk0]));have hle2:(Op.bytesLess s.toList p.toList || s.toList == p.toList)=true:=hle;clear hp hkl hk0 hle;go_wp2
    go_ret;exact ⟨by rw [NO.out];rfl,rfl⟩
   have NO:=Hd (show ascS l=false from ascS_no (j:=k) hkl (by unfold okAt;rw [HS.out];simp [hz]));have hz2:((s.size:Int) == 32)=false:=by simp;omega
   have hz3:¬(s.size:Int)=32:=by omega
   clear hkl;go_wp2
   go_ret;exact ⟨by rw [NO.out];rfl,rfl⟩
  have k1:¬(k:Int)<(n:Int):=by omega
  have YES:=Hd (show ascS l=true from ascS_of (fun j hj=>HA.out j (by have:=HL.out;omega)));go_wp2
  go_ret;exact ⟨by rw [YES.out];rfl,rfl⟩
def valS (l:List ByteArray):ByteArray:=strB ((2 * l.length) :: l.flatMap bytesN)
def errS (b:Bool):Int:=if b then 0 else 250
theorem strB_bytes (s:ByteArray):strB (bytesN s)=s:=by
 unfold strB bytesN;rw [List.map_map];apply ByteArray.ext;apply Array.toList_inj.1;show List.map _ s.data.toList=_;conv=>rhs;rw [←List.map_id s.data.toList]
 exact List.map_congr_left fun x _=>by simp
theorem strB_append (a b:List Nat):strB (a ++ b)=strB a ++ strB b:=by
 unfold strB;apply ByteArray.ext;apply Array.toList_inj.1;simp [ByteArray.data_append]
theorem join_nil:∀(l:List (List UInt8)),Lib.join l []=l.flatten
 | []=>rfl
 | [x]=>by simp [Lib.join]
 | x :: y :: l=>by
  have:=join_nil (y :: l);simp [Lib.join] at this ⊢;exact this
theorem flat_bytes (l:List ByteArray):(⟨((l.map (·.data.toList)).flatten).toArray⟩:ByteArray)=strB (l.flatMap bytesN):=by
 induction l with
 | nil=>rfl
 | cons x r ih=>
  rw [List.flatMap_cons,strB_append,←ih,strB_bytes];apply ByteArray.ext;apply Array.toList_inj.1;simp [ByteArray.data_append]
theorem flat_size (l:List ByteArray) (h:∀s∈l,s.size≤100):((l.map (·.data.toList)).flatten).length≤100 * l.length:=by
 induction l with
 | nil=>simp
 | cons x r ih=>
  rw [List.map_cons,List.flatten_cons,List.length_append,List.length_cons];have h1:x.data.toList.length=x.size:=rfl;have h2:=h x (by simp);have:=ih (fun s hs=>h s (by simp [hs]));omega
theorem flat_len2:∀(l:List ByteArray),(l.flatMap bytesN).length=((l.map (·.data.toList)).flatten).length
 | []=>rfl
 | x :: r=>by rw [List.flatMap_cons,List.map_cons,List.flatten_cons,List.length_append,List.length_append,flat_len2 r,bytesN_len];rfl
theorem asc_size {l:List ByteArray} (h:ascS l=true):∀s∈l,s.size=32:=fun s hs=>by
 unfold ascS at h;obtain ⟨i,hi,rfl⟩:=List.getElem_of_mem hs;have:=List.all_eq_true.1 h i (List.mem_range.2 hi);unfold okAt at this;rw [List.getD_eq_getElem?_getD,List.getElem?_eq_getElem hi] at this;simp at this;exact this.1
theorem value_any (ao:Option Addr) (n cap:Nat) (l:List ByteArray) (w:World) (hl:l.length=n) (hn:n≤60) (hc:(ao=none→cap=0)∧n≤cap) (hrow:RowK 1 encT w ao l) :
  Calls Tryz.prog 57 #[.slice ao n cap] w fun e w'=>e = .returned (.tuple #[.string (if ascS l then valS l else ByteArray.empty),.int .i64 (errS (ascS l))])∧Below w.heap.size w w':=by
 have HASC:=Hd (ascending_any ao n cap l w hl hn hrow);rcases ha:ascS l with _ | _
 ·rw [ha] at HASC;clear ha hrow hl hn hc;go_enter Tryz.func57,Tryz.ntmps57
  go_wp2_with (first
   | (go_at_call 71;refine HASC.out.mono ?_;rintro e w' ⟨rfl,rfl⟩))
  go_ret2
  exact ⟨rfl,Below.refl _ _⟩
 rw [ha] at HASC;have hsz:=asc_size ha;have JO:=Hd (show ∀w2,Below w.heap.size w w2→Calls Tryz.prog 106 #[.slice ao n cap,.string ByteArray.empty] w2 fun e w'=>e = .returned (.string (strB (l.flatMap bytesN)))∧Below w2.heap.size w2 w' from fun w2 hb=>by
  rcases Nat.eq_zero_or_pos n with h0 | h0
  ·subst h0;have hl0:l = []:=List.eq_nil_of_length_eq_zero hl;subst hl0;refine (Tryz.strings_Join_none ao cap ByteArray.empty w2).mono ?_;rintro e w' ⟨rfl,rfl⟩;exact ⟨rfl,Below.refl _ _⟩
  obtain ⟨b,off,rfl,hlb,_⟩:=hrow.str (i:=0) (by omega);have h1:=Tryz.strings_Join b off cap l ByteArray.empty w2 (fun j x hj=>by
   obtain ⟨b',off',e,_,h2⟩:=(hrow.later hb) j x hj;cases e;have:=h2 0 _ rfl;simpa using this) (Nat.lt_of_lt_of_le hlb hb.size) (by omega) (by rw [hl];exact hc.2) (by
    show (Lib.join (l.map (·.data.toList)) []).length≤_;rw [join_nil];have:=flat_size l (fun s hs=>by rw [hsz s hs];omega);omega)
  rw [hl] at h1;refine h1.mono ?_;rintro e w' ⟨rfl,h2⟩;refine ⟨?_,h2⟩;show Ending.returned (Value.string ⟨(Lib.join (l.map (·.data.toList)) []).toArray⟩)=_;rw [join_nil,flat_bytes])
 have PI:=Hd (putint_any n w (by omega));have VS:=Hd (show valS l=chrB (2 * n) ++ strB (l.flatMap bytesN) from by
  unfold valS chrB;rw [hl,←strB_append];rfl)
 have HSZ:=Hd (show (chrB (2 * n)).size≤1∧(strB (l.flatMap bytesN)).size≤6000 from by
  refine ⟨by simp [chrB,strB_size],?_⟩;rw [strB_size];have h1:=flat_size l (fun s hs=>by rw [hsz s hs];omega);have h2:=flat_len2 l;omega)
 obtain ⟨sa,hsa⟩:∃s,chrB (2 * n)=s:=⟨_,rfl⟩;obtain ⟨sb,hsb⟩:∃s,strB (l.flatMap bytesN)=s:=⟨_,rfl⟩;rw [hsa,hsb] at VS HSZ;rw [hsa] at PI;rw [hsb] at JO;have hA:=HSZ.out.1;have hB:=HSZ.out.2;clear ha hrow hl hsz hc hsa hsb;go_enter Tryz.func57,Tryz.ntmps57
 go_wp2_with (first
  | (go_at_call 71;refine HASC.out.mono ?_;rintro e w' ⟨rfl,rfl⟩)
  | (go_at_call 105;refine PI.out.mono ?_;rintro e w2 ⟨rfl,hb2⟩;have B2:=Hd hb2;clear hb2)
  | (go_at_call 106;refine (JO.out _ B2.out).mono ?_;rintro e w3 ⟨rfl,hb3⟩;have B3:=Hd hb3;clear hb3))
 go_ret2
 exact ⟨by rw [VS.out];rfl,B2.out.trans (B3.out.mono B2.out.size)⟩
end
section
namespace Fk
open Go.RowKit Go.Sort Go.Lib
theorem addS_nodup {S:List (ByteArray×PF)} (f:PF) (h:(S.map (·.1)).Nodup):((addS S f).map (·.1)).Nodup:=by
 unfold addS;rcases idF f with _ | id
 ·exact h
 simp only;rcases getA id S with _ | g
 ·simp only;rw [putA_keys];exact insA_nodup h
 exact h
theorem addS_keys {S:List (ByteArray×PF)} (f:PF) (h:∀e∈S,e.1.size=32):∀e∈addS S f,e.1.size=32:=fun e he=>by
 have hk:e.1∈(addS S f).map (·.1):=List.mem_map_of_mem he;revert hk
 unfold addS;rcases hid:idF f with _ | id
 ·intro hk;obtain ⟨x,hx,hxe⟩:=List.mem_map.1 hk;rw [←hxe];exact h x hx
 simp only;rcases getA id S with _ | g
 ·simp only;rw [putA_keys,mem_insA];rintro (hk | hk)
  ·obtain ⟨x,hx,hxe⟩:=List.mem_map.1 hk;rw [←hxe];exact h x hx
  rw [hk];exact idF_size hid
 intro hk;obtain ⟨x,hx,hxe⟩:=List.mem_map.1 hk;rw [←hxe];exact h x hx
theorem addS_len {S:List (ByteArray×PF)} (f:PF):(addS S f).length≤S.length+1:=by
 unfold addS;rcases idF f with _ | id
 ·simp
 simp only;rcases hg:getA id S with _ | g
 ·simp only;rw [putA_new hg];simp
 simp
theorem partS_keys (S:List (ByteArray×PF)):∀(ids:List ByteArray) (T:List (ByteArray×PF)),(T.map (·.1)).Nodup→((ids.foldl (fun T id=>putA id (lookF S id) T) T).map (·.1)).Nodup∧∀x,x∈(ids.foldl (fun T id=>putA id (lookF S id) T) T).map (·.1)↔x∈T.map (·.1)∨x∈ids
 | [],T,h=>⟨h,fun x=>by simp⟩
 | id :: ids,T,h=>by
  obtain ⟨h1,h2⟩:=partS_keys S ids (putA id (lookF S id) T) (by rw [putA_keys];exact insA_nodup h);refine ⟨h1,fun x=>(h2 x).trans ?_⟩;rw [putA_keys,mem_insA,List.mem_cons,or_assoc]
theorem sortK_self (xs:List ByteArray):(sortK xs).Perm xs:=by
 have h1:(sortedL xs).Perm (rows xs):=List.mergeSort_perm _ _;have h2:=h1.map unB;have h3:(rows xs).map unB=xs:=by
  unfold rows;rw [List.map_map];conv=>rhs;rw [←List.map_id xs]
  exact List.map_congr_left fun y _=>unB_data y
 rw [h3] at h2;exact h2
theorem idsS_nodup {S:List (ByteArray×PF)} (h:(S.map (·.1)).Nodup):(idsS S).Nodup:=(sortK_self _).nodup_iff.2 h
theorem idsS_part (S S0:List (ByteArray×PF)) (h:(S0.map (·.1)).Nodup):idsS (partS S (idsS S0))=idsS S0:=by
 obtain ⟨h1,h2⟩:=partS_keys S (idsS S0) [] (by simp);have hp:((partS S (idsS S0)).map (·.1)).Perm (S0.map (·.1)):=by
  refine (List.perm_ext_iff_of_nodup h1 h).2 fun x=>?_;have:=h2 x;rw [idsS_mem] at this;simpa using this
 exact sortK_perm hp
theorem toList_data (a:ByteArray):a.toList=a.data.toList:=by
 first | exact ByteArray.toList_eq a | simp
theorem leS_iff (a b:ByteArray):leS a b=decide (a.data.toList≤b.data.toList):=by
 unfold leS;rw [toList_data,toList_data,bytesLess_eq,Bool.eq_iff_iff];simp only [Bool.or_eq_true,decide_eq_true_eq,beq_iff_eq];constructor
 ·rintro (h | h)
  ·exact List.le_of_lt h
  rw [h];exact List.le_refl _
 intro h;by_cases hab:a.data.toList=b.data.toList
 ·exact .inr hab
 exact .inl (Std.lt_of_le_of_ne h hab)
theorem idsS_asc {S:List (ByteArray×PF)} (h:(S.map (·.1)).Nodup) (hz:∀e∈S,e.1.size=32):ascS (idsS S)=true:=by
 refine ascS_of fun j hj=>?_;have hg:∀i (hi:i<(idsS S).length),(idsS S).getD i ByteArray.empty=(idsS S)[i]:=fun i hi=>by simp [List.getD,List.getElem?_eq_getElem hi]
 have hsz:∀x∈idsS S,x.size=32:=fun x hx=>by
  obtain ⟨e,he,rfl⟩:=List.mem_map.1 ((idsS_mem S x).1 hx);exact hz e he
 unfold okAt;rw [hg j hj,Bool.and_eq_true,decide_eq_true_eq];refine ⟨hsz _ (List.getElem_mem hj),?_⟩;rcases j with _ | j
 ·simp
 rw [show j+1 - 1=j by omega,hg j (by omega),leS_iff,Bool.or_eq_true];right
 rw [Bool.not_eq_true',decide_eq_false_iff_not];intro hle;have hnd:=idsS_nodup h;have hl:(sortedL (S.map (·.1))).length=(idsS S).length:=by rw [idsS_len,sortedL_len,List.length_map]
 have hge:∀i (hi:i<(idsS S).length),(idsS S)[i].data.toList=(sortedL (S.map (·.1)))[i]'(by rw [hl];exact hi):=fun i hi=>by
  have:(idsS S)[i]=unB ((sortedL (S.map (·.1)))[i]'(by rw [hl];exact hi)):=List.getElem_map (f:=unB) (l:=sortedL (S.map (·.1))) (i:=i);rw [this,data_unB]
 have hasc:=List.pairwise_iff_getElem.1 (sortedL_asc (S.map (·.1))) j (j+1) (by rw [hl];omega) (by rw [hl];exact hj) (by omega);rw [hge (j+1) hj,hge j (by omega)] at hle;have he:(idsS S)[j].data.toList=(idsS S)[j+1].data.toList:=by rw [hge (j+1) hj,hge j (by omega)];exact List.le_antisymm hasc hle
 have he2:(idsS S)[j]=(idsS S)[j+1]:=by rw [←unB_data (idsS S)[j],he,unB_data]
 have:=(List.getElem_inj hnd).1 he2;omega
end Fk
end
section
namespace Fk
open Go.RowKit Go.Sort Go.Lib
theorem addS_mem {S:List (ByteArray×PF)} (f:PF) (x:ByteArray):x∈(addS S f).map (·.1)↔x∈S.map (·.1)∨idF f=some x:=by
 unfold addS;rcases hid:idF f with _ | id
 ·simp
 simp only;rcases hg:getA id S with _ | g
 ·simp only;rw [putA_keys,mem_insA];constructor
  ·rintro (h | h)
   ·exact .inl h
   exact .inr (by rw [h])
  rintro (h | h)
  ·exact .inl h
  exact .inr (by injection h with h;exact h.symm)
 simp only;constructor
 ·exact .inl
 rintro (h | h)
 ·exact h
 injection h with h;subst h
 exact List.mem_map_of_mem (f:=(·.1)) (getA_mem hg)
theorem addS_same {S:List (ByteArray×PF)} {f:PF} (h:∀x,idF f=some x→x∈S.map (·.1)):addS S f=S:=by
 unfold addS;rcases hid:idF f with _ | id
 ·rfl
 simp only;rcases hg:getA id S with _ | g
 ·exact absurd (h id hid) (getA_none.1 hg)
 rfl
noncomputable def ownK (h:Nat→Bool) (fs:Nat→PF):Nat→List (ByteArray×PF)
 | 0=>[]
 | k+1=>if h k then addS (ownK h fs k) (fs k) else ownK h fs k
noncomputable def allK (fs:Nat→PF) (k:Nat):List (ByteArray×PF):=ownK (fun _=>true) fs k
theorem ownK_nodup (h:Nat→Bool) (fs:Nat→PF):∀k,((ownK h fs k).map (·.1)).Nodup
 | 0=>by simp [ownK]
 | k+1=>by
  unfold ownK;split
  ·exact addS_nodup _ (ownK_nodup h fs k)
  exact ownK_nodup h fs k
theorem ownK_size (h:Nat→Bool) (fs:Nat→PF):∀k,∀e∈ownK h fs k,e.1.size=32
 | 0=>fun e he=>nomatch he
 | k+1=>by
  unfold ownK;split
  ·exact addS_keys _ (ownK_size h fs k)
  exact ownK_size h fs k
theorem ownK_len (h:Nat→Bool) (fs:Nat→PF):∀k,(ownK h fs k).length≤k
 | 0=>Nat.le_refl _
 | k+1=>by
  unfold ownK;have:=ownK_len h fs k;split
  ·have:=addS_len (S:=ownK h fs k) (fs k);omega
  omega
theorem ownK_mem (h:Nat→Bool) (fs:Nat→PF) (x:ByteArray):∀k,x∈(ownK h fs k).map (·.1)↔∃j,j<k∧h j=true∧idF (fs j)=some x
 | 0=>by simp [ownK]
 | k+1=>by
  have ih:=ownK_mem h fs x k;have hs:(∃j,j<k+1∧h j=true∧idF (fs j)=some x)↔(∃j,j<k∧h j=true∧idF (fs j)=some x)∨(h k=true∧idF (fs k)=some x):=by
   constructor
   ·rintro ⟨j,h1,h2⟩;rcases Nat.lt_or_ge j k with q | q
    ·exact .inl ⟨j,q,h2⟩
    have:j=k:=by omega
    subst this;exact .inr h2
   rintro (⟨j,h1,h2⟩ | h2)
   ·exact ⟨j,by omega,h2⟩
   exact ⟨k,by omega,h2⟩
  have e:ownK h fs (k+1)=if h k=true then addS (ownK h fs k) (fs k) else ownK h fs k:=rfl
  rw [hs,←ih,e];by_cases q:h k=true
  ·rw [if_pos q,addS_mem];exact ⟨fun z=>z.imp (fun y=>y) (fun y=>⟨q,y⟩),fun z=>z.imp (fun y=>y) (fun y=>y.2)⟩
  rw [if_neg q];exact ⟨.inl,fun z=>z.elim (fun y=>y) (fun y=>absurd y.1 q)⟩
theorem own_in_all (h:Nat→Bool) (fs:Nat→PF) (k:Nat):∀id∈idsS (ownK h fs k),(getA id (allK fs k)).isSome=true:=fun id hid=>by
 obtain ⟨j,h1,_,h3⟩:=(ownK_mem h fs id k).1 ((idsS_mem _ _).1 hid);have:id∈(allK fs k).map (·.1):=(ownK_mem (fun _=>true) fs id k).2 ⟨j,h1,rfl,h3⟩;rcases hg:getA id (allK fs k) with _ | g
 ·exact absurd this (getA_none.1 hg)
 rfl
theorem all_again (fs:Nat→PF) {j k:Nat} (h:j<k):addS (allK fs k) (fs j)=allK fs k:=
 addS_same fun x hx=>(ownK_mem (fun _=>true) fs x k).2 ⟨j,h,rfl,hx⟩
theorem allK_next (fs:Nat→PF) (k:Nat):allK fs (k+1)=addS (allK fs k) (fs k):=by show ownK _ fs (k+1)=_;rw [ownK];rfl
theorem ids_asc (h:Nat→Bool) (fs:Nat→PF) (k:Nat):ascS (idsS (ownK h fs k))=true:=idsS_asc (ownK_nodup h fs k) (ownK_size h fs k)
theorem ids_len (h:Nat→Bool) (fs:Nat→PF) (k:Nat):(idsS (ownK h fs k)).length≤k:=by rw [idsS_len];exact ownK_len h fs k
theorem ids_back (h:Nat→Bool) (fs:Nat→PF) (k:Nat):idsS (partS (allK fs k) (idsS (ownK h fs k)))=idsS (ownK h fs k):=idsS_part _ _ (ownK_nodup h fs k)
end Fk
end
section
namespace Fk
open Go.RowKit Go.Sort Go.Lib
def cutF (f:PF):PF:={f with t:=f.t.extract 0 (min f.t.size 100)}
theorem FacAt.setText {w:World} {b:Nat} {f:PF} (h:FacAt w b f) (t:ByteArray):FacAt (w.setCell ⟨b,17,none⟩ (.string t)) b {f with t:=t}:=by
 exact (heap_setC h (.string t)).trans rfl
theorem FacAt.text {w:World} {b:Nat} {f:PF} (h:FacAt w b f):w.cell? ⟨b,17,none⟩=some (.string f.t):=h.cell rfl
end Fk
end
end Go.Proofs.YtifcdjmcoibblaaGreatDoor
