/- Chk Sum Raw EFl -/
import Derived.Test.YtifcdjmcoibblaaGreatDoorFq02
import Derived.Lib.RabinKarpLaws
import Derived.Test.YtifcdjmcoibblaaGreatDoorFq01
import Derived.Deep.DeepCutAuto
import Derived.WalkKit
import Derived.LaidEqlPtr
import Derived.ChangeMaps4
import Derived.MapFrom
import Derived.Lib.Hide
import Derived.Below
import Derived.RangeFuncRecord
import Derived.Maps.RangeWalk
import Derived.Laws.OwnMore
import Derived.Lib.SlicesS
import Derived.WalkLawsBesides
import Derived.WalkSpells
import Derived.Sort.Walk0
import Derived.Deep.QuietTactic
import Derived.BigQuiet
set_option linter.unusedVariables false
set_option linter.unusedSimpArgs false
set_option linter.unusedSectionVars false
set_option maxRecDepth 100000
set_option maxHeartbeats 80000000
namespace Go.Proofs.YtifcdjmcoibblaaGreatDoor
section
open Go.RowKit
attribute [local go_sem] Oper.semAt_some
theorem chunk_any (g ln cap:Nat) (w:World) :
  Calls Tryz.prog 129 #[.slice (some ⟨g,0,none⟩) ln cap,.int .i64 64] w fun e w'=>e = .returned (.func (.func 178) #[] #[.pointer (some ⟨w.heap.size,0,none⟩),.pointer (some ⟨w.heap.size+1,0,none⟩)])∧w'=(w.alloc (.cells #[.slice (some ⟨g,0,none⟩) ln cap] 135)).alloc (.cells #[.int .i64 64] 3):=by
 go_enter Tryz.func129,Tryz.ntmps129
 go_wp2
 go_ret;exact ⟨rfl,rfl⟩
def encC (g:Nat) (k:Nat):Array Value:=#[.slice (some ⟨g,64 * k,none⟩) 64 64]
theorem chunk_seq (n bx g m cap:Nat) (w:World) (hm:64 * m≤cap) (hcap:cap≤maxLen) (hml:m≤1099511627776) (hb:w.cell? ⟨bx,0,none⟩=some (.slice (some ⟨g,0,none⟩) (64 * m) cap)) (hb2:w.cell? ⟨bx+1,0,none⟩=some (.int .i64 64)) :
  SeqAll n Tryz.prog 178 #[.pointer (some ⟨bx,0,none⟩),.pointer (some ⟨bx+1,0,none⟩)] (encC g) (fun k=>k=bx∨k=bx+1) (List.range m) w:=by
 intro lp J O W hW hO hJ hY h0;have hbc:W.cell? ⟨bx,0,none⟩=some (.slice (some ⟨g,0,none⟩) (64 * m) cap):=by rw [hW.cell (p:=⟨bx,0,none⟩) (World.block_lt_of_cell? _ _ hb)];exact hb
 have hbd:W.cell? ⟨bx+1,0,none⟩=some (.int .i64 64):=by rw [hW.cell (p:=⟨bx+1,0,none⟩) (World.block_lt_of_cell? _ _ hb2)];exact hb2
 have HY:=Hd hY;have H0:=Hd h0;have HO:=Hd (show ¬O bx∧¬O (bx+1) from ⟨fun q=>(hO _ q).2 (.inl rfl),fun q=>(hO _ q).2 (.inr rfl)⟩);unfold maxLen at hcap;have HBC:=Hd hbc;have HBD:=Hd hbd;have HJ:=Hd hJ;clear hY h0 hJ hO hW hb hb2 hbc hbd;refine callsIn_of_wp Tryz.func178 rfl trivial ?_ rfl;simp only [Tryz.ntmps178,List.size_toArray,List.length_cons,List.length_nil,Nat.reduceAdd,Nat.reduceSub,Array.replicate_succ,Array.replicate_zero,List.push_toArray,List.append_toArray,List.nil_append,List.cons_append];gi_wp2
 gi_loopw [4] (fun i wr=>∃(k:Nat) (O1:Nat→Prop),k≤m∧i = .int .i64 ((64 * k:Nat):Int)∧J (List.range k) O1 wr∧(¬O1 bx∧¬O1 (bx+1))∧wr.cell? ⟨bx,0,none⟩=some (.slice (some ⟨g,0,none⟩) (64 * m) cap)∧wr.cell? ⟨bx+1,0,none⟩=some (.int .i64 64)) (fun i _=>64 * m - (intOf i).toNat)
 case atStart=>exact ⟨0,O,Nat.zero_le _,rfl,H0.out,HO.out,HBC.out,HBD.out⟩
 case round=>
  obtain ⟨k,O1,hk,rfl,hj,hno,hr1,hr2⟩:=hrel;have JK:=Hd hj;have HN:=Hd hno;clear hj hno;by_cases hlt:k<m
  ·have hSp:=Hd (show List.range m=List.range k ++ k :: (List.range (m - k - 1)).map (k+1 + ·) by
    have e:m=k+(1+(m - k - 1)):=by omega
    conv=>lhs;rw [e,List.range_add,List.range_add]
    simp [Nat.add_assoc,Function.comp_def])
   obtain ⟨j,hj⟩:∃j,64 * k=j:=⟨_,rfl⟩;rw [hj];have j0:(0:Int)≤(j:Int):=by omega
   have j1:(j:Int)<((64 * m:Nat):Int):=by omega
   have JJ:=Hd (HJ.out _ _ _ _ _ JK.out (show Chg (fun _=>False) wr wr.drew from Chg.drew _ _) (fun k h=>h.elim));obtain ⟨fn,tmps,assign,body,hy,hR⟩:=HY.out _ _ _ _ _ hSp.out JJ.out;have HRD:=Hd hR;dsimp only [encC] at hy;rw [hj] at hy;clear hR;have R1:=Hd hr1;have R2:=Hd hr2;have j2:(j:Int)<64 * (m:Int):=by omega
   have c0:j<cap:=by omega
   have mn:min (64:Int) ((64 * m - j:Nat):Int)=64:=by omega
   have tn:((j:Int)+64).toNat - j=64:=by omega
   have wn:wrap64 ((j:Int)+64)=(j:Int)+64:=by unfold wrap64;omega
   have NX:=Hd (show List.range (k+1)=List.range k ++ [k]∧(j:Int)+64=((64 * (k+1):Nat):Int)∧64 * m - (j+64)<64 * m - j from ⟨List.range_succ,by omega,by omega⟩);have km:k+1≤m:=hlt;clear hj;gi_wp2
   gi_region
   gi_wp2
   refine ⟨fun h=>absurd h (by simp [Fence.wide]),HRD.out.mono ?_⟩;rintro e W3 ⟨rfl,O2,hj3,hc3,ho3⟩;have J3:=Hd (show J (List.range (k+1)) O2 W3∧(¬O2 bx∧¬O2 (bx+1))∧W3.cell? ⟨bx,0,none⟩=some (.slice (some ⟨g,0,none⟩) (64 * m) cap)∧W3.cell? ⟨bx+1,0,none⟩=some (.int .i64 64) from
    ⟨by rw [NX.out.1];exact hj3,⟨fun q=>by
     rcases ho3 _ q with q | q
     ·exact HN.out.1 q
     ·have:=World.block_lt_of_cell? _ _ R1.out;simp at q this;omega,fun q=>by
     rcases ho3 _ q with q | q
     ·exact HN.out.2 q
     have:=World.block_lt_of_cell? _ _ R2.out;simp at q this;omega⟩,hc3.cell R1.out HN.out.1,hc3.cell R2.out HN.out.2⟩)
   have r2:=J3.out.2.2.2;clear hj3 hc3 ho3 hr1 hr2 mn tn;gi_wp2
   exact ⟨⟨k+1,O2,km,by rw [NX.out.2.1],J3.out.1,J3.out.2.1,J3.out.2.2.1,J3.out.2.2.2⟩,by simp [intOf];omega⟩
  have hkm:k=m:=by omega
  have hj:=JK.out;rw [hkm] at hj;have HJJ:=Hd hj;have k1:¬((64 * k:Nat):Int)<64 * (m:Int):=by omega
  have R1:=Hd hr1;clear hj hkm JK hlt hr2;gi_wp2
  go_end0
  exact ⟨⟨_,rfl⟩,O1,HJJ.out⟩
end
section
open Go.RowKit
attribute [local go_sem] Oper.semAt_some
theorem chunksW_snoc:∀(k:Nat) (h:List Wd) (b:List Nat),chunksW h (k+1) b=blockW (chunksW h k b) ((b.drop (64 * k)).take 64)
 | 0,h,b=>by simp [chunksW]
 | k+1,h,b=>by
  show chunksW (blockW h (b.take 64)) (k+1) (b.drop 64)=_;rw [chunksW_snoc k,List.drop_drop];have e:64+64 * k=64 * (k+1):=by omega
  rw [e];rfl
def lenW (n k:Nat):List Nat:=(List.range k).map fun i=>(8 * n / 2 ^ (8 * (7 - i))) % 256
theorem lenW_succ (n k:Nat):lenW n (k+1)=lenW n k ++ [(8 * n / 2 ^ (8 * (7 - k))) % 256]:=by
 unfold lenW;rw [List.range_succ,List.map_append];rfl
theorem lenW_len (n k:Nat):(lenW n k).length=k:=by unfold lenW;simp
theorem pad_eq (n:Nat):padW n=128 :: (List.replicate ((119 - n % 64) % 64) 0 ++ lenW n 8):=rfl
theorem repl_succ (x:List Nat) (j:Nat):x ++ 128 :: List.replicate (j+1) 0=(x ++ 128 :: List.replicate j 0) ++ [0]:=by
 rw [List.replicate_succ'];simp
theorem OwnB.base {w:World} {b b':Nat} {v:Value} {l:List Nat} (h:OwnB w b v l) (hb:b'≤b):OwnB w b' v l:=by
 obtain ⟨g,cap,cur,fz,hv,h1,r⟩:=h;exact ⟨g,cap,cur,fz,hv,Nat.le_trans hb h1,r⟩
theorem OwnB.alloc {w:World} {b:Nat} {v:Value} {l:List Nat} (h:OwnB w b v l) (o:Obj):OwnB (w.alloc o) b v l:=h.later ((Below.refl _ _).alloc (Nat.le_refl _) o)
def lenV:Value→Nat
 | .slice _ n _=>n
 | _=>0
theorem pad_lt (n:Nat):∀x∈padW n,x<256:=fun x hx=>by
 unfold padW at hx;rcases List.mem_cons.1 hx with rfl | hx
 ·omega
 rcases List.mem_append.1 hx with hx | hx
 ·obtain ⟨_,rfl⟩:=List.mem_replicate.1 hx;omega
 obtain ⟨i,_,rfl⟩:=List.mem_map.1 hx;omega
structure SumI (w:World) (g:Nat) (bs:List Nat) (k:Nat) (W:World):Prop where
 h:W.heap[w.heap.size]?=some (.cells (rowW 8 (chunksW h0W k bs)) 172 (0,0))
 row:RowK 1 encB W (some ⟨g,0,none⟩) bs
 low:Below w.heap.size w W
theorem SumI.chg {w A B:World} {g k z:Nat} {bs:List Nat} {C:Nat→Prop} (h:SumI w g bs k A) (hc:Chg C A B) (hC:∀j,C j→z≤j) (hg:g<z) (hw:w.heap.size<z):SumI w g bs k B:=
 ⟨(hc.block _ (gE h.h).1 (fun c=>by have:=hC _ c;omega)).trans h.h,h.row.chgB hc (fun c=>by have:=hC _ c;omega),h.low.trans (hc.below h.low.size (fun j c=>by have:=hC _ c;omega))⟩
theorem sum_any (s:ByteArray) (w:World) (hs:s.size≤1000000) (hG:Glob w) :
  Calls Tryz.prog 72 #[.string s] w fun e w'=>e = .returned (.string (strB (shaW (bytesN s))))∧Below w.heap.size w w':=by
 have HG:=Hd hG;clear hG;suffices HH:∀n,CallsIn Fence.wide n Tryz.prog 72 #[.string s] w (fun e w'=>e = .returned (.string (strB (shaW (bytesN s))))∧Below w.heap.size w w') from (callsIn_wide (n:=5)).1 (HH 5)
 intro nF;refine callsIn_of_wp_marks Tryz.func72 rfl trivial ?_ rfl;simp only [Tryz.ntmps72,List.size_toArray,List.length_cons,List.length_nil,Nat.reduceAdd,Nat.reduceSub,Array.replicate_succ,Array.replicate_zero,List.push_toArray,List.append_toArray,List.nil_append,List.cons_append];obtain ⟨b0,hb0⟩:∃b0,w.heap.size+1=b0:=⟨_,rfl⟩;have HZ:=Hd hb0;clear hb0;gi_wp2_with (first
  | (refine wpListIn_bytes rfl (.tmp 8) rfl s rfl (by omega) ?_;intro v1 W1 ho1 hb1;simp only [World.size_alloc] at ho1 hb1;have B0:=Hd (show Below w.heap.size w W1 from ((Below.refl _ w).alloc (Nat.le_refl _) _).trans (hb1.mono (Nat.le_succ _)));have HB0:=Hd (show W1.heap[w.heap.size]?=some (.cells (rowW 8 h0W) 172 (0,0)) from (hb1.block _ (Nat.lt_succ_self _)).trans (heap_alloc_new w _));rw [HZ.out] at ho1 hb1;have O1:=Hd ho1;have L1:=Hd hb1.size;simp only [World.size_alloc] at L1;rw [HZ.out] at L1;clear ho1 hb1)
  | (gi_at_builtin;go_loud (refine wpListIn_append_byte rfl (.tmp 9) (.tmp 10) rfl b0 v1 (bytesN s) rfl (O1.out.alloc _) W1.heap.size 1 128 rfl (cell_box _ _ _ _ _ rfl _ rfl) (by rw [bytesN_len];omega) (by have:=L1.out;simp;omega) ?_;intro v2 W2 hown hbel;have O2:=Hd hown;have B2:=Hd (((Below.refl b0 W1).alloc L1.out _).trans hbel);clear hown hbel))
  | gi_in)
 obtain ⟨J,hJ⟩:∃J,(119 - s.size % 64) % 64=J:=⟨_,rfl⟩;have hJ1:J<64:=by omega
 have HJ:=Hd hJ;clear hJ O1;gi_loopw [4] (fun v wr=>∃j:Nat,j≤J∧OwnB wr b0 v (bytesN s ++ 128 :: List.replicate j 0)∧Below b0 W1 wr) (fun v _=>s.size+1+J - lenV v)
 case atStart=>exact ⟨0,by omega,O2.out,B2.out⟩
 case round=>
  obtain ⟨j,hj,ho,hb⟩:=hrel;have BW:=Hd hb;have OW:=Hd ho;have OC:=Hd ho.cell;obtain ⟨g,cap,hv,hbg,hgl,hlc,hcm,_⟩:=OC.out;have hln:(bytesN s ++ 128 :: List.replicate j 0).length=s.size+1+j:=by simp [bytesN_len];omega
  rw [hln] at hv hlc;subst hv;clear hb ho OC;unfold maxLen at hcm;obtain ⟨n,hn⟩:∃n,s.size+1+j=n:=⟨_,rfl⟩;rw [hn] at OW hlc ⊢;have hn1:n≤1000100:=by omega
  have HN:=Hd hn;have HLN:=Hd hln;have n0:(0:Int)≤(n:Int):=by omega
  have LT:=Hd hbg;by_cases hlt:j<J
  ·have t1:¬(n:Int) % 64=56:=by have:=HJ.out;omega
   have t2:((n:Int) % 64 == 56)=false:=by simpa using t1
   clear hn hln hbg;gi_wp2_with (first
    | (gi_at_builtin;go_loud (refine wpListIn_append_byte rfl (.tmp 16) (.tmp 17) rfl b0 (.slice (some ⟨g,0,none⟩) n cap) (bytesN s ++ 128 :: List.replicate j 0) rfl (OW.out.alloc _) wr.heap.size 1 0 rfl (cell_box _ _ _ _ _ rfl _ rfl) (by rw [HLN.out];omega) (by have:=LT.out;simp;omega) ?_;intro v3 W3 hown hbel;have O3:=Hd hown;have B3:=Hd ((BW.out.alloc (by have:=BW.out.size;have:=L1.out;omega) _).trans hbel);clear hown hbel))
    | gi_in)
   have hl3:lenV v3=n+1:=by
    obtain ⟨g3,c3,h3,_⟩:=O3.out.cell;rw [h3];show (_:List Nat).length=_;rw [List.length_append,HLN.out,HN.out];rfl
   refine ⟨⟨j+1,hlt,?_,B3.out⟩,?_⟩
   ·rw [repl_succ];exact O3.out
   rw [hl3,HN.out.symm];show s.size+1+J - (s.size+1+j+1)<s.size+1+J - (s.size+1+j);omega
  have hjJ:j=J:=by omega
  have t1:(n:Int) % 64=56:=by have:=HJ.out;omega
  rw [hjJ] at OW;obtain ⟨pre,hpre⟩:∃p,bytesN s ++ 128 :: List.replicate J 0=p:=⟨_,rfl⟩;rw [hpre] at OW;have PRE:=Hd (show pre.length=n∧pre ++ lenW s.size 8=bytesN s ++ padW s.size from ⟨by rw [←hpre,←hjJ,HLN.out,HN.out],by rw [←hpre,pad_eq,HJ.out];simp⟩);have WO:=Hd (show ∃wo:World,wo=wr from ⟨_,rfl⟩);obtain ⟨wo,hwo⟩:=WO.out;clear WO;subst hwo;clear hn hln hbg hjJ hlt hj HLN hpre O2 B2;gi_wp2
  have T1:=Hd t1;clear t1;gi_loopw [4,5] (fun v i wr=>∃k:Nat,k≤8∧i = .int .i64 (7 - (k:Int))∧OwnB wr b0 v (pre ++ lenW s.size k)∧Below b0 W1 wr) (fun _ i _=>(intOf i+1).toNat)
  case atStart=>exact ⟨0,by omega,rfl,by simpa [lenW] using OW.out,BW.out⟩
  case round=>
   obtain ⟨k,hk,rfl,ho,hb⟩:=hrel;have BX:=Hd hb;have OX:=Hd ho;have OC:=Hd ho.cell;obtain ⟨g2,cap2,hv,hbg,hgl,hlc2,hcm2,_⟩:=OC.out;have hln:(pre ++ lenW s.size k).length=n+k:=by rw [List.length_append,PRE.out.1,lenW_len]
   rw [hln] at hv hlc2;subst hv;clear hb ho OC;unfold maxLen at hcm2;have HLN:=Hd hln;have LT2:=Hd hbg;by_cases hlt:k<8
   ·obtain ⟨m,hm⟩:∃m,8 * (7 - k)=m:=⟨_,rfl⟩;have LS:=Hd (lenW_succ s.size k);rw [hm] at LS;have e1:(8:Int) * (7 - (k:Int))=(m:Int):=by omega
    have nn:¬(m:Int)<0:=by omega
    have m0:(0:Int)≤(m:Int):=by omega
    have m1:(m:Int)≤64:=by omega
    have k0:(0:Int)≤7 - (k:Int):=by omega
    have k7:7 - (k:Int)≤7:=by omega
    have HM:=Hd hm;clear hm hln hbg hlt;have BY:=Hd (show (#[Value.int .u8 (8 * (s.size:Int) / 2 ^ m % 256)]:Array Value)[0]?=some (eB ((8 * s.size / 2 ^ m) % 256)) from by
     show some (Value.int .u8 _)=some (Value.int .u8 _);congr 2)
    gi_wp2_with (first
     | (gi_at_builtin;go_loud (refine wpListIn_append_byte rfl (.tmp 23) (.tmp 31) rfl b0 (.slice (some ⟨g2,0,none⟩) (n+k) cap2) (pre ++ lenW s.size k) rfl (OX.out.alloc _) wr.heap.size 1 ((8 * s.size / 2 ^ m) % 256) rfl (cell_box _ _ _ _ _ BY.out _ rfl) (by rw [HLN.out];omega) (by have:=LT2.out;simp;omega) ?_;intro v3 W3 hown hbel;rw [List.append_assoc,←LS.out] at hown;have O3:=Hd hown;have B3:=Hd ((BX.out.alloc (by have:=BX.out.size;have:=L1.out;omega) _).trans hbel);clear hown hbel))
     | gi_in)
    have hl3:n+k+1=(pre ++ lenW s.size (k+1)).length:=by rw [List.length_append,PRE.out.1,lenW_len];omega
    refine ⟨⟨k+1,by omega,by go_num,O3.out,B3.out⟩,by simp [intOf];omega⟩
   have hk8:k=8:=by omega
   rw [hk8,PRE.out.2] at OX;have HL2:=Hd (show (bytesN s ++ padW s.size).length=n+k from by rw [←HLN.out,hk8,PRE.out.2]);have hmod:(n+k) % 64=0:=by rw [←HL2.out,List.length_append,bytesN_len];exact pad_len s.size
   obtain ⟨mm,hmm⟩:∃mm,n+k=64 * mm:=⟨(n+k) / 64,by omega⟩;have ROW:=Hd (show RowK 1 encB wr (some ⟨g2,0,none⟩) (bytesN s ++ padW s.size) from by
    obtain ⟨g',cap',e,_,_,_,hr⟩:=OX.out.row;injection e with e1 e2 e3
    injection e1 with e1
    injection e1 with e1
    rw [e1];exact hr)
   rw [hmm] at HL2 hlc2 ⊢;have kn:¬(0:Int)≤7 - (k:Int):=by omega
   have kn2:¬(k:Int)≤7:=by omega
   have hml:mm≤1099511627776:=by omega
   clear hln hbg hlt hk hk8 hmod hmm hlc OW OX;obtain ⟨bs,hbs⟩:∃bs,bytesN s ++ padW s.size=bs:=⟨_,rfl⟩;have HBS:=Hd hbs;rw [hbs] at ROW HL2;clear hbs;gi_wp2
   refine wide_call (chunk_any _ _ _ wr) ?_;rintro e w' ⟨rfl,rfl⟩;gi_wp2
   obtain ⟨Wc,hWc⟩:∃Wc,(wr.alloc (.cells #[.slice (some ⟨g2,0,none⟩) (64 * mm) cap2] 135)).alloc (.cells #[.int .i64 64] 3)=Wc:=⟨_,rfl⟩;have ZC:=Hd (show Wc.heap.size=wr.heap.size+2 from by rw [←hWc];simp);have BC:=Hd (show Below wr.heap.size wr Wc from by rw [←hWc];exact ((Below.refl _ _).alloc (Nat.le_refl _) _).alloc (by simp) _);have C0:=Hd (show Wc.cell? ⟨wr.heap.size,0,none⟩=some (.slice (some ⟨g2,0,none⟩) (64 * mm) cap2) from by rw [←hWc];exact cell_up (cell_box _ _ _ _ _ rfl _ rfl) _);have C1:=Hd (show Wc.cell? ⟨wr.heap.size+1,0,none⟩=some (.int .i64 64) from by rw [←hWc];exact cell_box _ _ _ _ _ rfl _ (by simp));rw [hWc];clear hWc;refine wpIn_range_all (gf:=178) (lb:=#[.pointer (some ⟨wr.heap.size,0,none⟩),.pointer (some ⟨wr.heap.size+1,0,none⟩)]) rfl (enters_of Tryz.func178 (by kernel_rfl) rfl)
    (chunk_seq _ wr.heap.size g2 mm cap2 Wc hlc2 (by unfold maxLen;omega) hml C0.out C1.out) (fun _=>rfl)
    (fun pre O W=>SumI w g2 bs pre.length W∧∀j,O j↔j=w.heap.size) (fun j=>j=w.heap.size) ?hO0 ?hI ?h0
    (fun pre x a' O W=>a' = {tmps:=#[.string s,undef,.string {data:=#[]},.pointer (some ⟨w.heap.size,0,none⟩),.slice (some ⟨g2,0,none⟩) (64 * mm) cap2,.int .i64 (7 - (k:Int)),.slice (some ⟨g2,64 * x,none⟩) 64 64,.agg #[.int .u32 1779033703,.int .u32 3144134277,.int .u32 1013904242,.int .u32 2773480762,.int .u32 1359893119,.int .u32 2600822924,.int .u32 528734635,.int .u32 1541459225],.string s,v1,.slice (some ⟨W1.heap.size,0,none⟩) 1 1,v2,.slice (some ⟨g,0,none⟩) n cap,.int .i64 (n:Int),.int .i64 ((n:Int) % 64),.bool false,u16,u17,u18,.int .i64 (7 - (k:Int)),.bool false,u21,u22,u23,u24,u25,u26,u27,u28,u29,u30,u31,u32,.slice (some ⟨g2,0,none⟩) (64 * mm) cap2,.func (.func 178) #[] #[.pointer (some ⟨wr.heap.size,0,none⟩),.pointer (some ⟨wr.heap.size+1,0,none⟩)],.slice (some ⟨g2,64 * x,none⟩) 64 64,undef,undef,undef,undef],defers:=[]}∧SumI w g2 bs pre.length W∧∀j,O j↔j=w.heap.size) ?hM ?assign ?body ?done
   case hO0=>
    intro j hj;subst hj;have h1:=ZC.out;have h2:=BX.out.size;have h3:=L1.out;have h4:=HZ.out;exact ⟨by omega,fun h=>by omega⟩
   case hI=>
    rintro s' O A B C ⟨h1,h2⟩ hc hC;have q1:=ZC.out;have q2:=BX.out.size;have q3:=L1.out;have q4:=HZ.out;exact ⟨h1.chg (z:=Wc.heap.size) hc (fun j hj=>(hC j hj).1) (by omega) (by omega),h2⟩
   case h0=>
    have q1:=ZC.out;have q2:=BX.out.size;have q3:=L1.out;have q4:=HZ.out;have hb:Below b0 W1 Wc:=BX.out.trans (BC.out.mono (by omega));exact ⟨⟨(hb.block _ (by omega)).trans HB0.out,ROW.out.later BC.out,B0.out.trans (hb.mono (by omega))⟩,fun j=>Iff.rfl⟩
   case hM=>
    rintro s' x a' O A B C ⟨h0,h1,h2⟩ hc hC;have q1:=ZC.out;have q2:=BX.out.size;have q3:=L1.out;have q4:=HZ.out;exact ⟨h0,h1.chg (z:=Wc.heap.size) hc (fun j hj=>(hC j hj).1) (by omega) (by omega),h2⟩
   case assign=>
    intro l' pre x rest O W K hx hi hK;dsimp only [encC];gi_wp2
    exact hK _ O W ⟨rfl,hi⟩ (Chg.refl _ _) (fun k h=>.inl h)
   case body=>
    rintro l' pre x rest a' O W hx ⟨rfl,hi,ho⟩;have hxk:x=pre.length:=by
     have h1:(List.range mm)[pre.length]?=some x:=by rw [hx];simp
     have h2:=(List.getElem?_eq_some_iff.1 h1);obtain ⟨h3,h4⟩:=h2;rw [List.getElem_range] at h4;exact h4.symm
    have hxm:x<mm:=by
     have h1:(List.range mm).length=pre.length+(rest.length+1):=by rw [hx];simp
     rw [List.length_range] at h1;omega
    have IN:=Hd hi;have hcl:((bs.drop (64 * x)).take 64).length=64:=by rw [List.length_take,List.length_drop,HL2.out];omega
    have ADD:=Hd (add_any w.heap.size (chunksW h0W x bs) (some ⟨g2,64 * x,none⟩) 64 ((bs.drop (64 * x)).take 64) W (chunksW_len _ _ _ rfl) (by rw [hxk];exact hi.h) (HG.out.later hi.low) hcl
     (fun n' hn'=>by
      have h1:n'∈bs:=List.mem_of_mem_drop (List.mem_of_mem_take hn');rw [←HBS.out] at h1;rcases List.mem_append.1 h1 with h2 | h2
      ·exact bytesN_lt s n' h2
      exact pad_lt s.size n' h2) (hi.row.cut x))
    have HO:=Hd ho;have HXK:=Hd hxk;clear hi ho hcl hx hxk hxm;gi_wp2
    refine wide_callR ADD.out ?_;rintro e W' ⟨rfl,h1,h2⟩;have NX:=Hd (show SumI w g2 bs (pre ++ [x]).length W' from by
     have q1:=LT2.out;have q4:=HZ.out;refine ⟨?_,IN.out.row.chgB h2 (by omega),IN.out.low.trans (h2.below IN.out.low.size (fun j hj=>by omega))⟩;rw [List.length_append,List.length_singleton,chunksW_snoc,←HXK.out];exact h1)
    have CH:=Hd (show Chg O W W' from h2.mono (fun j _ hj=>(HO.out j).2 hj));clear h1 h2;gi_wp2
    exact ⟨O,⟨NX.out,HO.out⟩,CH.out,fun j hj=>.inl hj⟩
   case done=>
    rintro D O W hD hnD ⟨hi,ho⟩ hK;rw [List.length_range] at hi;have HI:=Hd hi;have SH:=Hd (show (chunksW h0W mm bs).flatMap wordBytes=shaW (bytesN s) from by
     unfold shaW;simp only [bytesN_len,HBS.out,HL2.out];rw [Nat.mul_div_cancel_left _ (by decide)])
    have HI8:=Hd (show (Tryz.prog.info? 172).map (·.size)=some (rowW 8 (chunksW h0W mm bs)).size from by rw [rowW_size (by rw [chunksW_len _ _ _ rfl];exact Nat.le_refl _)];kernel_rfl);have DG:=Hd (digest_any (chunksW h0W mm bs) W (chunksW_len _ _ _ rfl));rw [SH.out] at DG;clear hi;gi_wp2_with (first
     | (refine wpListIn_load_row rfl 172 (.tmp 3) rfl w.heap.size rfl 172 (rowW 8 (chunksW h0W mm bs)) (0,0) _ HI.out.h Tryz.underlying172 rfl HI8.out ?_)
     | gi_in)
    refine wide_call DG.out ?_;rintro e W' ⟨rfl,h2⟩;have LOW:=Hd (HI.out.low.trans (h2.mono HI.out.low.size));have HKK:=Hd ((h2.block D (gE hK).1).trans hK);clear h2 hK;gi_wp2
    refine ⟨by simp,.inl ⟨_,_,rfl,run_takeDeferred HKK.out,?_⟩⟩;refine ⟨_,results_tmp rfl _ _ _,rfl,?_⟩;exact LOW.out.trans ((Chg.put W' D (.deferred none) (C:=fun k=>k=D) rfl).below LOW.out.size (fun k hk=>by have:=ZC.out;have:=BX.out.size;have:=L1.out;have:=HZ.out;omega))
end
section
open Go.MapKept (bytes_beq)
open Classical in
noncomputable def findE (x:Value):List MapEntry→Nat→Option (Nat×Value)
 | [],_=>none
 | e :: es,i=>if e.key=x then some (i,e.val) else findE x es (i+1)
structure RawKey (P:Program) (K:TypeId) (good:World→Value→Prop):Prop where
 find:∀w x es,good w x→(∀e∈es,good w e.key)→(Instr.findKey K x es).run P w = .ok (findE x es 0) w
 check:∀w em x,good w x→(Instr.checkKey em 10000 K x).run P w = .ok () w
 stays:∀w x,good w x→(Instr.keyThatStays x x).run P w = .ok x w
def goodS (w:World) (x:Value):Prop:=∃s,x = .string s
def goodP (w:World) (x:Value):Prop:=∃b cs t,x = .pointer (some ⟨b,0,none⟩)∧w.heap[b]?=some (.cells cs t (0,0))
theorem findNow_string (x:ByteArray):∀(es:List MapEntry) (i:Nat),(∀e∈es,∃s,e.key = .string s)→Instr.findNow .string (.string x) es i=some (findE (.string x) es i)
 | [],i,_=>rfl
 | e :: es,i,h=>by
  obtain ⟨s,hs⟩:=h e (by simp);have ih:=findNow_string x es (i+1) (fun e he=>h e (by simp [he]));unfold Instr.findNow findE;rw [hs];by_cases hx:x=s
  ·subst hx;have hb:(x == x)=true:=(bytes_beq x x).2 rfl;simp [Instr.sameNow,hb]
  have hne:¬s=x:=fun h=>hx h.symm;have hb:(x == s)=false:=by rw [Bool.eq_false_iff];exact fun h=>hx ((bytes_beq x s).1 h)
  simp [Instr.sameNow,hb,hne,ih]
theorem rawString {P:Program} {K:TypeId} (hK:P.underlying K=some .string):RawKey P K goodS where
 find:=fun w x es ⟨s,hs⟩ h=>by
  subst hs;simp [Instr.findKey,run_underlying hK,findNow_string s es 0 h]
 check:=fun w em x ⟨s,hs⟩=>by
  subst hs;show (Instr.checkKey em (9999+1) K _).run P w=_;unfold Instr.checkKey;simp only [Sem.run_bind,run_underlying hK,Result.andThen];rfl
 stays:=fun w x ⟨s,hs⟩=>by
  subst hs;have hb:(s == s)=true:=(bytes_beq s s).2 rfl;simp [Instr.keyThatStays,Instr.sameBits,hb]
theorem findAsking_ptr {P:Program} {K te:TypeId} {j:TypeInfo} (hK:P.underlying K=some (.pointer te)) (hte:P.info? te=some j) (hsz:j.size≠0) (w:World) (b:Nat) (cs:Array Value) (t:TypeId) (hb:w.heap[b]?=some (.cells cs t (0,0))) :
  ∀(es:List MapEntry) (i:Nat),(∀e∈es,goodP w e.key)→(Instr.findAsking K (.pointer (some ⟨b,0,none⟩)) es i).run P w = .ok (findE (.pointer (some ⟨b,0,none⟩)) es i) w
 | [],i,_=>by simp [Instr.findAsking,findE]
 | e :: es,i,h=>by
  obtain ⟨b',cs',t',hk,hb'⟩:=h e (by simp);have ih:=findAsking_ptr hK hte hsz w b cs t hb es (i+1) (fun e he=>h e (by simp [he]));unfold Instr.findAsking findE;rw [hk];by_cases e1:b=b'
  ·subst e1;have he0:∀d:Nat,(Op.equalIn (d+1) K (.pointer (some ⟨b,0,none⟩)) (.pointer (some ⟨b,0,none⟩))).run P w = .ok true w:=fun d=>by
    simp [Op.equalIn,run_underlying hK,sizeOf,typeInfo,hte,run_sameAddr_same]
   have he:(Op.equal K (.pointer (some ⟨b,0,none⟩)) (.pointer (some ⟨b,0,none⟩))).run P w = .ok true w:=he0 9999;simp [he]
  have hne:(⟨b,0,none⟩:Addr)≠⟨b',0,none⟩:=fun h=>e1 (by injection h);have he0:∀d:Nat,(Op.equalIn (d+1) K (.pointer (some ⟨b,0,none⟩)) (.pointer (some ⟨b',0,none⟩))).run P w = .ok false w:=fun d=>by
   simp [Op.equalIn,run_underlying hK,sizeOf,typeInfo,hte,hsz,run_sameAddr_other w hne hb hb']
  have he:(Op.equal K (.pointer (some ⟨b,0,none⟩)) (.pointer (some ⟨b',0,none⟩))).run P w = .ok false w:=he0 9999;have e2:¬b'=b:=fun h=>e1 h.symm;simp [he,e2,ih]
theorem findNow_ptr (te:TypeId) (x:Option Addr) (e:MapEntry) (es:List MapEntry) (i:Nat):Instr.findNow (.pointer te) (.pointer x) (e :: es) i=none:=by
 unfold Instr.findNow;simp [Instr.sameNow]
theorem rawPtr {P:Program} {K te:TypeId} {j:TypeInfo} (hK:P.underlying K=some (.pointer te)) (hte:P.info? te=some j) (hsz:j.size≠0):RawKey P K goodP where
 find:=fun w x es ⟨b,cs,t,hx,hb⟩ h=>by
  subst hx;rcases es with _ | ⟨e,es⟩
  ·simp [Instr.findKey,run_underlying hK,Instr.findNow,findE]
  have:=findAsking_ptr hK hte hsz w b cs t hb (e :: es) 0 h;simp only [Instr.findKey,Sem.run_bind,run_underlying hK,Result.andThen_ok,findNow_ptr];exact this
 check:=fun w em x ⟨b,cs,t,hx,hb⟩=>by
  subst hx;show (Instr.checkKey em (9999+1) K _).run P w=_;unfold Instr.checkKey;simp only [Sem.run_bind,run_underlying hK,Result.andThen];rfl
 stays:=fun w x ⟨b,cs,t,hx,hb⟩=>by subst hx;simp [Instr.keyThatStays,Instr.sameBits]
def RawMap (w:World) (b:Nat) (L:List (Value×Value)):Prop:=
 ∃es clk,w.heap[b]?=some (.map es clk)∧es.toList.map (fun e=>(e.key,e.val))=L∧(es.toList.map (·.born)).Pairwise (· < ·)∧∀e∈es.toList,e.born<clk
open Classical in
noncomputable def getV (x:Value):List (Value×Value)→Option Value
 | []=>none
 | p :: l=>if p.1=x then some p.2 else getV x l
open Classical in
noncomputable def putV (x v:Value):List (Value×Value)→List (Value×Value)
 | []=>[(x,v)]
 | p :: l=>if p.1=x then (x,v) :: l else p :: putV x v l
open Classical in
noncomputable def delV (x:Value):List (Value×Value)→List (Value×Value)
 | []=>[]
 | p :: l=>if p.1=x then l else p :: delV x l
theorem findE_get (x:Value):∀(es:List MapEntry) (i:Nat),(findE x es i).map (·.2)=getV x (es.map fun e=>(e.key,e.val))
 | [],i=>rfl
 | e :: es,i=>by
  unfold findE;simp only [List.map_cons,getV];split
  ·rfl
  exact findE_get x es (i+1)
theorem findE_some (x:Value):∀(es:List MapEntry) (i j:Nat) (v:Value),findE x es i=some (j,v)→∃(k:Nat) (e:MapEntry),j=i+k∧es[k]?=some e∧e.key=x∧e.val=v∧getV x (es.map fun e=>(e.key,e.val))=some v∧(∀nv,putV x nv (es.map fun e=>(e.key,e.val))=(es.modify k (fun e=>{e with key:=x,val:=nv})).map fun e=>(e.key,e.val))∧delV x (es.map fun e=>(e.key,e.val))=(es.eraseIdx k).map fun e=>(e.key,e.val)
 | [],i,j,v,h=>by simp [findE] at h
 | e :: es,i,j,v,h=>by
  unfold findE at h;split at h
  ·rename_i hk
   simp only [Option.some.injEq,Prod.mk.injEq] at h;obtain ⟨rfl,rfl⟩:=h;exact ⟨0,e,rfl,rfl,hk,rfl,by simp [getV,hk],fun nv=>by simp [putV,hk],by simp [delV,hk]⟩
  rename_i hk
  obtain ⟨k,e',h1,h2,h3,h4,h5,h6,h7⟩:=findE_some x es (i+1) j v h;exact ⟨k+1,e',by omega,by simpa using h2,h3,h4,by simpa [getV,hk] using h5,fun nv=>by simpa [putV,hk] using h6 nv,by simpa [delV,hk] using h7⟩
theorem findE_none (x:Value):∀(es:List MapEntry) (i:Nat),findE x es i=none→getV x (es.map fun e=>(e.key,e.val))=none∧(∀nv,putV x nv (es.map fun e=>(e.key,e.val))=(es.map fun e=>(e.key,e.val)) ++ [(x,nv)])∧delV x (es.map fun e=>(e.key,e.val))=es.map fun e=>(e.key,e.val)
 | [],i,_=>⟨rfl,fun _=>rfl,rfl⟩
 | e :: es,i,h=>by
  unfold findE at h;split at h
  ·cases h
  rename_i hk
  obtain ⟨h1,h2,h3⟩:=findE_none x es (i+1) h;exact ⟨by simpa [getV,hk] using h1,fun nv=>by simpa [putV,hk] using h2 nv,by simpa [delV,hk] using h3⟩
def KeysGood (good:World→Value→Prop) (w:World) (L:List (Value×Value)):Prop:=∀p∈L,good w p.1
theorem KeysGood.es {good:World→Value→Prop} {w:World} {es:Array MapEntry} (h:KeysGood good w (es.toList.map fun e=>(e.key,e.val))):∀e∈es.toList,good w e.key:=fun e he=>h (e.key,e.val) (List.mem_map.2 ⟨e,he,rfl⟩)
theorem RawMap.lookup {P:Program} {T K E:TypeId} {good:World→Value→Prop} (R:RawKey P K good) (hT:P.underlying T=some (.map K E)) {w:World} {b:Nat} {L:List (Value×Value)} (h:RawMap w b L) (hg:KeysGood good w L) {x:Value} (hx:good w x) {z:Value} (hz:(zeroValue E).run P w = .ok z w) (ok:Bool) :
  (Instr.lookup T (.map (some b)) x ok).run P w = .ok (if ok then .tuple #[(getV x L).getD z,.bool (getV x L).isSome] else (getV x L).getD z) w:=by
 obtain ⟨es,clk,hb,rfl,_,_⟩:=h;have h1:=R.find w x es.toList hx hg.es;have h2:=findE_get x es.toList 0;rcases hf:findE x es.toList 0 with _ | ⟨j,v⟩
 ·rw [hf] at h1 h2;simp only [Option.map_none] at h2;simp [Instr.lookup,run_underlying hT,MapKept.run_getObj_map hb,R.check w _ x hx,h1,hz,←h2]
 rw [hf] at h1 h2;simp only [Option.map_some] at h2;simp [Instr.lookup,run_underlying hT,MapKept.run_getObj_map hb,R.check w _ x hx,h1,←h2]
theorem lookup_nil {P:Program} {T K E:TypeId} {good:World→Value→Prop} (R:RawKey P K good) (hT:P.underlying T=some (.map K E)) {w:World} {x:Value} (hx:good w x) {z:Value} (hz:(zeroValue E).run P w = .ok z w) (ok:Bool) :
  (Instr.lookup T (.map none) x ok).run P w = .ok (if ok then .tuple #[z,.bool false] else z) w:=by
 have h1:=R.find w x [] hx (by simp);simp only [findE] at h1;simp [Instr.lookup,run_underlying hT,R.check w _ x hx,h1,hz]
theorem pairwise_modify {es:List MapEntry} {k:Nat} {f:MapEntry→MapEntry} (hf:∀e,(f e).born=e.born):(es.modify k f).map (·.born)=es.map (·.born):=by
 induction es generalizing k with
 | nil=>simp
 | cons e es ih=>
  rcases k with _ | k
  ·simp [hf]
  simp [ih]
theorem RawMap.update {P:Program} {T K E:TypeId} {good:World→Value→Prop} (R:RawKey P K good) (hT:P.underlying T=some (.map K E)) {w:World} {b:Nat} {L:List (Value×Value)} (h:RawMap w b L) (hg:KeysGood good w L) {x:Value} (hx:good w x) (v:Value) :
  ∃o,(Instr.mapUpdate T (.map (some b)) x v).run P w = .ok () (w.putObj b o)∧∀W:World,W.heap[b]?=some o→RawMap W b (putV x v L):=by
 obtain ⟨es,clk,hb,rfl,hp,hc⟩:=h;have h1:=R.find w x es.toList hx hg.es;rcases hf:findE x es.toList 0 with _ | ⟨j,v0⟩
 ·rw [hf] at h1;obtain ⟨_,h3,_⟩:=findE_none x es.toList 0 hf;refine ⟨.map (es.push {key:=x,val:=v,born:=clk}) (clk+1),?_,fun W hW=>⟨_,_,hW,?_,?_,?_⟩⟩
  ·simp [Instr.mapUpdate,run_underlying hT,MapKept.run_getObj_map hb,R.check w _ x hx,h1,MapKept.run_setObj_map _ hb,World.putObj]
  ·rw [h3];simp
  ·simp only [Array.toList_push,List.map_append,List.map_cons,List.map_nil];rw [List.pairwise_append];refine ⟨hp,by simp,fun a ha c hc'=>?_⟩;obtain ⟨e,he,rfl⟩:=List.mem_map.1 ha;simp at hc';subst hc';exact hc e he
  intro e he;simp only [Array.toList_push,List.mem_append,List.mem_singleton] at he;rcases he with he | rfl
  ·have:=hc e he;omega
  show clk<clk+1;omega
 rw [hf] at h1;obtain ⟨k,e,hj,hk,h3,h4,_,h6,_⟩:=findE_some x es.toList 0 j v0 hf;rw [Nat.zero_add] at hj;subst hj;have hk':es[j]?=some e:=by simpa using hk
 refine ⟨.map (es.modify j fun e=>{e with key:=x,val:=v}) clk,?_,fun W hW=>⟨_,_,hW,?_,?_,?_⟩⟩
 ·simp [Instr.mapUpdate,run_underlying hT,MapKept.run_getObj_map hb,R.check w _ x hx,h1,hk',h3,R.stays w x hx,MapKept.run_setObj_map _ hb,World.putObj]
 ·rw [h6 v,Array.toList_modify]
 ·rw [Array.toList_modify,pairwise_modify (f:=fun e=>{e with key:=x,val:=v}) (fun _=>rfl)];exact hp
 intro e' he';rw [Array.toList_modify] at he';have:e'.born∈(es.toList.modify j fun e=>{e with key:=x,val:=v}).map (·.born):=List.mem_map.2 ⟨e',he',rfl⟩;rw [pairwise_modify (f:=fun e=>{e with key:=x,val:=v}) (fun _=>rfl)] at this;obtain ⟨e2,h2,h5⟩:=List.mem_map.1 this;rw [←h5];exact hc e2 h2
theorem RawMap.delete {P:Program} {T K E:TypeId} {good:World→Value→Prop} (R:RawKey P K good) (hT:P.underlying T=some (.map K E)) {w:World} {b:Nat} {L:List (Value×Value)} (h:RawMap w b L) (hg:KeysGood good w L) {x:Value} (hx:good w x) (t:TypeId) (ts:Array TypeId) (hts:ts[0]?=some T) :
  ∃o,(Builtin.delete_ ts t #[.map (some b),x]).run P w = .ok (.tuple #[]) (w.putObj b o)∧∀W:World,W.heap[b]?=some o→RawMap W b (delV x L):=by
 obtain ⟨es,clk,hb,rfl,hp,hc⟩:=h;have h1:=R.find w x es.toList hx hg.es;rcases hf:findE x es.toList 0 with _ | ⟨j,v0⟩
 ·rw [hf] at h1;obtain ⟨_,_,h3⟩:=findE_none x es.toList 0 hf;refine ⟨.map es clk,?_,fun W hW=>⟨es,clk,hW,h3.symm,hp,hc⟩⟩;simp [Builtin.delete_,hts,run_underlying hT,MapKept.run_getObj_map hb,R.check w _ x hx,h1,MapKept.run_setObj_map _ hb,World.putObj]
 rw [hf] at h1;obtain ⟨k,e,hj,hk,h3,h4,_,_,h7⟩:=findE_some x es.toList 0 j v0 hf;rw [Nat.zero_add] at hj;subst hj;have hlt:j<es.size:=by simpa using (List.getElem?_eq_some_iff.1 hk).1
 have he:(es.eraseIdxIfInBounds j).toList=es.toList.eraseIdx j:=by
  simp [Array.eraseIdxIfInBounds,hlt]
 refine ⟨.map (es.eraseIdxIfInBounds j) clk,?_,fun W hW=>⟨_,_,hW,?_,?_,?_⟩⟩
 ·simp [Builtin.delete_,hts,run_underlying hT,MapKept.run_getObj_map hb,R.check w _ x hx,h1,MapKept.run_setObj_map _ hb,World.putObj]
 ·rw [he,h7]
 ·rw [he];exact List.Pairwise.sublist ((List.eraseIdx_sublist _ _).map _) hp
 intro e' he';rw [he] at he';exact hc e' (List.mem_of_mem_eraseIdx he')
def RawRange (w:World) (b r:Nat) (L left:List (Value×Value)):Prop:=
 ∃es clk since seen c0,w.heap[b]?=some (.map es clk)∧es.toList.map (fun e=>(e.key,e.val))=L∧(es.toList.map (·.born)).Pairwise (· < ·)∧(∀e∈es.toList,e.born<clk) ∧
  w.heap[r]?=some (.mapIter (some b) since seen c0)∧(∀x∈es.toList,x.born<since)∧since≤c0∧since≤clk∧(es.toList.filter (fun e=>!seen.contains e.born)).map (fun e=>(e.key,e.val))=left
theorem RawRange.map {w:World} {b r:Nat} {L left:List (Value×Value)} (h:RawRange w b r L left):RawMap w b L:=by
 obtain ⟨es,clk,since,seen,c0,h1,h2,h3,h4,_⟩:=h;exact ⟨es,clk,h1,h2,h3,h4⟩
theorem RawRange.ne {w:World} {b r:Nat} {L left:List (Value×Value)} (h:RawRange w b r L left):r≠b:=by
 obtain ⟨es,clk,since,seen,c0,h1,_,_,_,h5,_⟩:=h;intro e;subst e;rw [h1] at h5;cases h5
theorem RawRange.kept {w w':World} {b r:Nat} {L left:List (Value×Value)} (h:RawRange w b r L left) (hb:w'.heap[b]?=w.heap[b]?) (hr:w'.heap[r]?=w.heap[r]?):RawRange w' b r L left:=by
 obtain ⟨es,clk,since,seen,c0,h1,h2,h3,h4,h5,h6⟩:=h;exact ⟨es,clk,since,seen,c0,hb.trans h1,h2,h3,h4,hr.trans h5,h6⟩
theorem RawMap.kept {w w':World} {b:Nat} {L:List (Value×Value)} (h:RawMap w b L) (hb:w'.heap[b]?=w.heap[b]?):RawMap w' b L:=by
 obtain ⟨es,clk,h1,h2⟩:=h;exact ⟨es,clk,hb.trans h1,h2⟩
theorem RawMap.lt {w:World} {b:Nat} {L:List (Value×Value)} (h:RawMap w b L):b<w.heap.size:=by
 obtain ⟨es,clk,h1,_⟩:=h;exact (gE h1).1
theorem RawMap.made (w:World):RawMap (w.alloc (.map #[] 0)) w.heap.size []:=⟨#[],0,World.alloc_heap_new w _,rfl,List.Pairwise.nil,by simp⟩
theorem RawMap.range {P:Program} {T K E:TypeId} (hT:P.underlying T=some (.map K E)) {w:World} {b:Nat} {L:List (Value×Value)} (h:RawMap w b L) :
  ∃o,(Instr.range T (.map (some b))).run P w = .ok (.pointer (some ⟨w.heap.size,0,none⟩)) (w.alloc o)∧RawRange (w.alloc o) b w.heap.size L L:=by
 have hlt:=h.lt;obtain ⟨es,clk,hb,rfl,hp,hc⟩:=h;refine ⟨.mapIter (some b) clk #[] clk,run_range_map w T K E b es clk hT hb,es,clk,clk,#[],clk,((MapKept.heap_alloc w _).2 b hlt).trans hb,rfl,hp,hc,World.alloc_heap_new w _,hc,Nat.le_refl _,Nat.le_refl _,?_⟩;congr 1
 exact List.filter_eq_self.2 (fun e _=>by simp)
theorem heap_setO {w:World} {r:Nat} {o o':Obj} (h:w.heap[r]?=some o):(ChangeMaps.setBlock w r o').heap[r]?=some o'∧∀i,i≠r→(ChangeMaps.setBlock w r o').heap[i]?=w.heap[i]?:=by
 have hlt:=(gE h).1;refine ⟨by simp [ChangeMaps.setBlock,hlt],fun i hi=>?_⟩;simp [ChangeMaps.setBlock,Array.getElem?_setIfInBounds_ne (Ne.symm hi)]
theorem nodup_of_lt {l:List Nat} (h:l.Pairwise (· < ·)):l.Nodup:=h.imp (fun h=>Nat.ne_of_lt h)
theorem filter_push {es:List MapEntry} (hn:(es.map (·.born)).Nodup) {seen:Array Nat} {e:MapEntry} (he:e∈es) (hs:seen.contains e.born=false) :
  ∃pre post,es.filter (fun x=>!seen.contains x.born)=pre ++ e :: post∧es.filter (fun x=>!(seen.push e.born).contains x.born)=pre ++ post:=by
 have hc:∀x:MapEntry,(!(seen.push e.born).contains x.born)=((!seen.contains x.born) && (x.born != e.born)):=fun x=>by
  rw [Bool.eq_iff_iff];simp [Array.mem_push,not_or]
 obtain ⟨l1,l2,rfl⟩:=List.append_of_mem he;have hn':=hn;rw [List.map_append,List.map_cons,List.nodup_append] at hn';obtain ⟨_,h2,h3⟩:=hn';rw [List.nodup_cons] at h2;refine ⟨l1.filter (fun x=>!seen.contains x.born),l2.filter (fun x=>!seen.contains x.born),?_,?_⟩
 ·rw [List.filter_append,List.filter_cons,hs];simp
 rw [List.filter_append,List.filter_cons];have e0:(!(seen.push e.born).contains e.born)=false:=by simp
 rw [e0];have f:∀l:List MapEntry,(∀x∈l,x.born≠e.born)→l.filter (fun x=>!(seen.push e.born).contains x.born)=l.filter (fun x=>!seen.contains x.born):=fun l hl=>by
  refine List.filter_congr fun x hx=>?_;rw [hc x];have:=hl x hx;simp [this]
 rw [f l1 (fun x hx h=>h3 x.born (List.mem_map.2 ⟨x,hx,rfl⟩) e.born (by simp) h),f l2 (fun x hx h=>h2.1 (h ▸ List.mem_map.2 ⟨x,hx,rfl⟩))];simp
theorem RawRange.next {P:Program} {w:World} {b r:Nat} {L left:List (Value×Value)} (h:RawRange w b r L left) (ty:TypeId) :
  (left = []∧(Instr.next (.pointer (some ⟨r,0,none⟩)) false ty).run P w = .ok (.tuple #[.bool false]) w) ∨
  ∃k v pre post w',left=pre ++ (k,v) :: post∧(k,v)∈L∧(Instr.next (.pointer (some ⟨r,0,none⟩)) false ty).run P w = .ok (.tuple #[.bool true,k,v]) w'∧RawRange w' b r L (pre ++ post)∧w.grownBy w' (some r)∧w'.heap.size=w.heap.size ∧
   (Instr.entry (.pointer (some ⟨r,0,none⟩))).run P w' = .ok (.tuple #[k,v]) w':=by
 have hne:=h.ne;obtain ⟨es,clk,since,seen,c0,hb,rfl,hp,hc,hr,hold,hsc,hsk,rfl⟩:=h;have hleft:(leftOf es seen).toList=es.toList.filter (fun e=>!seen.contains e.born):=by unfold leftOf;simp
 rcases run_next_at (P:=P) w ty r b since c0 seen es clk hr hb hold hsc with ⟨h0,hrun⟩ | ⟨e,he,w1,hal,hrun⟩
 ·refine .inl ⟨?_,hrun⟩;have h1:(leftOf es seen).toList = []:=List.eq_nil_of_length_eq_zero (by simpa using h0);rw [←hleft,h1];rfl
 rw [hleft] at he;obtain ⟨hem,hes⟩:=List.mem_filter.1 he;have hes':seen.contains e.born=false:=by simpa using hes
 obtain ⟨pre,post,f1,f2⟩:=filter_push (nodup_of_lt hp) hem hes';have hr1:w1.heap[r]?=some (.mapIter (some b) since seen c0):=by rcases hal with rfl | rfl <;> exact hr
 have hb1:w1.heap[b]?=some (.map es clk):=by rcases hal with rfl | rfl <;> exact hb
 have hset:=heap_setO (o':=.mapIter (some b) since (seen.push e.born) clk) hr1;have hb':(ChangeMaps.setBlock w1 r (.mapIter (some b) since (seen.push e.born) clk)).heap[b]?=some (.map es clk):=(hset.2 b (fun e1=>hne e1.symm)).trans hb1;refine .inr ⟨e.key,e.val,pre.map (fun e=>(e.key,e.val)),post.map (fun e=>(e.key,e.val)),_,by rw [f1];simp,List.mem_map.2 ⟨e,hem,rfl⟩,hrun,⟨es,clk,since,seen.push e.born,clk,hb',rfl,hp,hc,hset.1,hold,hsk,hsk,by rw [f2];simp⟩,?_,?_,
  run_entry_at _ r b since seen es clk e hset.1 hb' hem (nodup_of_lt hp)⟩
 ·rcases hal with rfl | rfl <;> exact ⟨rfl,rfl,rfl,by simp [ChangeMaps.setBlock],fun i _ hi=>hset.2 i (fun e1=>hi (by rw [e1]))⟩
 rcases hal with rfl | rfl <;> simp [ChangeMaps.setBlock]
theorem wpList_next_raw {P:Program} (w:World) {ops:Array Oper} {rest:List Oper} {o:Oper} {a:Act} {Q:Exit→Act→World→Prop} (hg:o.guard=none) (it:Operand) (hop:o.op=Op.next it false) (b r:Nat) (L left:List (Value×Value))
  (hit:a.eval it = .pointer (some ⟨r,0,none⟩)) (h:RawRange w b r L left)
  (hDone:left = []→wpList P ops Q rest (a.put o.dst (.tuple #[.bool false])) w)
  (hMore:∀k v pre post w',left=pre ++ (k,v) :: post→(k,v)∈L→RawRange w' b r L (pre ++ post)→w.grownBy w' (some r)→w'.heap.size=w.heap.size→(Instr.entry (.pointer (some ⟨r,0,none⟩))).run P w' = .ok (.tuple #[k,v]) w'→wpList P ops Q rest (a.put o.dst (.tuple #[.bool true,k,v])) w') :
  wpList P ops Q (o :: rest) a w:=by
 refine wpList_plain hg fun K' hK'=>?_;unfold Oper.wp;rcases h.next (P:=P) o.type with ⟨h0,hrun⟩ | ⟨k,v,pre,post,w',hl,hm,hrun,hrg,hgr,hsz,hen⟩
 ·simp [execOp,hop,hit,hrun,Result.andThen];exact hK' _ _ (hDone h0)
 simp [execOp,hop,hit,hrun,Result.andThen];exact hK' _ _ (hMore k v pre post w' hl hm hrg hgr hsz hen)
theorem len_map {P:Program} {w:World} {b:Nat} {L:List (Value×Value)} (h:RawMap w b L):∃es clk,w.heap[b]?=some (.map es clk)∧es.size=L.length:=by
 obtain ⟨es,clk,hb,rfl,_⟩:=h;exact ⟨es,clk,hb,by simp⟩
theorem RawMap.len {P:Program} {T K E:TypeId} (hT:P.underlying T=some (.map K E)) {w:World} {b:Nat} {L:List (Value×Value)} (h:RawMap w b L) (ty:TypeId):(Builtin.len_ #[T] ty #[.map (some b)]).run P w = .ok (.int .i64 L.length) w:=by
 obtain ⟨es,clk,hb,rfl,_⟩:=h;simp [Builtin.len_,run_underlying hT,MapKept.run_getObj_map hb,goInt]
section
variable {P:Program} (w:World) {ops:Array Oper} {rest:List Oper} {o:Oper} {a:Act} {Q:Exit→Act→World→Prop}
theorem wpList_len_raw (hg:o.guard=none) (m:Operand) (t:TypeId) (hop:o.op=Op.call {callee:=Callee.builtin Builtin.len,args:=#[m],argTypes:=#[t]}) (k e:TypeId) (ht:P.underlying t=some (.map k e)) (b:Nat) (L:List (Value×Value)) (hm:a.eval m = .map (some b)) (h:RawMap w b L)
  (hK:wpList P ops Q rest (a.put o.dst (.int .i64 L.length)) w):wpList P ops Q (o :: rest) a w:=by
 refine wpList_plain hg fun K' hK'=>?_;unfold Oper.wp;simp [execOp,hop,resolve,invoke,builtin,hm,h.len ht o.type,Result.andThen];exact hK' _ _ hK
theorem wpList_mapUpdate_raw (hg:o.guard=none) (m x v:Operand) (t:TypeId) (hop:o.op=Op.mapUpdate t m x v) (k e:TypeId) (ht:P.underlying t=some (.map k e)) {good:World→Value→Prop} (R:RawKey P k good) (b:Nat) (L:List (Value×Value)) (hm:a.eval m = .map (some b)) (h:RawMap w b L) (hgd:KeysGood good w L)
  (key val:Value) (hx:a.eval x=key) (hv:a.eval v=val) (hkey:good w key)
  (hK:∀ob,RawMap (w.putObj b ob) b (putV key val L)→wpList P ops Q rest (a.put o.dst undef) (w.putObj b ob)):wpList P ops Q (o :: rest) a w:=by
 refine wpList_plain hg fun K' hK'=>?_;obtain ⟨ob,hrun,hr⟩:=h.update R ht hgd hkey val;unfold Oper.wp;simp [execOp,hop,hm,hx,hv,hrun,Result.andThen];exact hK' _ _ (hK ob (hr _ (World.putObj_heap_same h.lt)))
theorem wpList_delete_raw (hg:o.guard=none) (m x:Operand) (t k e:TypeId) (hop:o.op=Op.call {callee:=Callee.builtin Builtin.delete,args:=#[m,x],argTypes:=#[t,k]}) (ht:P.underlying t=some (.map k e)) {good:World→Value→Prop} (R:RawKey P k good) (b:Nat) (L:List (Value×Value)) (hm:a.eval m = .map (some b)) (h:RawMap w b L) (hgd:KeysGood good w L)
  (key:Value) (hx:a.eval x=key) (hkey:good w key)
  (hK:∀ob,RawMap (w.putObj b ob) b (delV key L)→wpList P ops Q rest (a.put o.dst (.tuple #[])) (w.putObj b ob)):wpList P ops Q (o :: rest) a w:=by
 refine wpList_plain hg fun K' hK'=>?_;obtain ⟨ob,hrun,hr⟩:=h.delete R ht hgd hkey o.type #[t,k] rfl;unfold Oper.wp;simp [execOp,hop,resolve,invoke,builtin,hm,hx,hrun,Result.andThen];exact hK' _ _ (hK ob (hr _ (World.putObj_heap_same h.lt)))
theorem wpList_range_raw (hg:o.guard=none) (m:Operand) (t:TypeId) (hop:o.op=Op.range t m) (k e:TypeId) (ht:P.underlying t=some (.map k e)) (b:Nat) (L:List (Value×Value)) (hm:a.eval m = .map (some b)) (h:RawMap w b L)
  (hK:∀ob,RawRange (w.alloc ob) b w.heap.size L L→wpList P ops Q rest (a.put o.dst (.pointer (some ⟨w.heap.size,0,none⟩))) (w.alloc ob)):wpList P ops Q (o :: rest) a w:=by
 refine wpList_plain hg fun K' hK'=>?_;obtain ⟨ob,hrun,hr⟩:=h.range (P:=P) ht;unfold Oper.wp;simp [execOp,hop,hm,hrun,Result.andThen];exact hK' _ _ (hK ob hr)
end
end
section
namespace Fk
open Go.RowKit
theorem cell_blk {W:World} {b o:Nat} {cs:Array Value} {t:TypeId} {fr:Nat×Nat} {v:Value} (h:W.heap[b]?=some (.cells cs t fr)) (hv:cs[o]?=some v):W.cell? ⟨b,o,none⟩=some v:=by simp [World.cell?,h,hv]
theorem frz_blk {W:World} {b o:Nat} {cs:Array Value} {t:TypeId} (h:W.heap[b]?=some (.cells cs t (0,0))):W.frozen? ⟨b,o,none⟩=false:=by simp [World.frozen?,h]
theorem getV_putV (k v:Value):∀(L:List (Value×Value)),getV k (putV k v L)=some v
 | []=>by simp [putV,getV]
 | p :: L=>by
  unfold putV;split
  ·simp [getV]
  rename_i hne
  unfold getV;rw [if_neg hne];exact getV_putV k v L
theorem mem_putV {k v:Value} {p:Value×Value}:∀{L:List (Value×Value)},p∈putV k v L→p=(k,v)∨p∈L
 | [],h=>by simp [putV] at h;exact .inl h
 | q :: L,h=>by
  unfold putV at h;split at h
  ·rcases List.mem_cons.1 h with h | h
   ·exact .inl h
   exact .inr (by simp [h])
  rcases List.mem_cons.1 h with h | h
  ·exact .inr (by simp [h])
  rcases mem_putV h with h | h
  ·exact .inl h
  exact .inr (by simp [h])
end Fk
end
end Go.Proofs.YtifcdjmcoibblaaGreatDoor
