/- RSum RVal Ctn -/
import Derived.Test.YtifcdjmcoibblaaGreatDoorFq21
import Derived.Test.YtifcdjmcoibblaaGreatDoorFq01
import Derived.Test.YtifcdjmcoibblaaGreatDoorFq17
import Derived.Lib.AppendStr
import Derived.BigQuiet
import Derived.Deep.QuietTactic
import Derived.Deep.DeepCutAuto
import Derived.Test.YtifcdjmcoibblaaGreatDoorFq11
set_option linter.unusedVariables false
set_option linter.unusedSimpArgs false
set_option linter.unusedSectionVars false
set_option maxRecDepth 100000
set_option maxHeartbeats 80000000
namespace Go.Proofs.YtifcdjmcoibblaaGreatDoor
section
open Go.RowKit
def OwnR (w:World) (base:Nat) (v:Value) (l:List Nat):Prop:=w.ownsRow base 5 1 v l.length (l.flatMap encB)
theorem OwnR.nil (w:World) (base:Nat):OwnR w base (.slice none 0 0) []:=World.ownsRow_nil _ _ _ _
theorem OwnR.kept {w w':World} {base:Nat} {v:Value} {l:List Nat} (h:OwnR w base v l) (hk:∀k,base≤k→k<w.heap.size→w'.heap[k]?=w.heap[k]?):OwnR w' base v l:=by
 obtain ⟨h1,h | ⟨g,cap,cur,rfl,h2,h3,h4⟩⟩:=h
 ·exact ⟨h1,.inl h⟩
 exact ⟨h1,.inr ⟨g,cap,cur,rfl,h2,(hk g h2 (gE h3).1).trans h3,h4⟩⟩
theorem OwnR.later {w w':World} {base:Nat} {v:Value} {l:List Nat} (h:OwnR w base v l) (hk:Below w.heap.size w w'):OwnR w' base v l:=h.kept fun k _ hl=>hk.block k hl
theorem OwnR.alloc {w:World} {base:Nat} {v:Value} {l:List Nat} (h:OwnR w base v l) (o:Obj):OwnR (w.alloc o) base v l:=h.later ((Below.refl _ _).alloc (Nat.le_refl _) o)
theorem OwnR.drew {w:World} {base:Nat} {v:Value} {l:List Nat} (h:OwnR w base v l):OwnR w.drew base v l:=h.kept fun k _ hl=>rfl
theorem OwnR.row {w:World} {base:Nat} {v:Value} {l:List Nat} (h:OwnR w base v l):∃ao cap,v = .slice ao l.length cap∧((ao=none→cap=0)∧l.length≤cap)∧RowK 1 encB w ao l:=rowK_of_owns encB_len (by decide) h
theorem step_bytes {w:World} {ops:Array Oper} {o:Oper} {a:Act} {K:Act→World→Prop} {Q:Exit→Act→World→Prop} {F:Prop} (hw:Region.wanted o (yielded ops a.tmps)=true) (s x:Operand)
  (ho:o.op = .call {callee:=.builtin .append,args:=#[s,x],argTypes:=#[135,135]})
  (base:Nat) (v:Value) (l:List Nat) (hs:a.eval s=v) (h:OwnR w base v l) (g2 m c2:Nat) (l2:List Nat) (hm:l2.length=m) (hx:a.eval x = .slice (some ⟨g2,0,none⟩) m c2) (hc:∀j u,(l2.flatMap encB)[j]?=some u→w.cell? ((⟨g2,0,none⟩:Addr).add j)=some u) (hl:l.length+m≤1099511627776) (hb:base≤w.heap.size)
  (hK:∀v' w',OwnR w' base v' (l ++ l2)→Below base w w'→K (a.put o.dst v') w') :
  if Region.wanted o (yielded ops a.tmps)=true then Oper.wp Tryz.prog o a w K Q else F:=by
 rw [if_pos hw];obtain ⟨i,hi,hz0,hz1,hz2⟩:=info_parts Tryz.infoB;refine wp_append_own w s x 135 ho base 5 i (.int .u8 0) 1 1 Tryz.underlying135 hi hz0 hz1 hz2 rfl (by decide) v l.length (l.flatMap encB) hs h ⟨g2,0,none⟩ m c2 (l2.flatMap encB) hx (by rw [flat_length encB_len,hm]) hc (flat_one encB_one l2) (by unfold maxLen;omega) (by omega) hb (fun v' w' h1 h2 _=>hK v' w' ?_ ?_)
 ·unfold OwnR;rw [List.length_append,List.flatMap_append,hm];exact h1
 refine ⟨h2.os,h2.tape,h2.output,h2.size,fun k hk=>h2.block k (by omega) (fun e=>?_)⟩;obtain ⟨_,⟨q,_⟩ | ⟨g,cap,cur,rfl,q2,_⟩⟩:=h
 ·rw [q] at e;simp [Value.ownBlock] at e
 simp [Value.ownBlock] at e;omega
theorem eight_byte (x:Wd) (k:Nat):IntKind.wrap .u8 (((x >>> k).toNat:Nat):Int)=(((x >>> k).toNat % 256:Nat):Int):=by
 rw [IntKind.wrap_u8];omega
theorem shift_byte (x:Wd) (k:Nat):IntKind.wrap .u8 (((x.toNat:Nat):Int) / 2 ^ k)=(((x >>> k).toNat % 256:Nat):Int):=by
 rw [shrW,eight_byte]
theorem rsum_any (s:ByteArray) (w:World) (hs:s.size≤1000000) :
  Calls Tryz.prog 79 #[.string s] w fun e w'=>e = .returned (.string (strB (shaW (bytesN s))))∧Below w.heap.size w w':=by
 have EX:=Hd (fun W=>extended_any s W hs);obtain ⟨bs,hbs⟩:∃bs,bytesN s ++ padW s.size=bs:=⟨_,rfl⟩;have hmod:bs.length % 64=0:=by rw [←hbs,List.length_append,bytesN_len];exact pad_len s.size
 have hbl:bs.length≤1000200:=by
  rw [←hbs,List.length_append,bytesN_len];unfold padW;simp;omega
 obtain ⟨m,hm⟩:∃m,bs.length=64 * m:=⟨bs.length / 64,by omega⟩;have HM:=Hd hm;have hml:m≤20000:=by omega
 have HLT:=Hd (show ∀n∈bs,n<256 from fun n' h1=>by
  rw [←hbs] at h1;rcases List.mem_append.1 h1 with h2 | h2
  ·exact bytesN_lt s n' h2
  exact pad_lt s.size n' h2)
 have SH:=Hd (show (chunksW h0W m bs).flatMap wordBytes=shaW (bytesN s) from by
  unfold shaW;simp only [bytesN_len,hbs,hm];rw [Nat.mul_div_cancel_left _ (by decide)])
 rw [hbs] at EX;clear hmod hm hbs hbl;go_enter Tryz.func79,Tryz.ntmps79
 go_upto_region 2 with (fail)
 obtain ⟨W1,hW1⟩:∃W1,w.alloc (.cells #[.int .u32 1779033703,.int .u32 3144134277,.int .u32 1013904242,.int .u32 2773480762,.int .u32 1359893119,.int .u32 2600822924,.int .u32 528734635,.int .u32 1541459225] 170)=W1:=⟨_,rfl⟩;rw [hW1];have H1:=Hd (show RowK 1 encW W1 (some ⟨w.heap.size,0,none⟩) h0W from by rw [←hW1];exact rowW_new w h0W);have L1:=Hd (show Below w.heap.size w W1 from by rw [←hW1];exact (Below.refl _ _).alloc (Nat.le_refl _) _);clear hW1;go_wp2_with (first
  | (go_at_call 135;refine (EX.out _).mono ?_;rintro e w2 ⟨⟨v,rfl,hov⟩,hb2⟩;have OV:=Hd hov;have H2:=Hd (H1.out.later hb2);have L2:=Hd (L1.out.trans (hb2.mono L1.out.size));have LB:=Hd (Nat.le_trans L1.out.size hb2.size);clear hov hb2))
 have OF:=Hd OV.out.row;obtain ⟨bg,bcap,hv,hbg,hbc,hbm,hbr⟩:=OF.out;rw [HM.out] at hv hbc;subst hv;have BR:=Hd hbr;unfold maxLen at hbm;clear OF OV hbr hbg H1 L1 EX;go_loopw [3,5] (fun v i wr=>∃(k:Nat) (g o cap:Nat),k≤m∧i = .int .i64 ((64 * k:Nat):Int)∧v = .slice (some ⟨g,o,none⟩) 8 cap∧8≤cap∧RowK 1 encW wr (some ⟨g,o,none⟩) (chunksW h0W k bs)∧Below w2.heap.size w2 wr) (fun _ i _=>64 * m - (intOf i).toNat)
 case atStart=>exact ⟨0,w.heap.size,0,8,by omega,rfl,rfl,by omega,H2.out,Below.refl _ _⟩
 case round=>
  obtain ⟨k,g,o,cap,hk,rfl,rfl,hcap,hr,hbl⟩:=hrel;have HR:=Hd hr;have HBL:=Hd hbl;clear hr hbl;by_cases hlt:k<m
  ·have NX:=Hd (chunksW_snoc k h0W bs);have hcl:((bs.drop (64 * k)).take 64).length=64:=by rw [List.length_take,List.length_drop,HM.out];omega
   have BL:=Hd (block_any (chunksW h0W k bs) (some ⟨g,o,none⟩) cap (some ⟨bg,64 * k,none⟩) (bcap - 64 * k) ((bs.drop (64 * k)).take 64) wr (chunksW_len _ _ _ rfl) HR.out ⟨(fun h=>by cases h),hcap⟩ hcl
    (fun n' hn'=>HLT.out n' (List.mem_of_mem_drop (List.mem_of_mem_take hn'))) ((BR.out.later HBL.out).cut k))
   rw [←NX.out] at BL;obtain ⟨j,hj⟩:∃j,64 * k=j:=⟨_,rfl⟩;rw [hj] at BL ⊢;have j0:(0:Int)≤(j:Int):=by omega
   have j1:(j:Int)<64 * (m:Int):=by omega
   have c0:j+64≤bcap:=by omega
   have tn:((j:Int)+64).toNat - j=64:=by omega
   have JE:=Hd (show (j:Int)+64=((64 * (k+1):Nat):Int)∧64 * m - (j+64)<64 * m - j∧k+1≤m from ⟨by omega,by omega,by omega⟩);clear hj hcl NX hlt;go_wp2_with (first
    | (go_at_call 136;go_loud (refine BL.out.mono ?_);rintro e w3 ⟨ao,cap3,rfl,hc3,hr3,hb3⟩;have R3:=Hd hr3;have B3:=Hd hb3;have C3:=Hd hc3;clear hr3 hb3 hc3))
   have c8:=chunksW_len (k+1) h0W bs rfl;obtain ⟨g3,o3,rfl,_,_⟩:=R3.out.word (i:=0) (by rw [c8];omega);rw [c8] at C3 ⊢;exact ⟨⟨k+1,g3,o3,cap3,JE.out.2.2,by rw [JE.out.1],rfl,C3.out.2,R3.out,HBL.out.trans (B3.out.mono HBL.out.size)⟩,by simp [intOf];omega⟩
  obtain rfl:k=m:=by omega
  have kk:¬((64 * k:Nat):Int)<64 * (k:Int):=by omega
  obtain ⟨hs8,hhs⟩:∃x,chunksW h0W k bs=x:=⟨_,rfl⟩;have H8:=Hd (show hs8.length=8 from by rw [←hhs];exact chunksW_len _ _ _ rfl);rw [hhs] at HR SH;have LW:=Hd (L2.out.trans (HBL.out.mono L2.out.size));obtain ⟨wo,rfl⟩:∃wo:World,wo=wr:=⟨_,rfl⟩;clear hlt hk hhs BR HBL H2;go_wp2_with fail
  go_loopw [6,7] (fun v i wr=>∃q:Nat,q≤8∧i = .int .i64 (q:Int)∧OwnR wr wo.heap.size v ((hs8.take q).flatMap wordBytes)∧Below wo.heap.size wo wr) (fun _ i _=>8 - (intOf i).toNat)
  case atStart=>exact ⟨0,by omega,rfl,OwnR.nil _ _,Below.refl _ _⟩
  case round=>
   obtain ⟨q,hq,rfl,ho,hbl⟩:=hrel;have HO:=Hd ho;have HBQ:=Hd hbl;have SL:=Hd (show ((hs8.take q).flatMap wordBytes).length=4 * q from by rw [flat_four,List.length_take,H8.out];omega);obtain ⟨vo,vc3,hv,hvc,hvr⟩:=ho.row;rw [SL.out] at hv;subst hv;clear ho hbl hvc;have q0:(0:Int)≤(q:Int):=by omega
   by_cases hlt:q<8
   ·have q1:(q:Int)<8:=by omega
    obtain ⟨gg,oo,e,hgw,ch⟩:=(HR.out.later HBQ.out).word (i:=q) (by rw [H8.out];exact hlt);cases e;have NX:=Hd (show (hs8.take (q+1)).flatMap wordBytes=(hs8.take q).flatMap wordBytes ++ wordBytes (hs8.getD q 0) from by
     rw [List.take_succ_eq_append_getElem (by rw [H8.out];exact hlt),List.flatMap_append,List.getD_eq_getElem?_getD,List.getElem?_eq_getElem (by rw [H8.out];exact hlt)];simp)
    obtain ⟨x,hx⟩:∃x,hs8.getD q 0=x:=⟨_,rfl⟩;rw [hx] at ch NX;have HX:=Hd hx;have e24:=shift_byte x 24;have e16:=shift_byte x 16;have e8:=shift_byte x 8;rw [show (2:Int) ^ 24=16777216 from rfl] at e24;rw [show (2:Int) ^ 16=65536 from rfl] at e16;rw [show (2:Int) ^ 8=256 from rfl] at e8;have e0:=eight_byte x 0;rw [show x >>> 0=x from by simp] at e0;have WB:=Hd (show wordBytes x = [(x >>> 24).toNat % 256,(x >>> 16).toNat % 256,(x >>> 8).toNat % 256,x.toNat % 256] from rfl);generalize (x >>> 24).toNat % 256=b3 at e24 WB;generalize (x >>> 16).toNat % 256=b2 at e16 WB;generalize (x >>> 8).toNat % 256=b1 at e8 WB;generalize x.toNat % 256=b0 at e0 WB;have HOD:=Hd ((HO.out.alloc (.cells #[.int .u8 (b3:Int),.int .u8 (b2:Int),.int .u8 (b1:Int),.int .u8 (b0:Int)] 5)).drew);have HBD:=Hd ((HBQ.out.alloc HBQ.out.size (.cells #[.int .u8 (b3:Int),.int .u8 (b2:Int),.int .u8 (b1:Int),.int .u8 (b0:Int)] 5)).drew);have NEW:=Hd (show ∀j u,(([b3,b2,b1,b0]:List Nat).flatMap encB)[j]?=some u→((wr.alloc (.cells #[.int .u8 (b3:Int),.int .u8 (b2:Int),.int .u8 (b1:Int),.int .u8 (b0:Int)] 5)).drew).cell? ((⟨wr.heap.size,0,none⟩:Addr).add j)=some u from fun j u h=>cell_drew (cells_at wr (([b3,b2,b1,b0]:List Nat).flatMap encB) _ _ rfl j u h));have BW0:=Hd (show ∀n,Below wr.heap.size wr (wr.drewN n) from fun n=>⟨rfl,rfl,rfl,Nat.le_refl _,fun _ _=>rfl⟩);have BW1:=Hd (show ∀n A,Below wr.heap.size wr ((wr.drewN n).alloc A) from fun n A=>(BW0.out n).alloc (Nat.le_refl _) A);have SB:=Hd (show ∀w',Below wr.heap.size wr w'→w'.cell? ⟨g,o+q,none⟩=some (.int .u32 ((x.toNat:Nat):Int)) from fun w' h=>by rw [h.cell (p:=⟨g,o+q,none⟩) hgw];exact ch);have SB2:=Hd (show ∀w',Below wo.heap.size wo w'→w'.cell? ⟨g,o+q,none⟩=some (.int .u32 ((x.toNat:Nat):Int)) from fun w' h=>by
     obtain ⟨gg,oo,e,_,ch'⟩:=(HR.out.later h).word (i:=q) (by rw [H8.out];exact hlt);cases e;rw [HX.out] at ch';exact ch')
    have q48:4 * q≤32:=by omega
    clear hx hlt hvr;go_wp2_with fail
    go_region_held3 (fun w'=>w'.cell? ⟨g,o+q,none⟩=some (.int .u32 ((x.toNat:Nat):Int)))
     (first | (exact R4.out) | (exact SB.out _ (BW0.out nq).drew) | (exact SB.out _ (BW0.out _)) | (exact SB.out _ (BW1.out _ _)))
     (first
      | (go_loud (refine step_bytes (by rfl) (.tmp 28) (.tmp 52) (by rfl) wo.heap.size (.slice vo (4 * q) vc3) ((hs8.take q).flatMap wordBytes) ?_ ?_ wr.heap.size 4 4 [b3,b2,b1,b0] rfl ?_ ?_ ?_ ?_ ?_;(simp [Act.eval]);(with_reducible exact HOD.out);(simp [Act.eval]);(with_reducible exact NEW.out);(rw [SL.out];omega);(have:=HBD.out.size;omega);intro v3 w4 hown hbel;have R4:=Hd (SB2.out w4 (HBD.out.trans hbel));rw [←WB.out,←NX.out] at hown;have O3:=Hd hown;have B3:=Hd (HBD.out.trans hbel);clear hown hbel)))
    go_wp2_with fail
    exact ⟨⟨q+1,by omega,by go_num,O3.out,B3.out⟩,by simp [intOf];omega⟩
   obtain rfl:q=8:=by omega
   have q8:¬((8:Nat):Int)<8:=by omega
   have cv:=conv_row (4 * 8) vc3 SL.out (by omega) hvr;rw [List.take_of_length_le (by rw [H8.out];exact Nat.le_refl _),SH.out] at cv;have LWR:=Hd (LW.out.trans (HBQ.out.mono LW.out.size));clear hlt hq HO hvr;go_wp2_with fail
   go_ret;exact ⟨rfl,LWR.out⟩
end
section
open Go.RowKit
theorem zigzag_any (n:Nat) (w:World) (hn:n<64):Calls Tryz.prog 181 #[.int .i64 (n:Int)] w fun e w'=>e = .returned (.int .u64 ((2 * n:Nat):Int))∧w=w':=by
 have n0:(0:Int)≤(n:Int):=by omega
 have n1:(n:Int)<64:=by omega
 have nn:¬(n:Int)<0:=by omega
 go_enter Tryz.func181,Tryz.ntmps181
 go_wp2
 go_ret;exact ⟨by show Ending.returned (Value.int .u64 ((n:Int) * 2))=_;congr 2;omega,rfl⟩
theorem rputint_any (n:Nat) (w:World) (hn:n<64) :
  Calls Tryz.prog 134 #[.int .i64 (n:Int)] w fun e w'=>e = .returned (.tuple #[.string (chrB (2 * n)),.int .i64 0])∧Below w.heap.size w w':=by
 have n0:(0:Int)≤(n:Int):=by omega
 have n1:(n:Int)<64:=by omega
 have g1:¬(n:Int) < -4611686018427387903:=by omega
 have g2:¬(4611686018427387903:Int)<(n:Int):=by omega
 have ZZ:=Hd (fun W=>zigzag_any n W hn);obtain ⟨z,hz⟩:∃z,2 * n=z:=⟨_,rfl⟩;have z0:(0:Int)≤(z:Int):=by omega
 have z1:(z:Int)<128:=by omega
 have zn:¬(128:Int)≤(z:Int):=by omega
 have zw:IntKind.u8.wrap (z:Int)=(z:Int):=by rw [IntKind.wrap_u8];omega
 rw [hz] at ZZ ⊢;clear hz;go_enter Tryz.func134,Tryz.ntmps134
 go_wp2_with (first
  | (go_at_call 181;refine (ZZ.out _).mono ?_;rintro e w' ⟨rfl,rfl⟩))
 refine wp_loop_rounds 1 ?_;rw [rounds_succ];go_wp2_with (first
  | (at_builtin;go_loud (refine wpList_append_byteN rfl (.tmp 25) (.tmp 28) rfl w.heap.size (.slice none 0 0) [] rfl (.inl ⟨rfl,rfl⟩) w.heap.size 1 z rfl (cell_box _ _ _ _ _ rfl _ rfl) (by simp) (by simp) ?_;intro v2 W2 hown hbel;have O2:=Hd hown;have B2:=Hd (((Below.refl w.heap.size w).alloc (Nat.le_refl _) (.cells #[.int .u8 (z:Int)] 5)).trans hbel);obtain ⟨g,cap,rfl,_,_,_,hr⟩:=hown.row;have cv:=conv_row 1 cap rfl (by omega) hr;clear hown hbel hr)))
 go_ret2
 exact ⟨rfl,B2.out⟩
theorem rids_any (ao:Option Addr) (n cap:Nat) (l:List ByteArray) (w:World) (hl:l.length=n) (hn:n≤60) (hrow:RowK 1 encT w ao l) :
  Calls Tryz.prog 133 #[.slice ao n cap] w fun e w'=>e = .returned (.bool (ascS l))∧Below w.heap.size w w':=by
 have HL:=Hd hl;have HR:=Hd hrow;clear hl hrow;have n4:(n:Int)≤4000:=by omega
 go_enter Tryz.func133,Tryz.ntmps133
 go_wp2
 go_loopw [3] (fun i wr=>Below w.heap.size w wr∧∃k:Nat,k≤n∧i = .int .i64 (k:Int)∧∀j,j<k→okAt l j=true) (fun i _=>n - (intOf i).toNat)
 case atStart=>exact ⟨Below.refl _ _,0,by omega,rfl,fun j hj=>by omega⟩
 case round=>
  obtain ⟨hbw,k,hk,rfl,hall⟩:=hrel;have HB:=Hd hbw;have HBN:=Hd (show ∀q,Below w.heap.size w (wr.drewN q) from fun q=>⟨hbw.os,hbw.tape,hbw.output,hbw.size,hbw.block⟩);have HA:=Hd hall;clear hall hbw;have k0:(0:Int)≤(k:Int):=by omega
  by_cases hlt:k<n
  ·have k1:(k:Int)<(n:Int):=by omega
   have hkl:k<l.length:=by rw [HL.out];exact hlt
   obtain ⟨b,off,rfl,_,hc⟩:=(HR.out.later HB.out).str hkl;obtain ⟨s,hs⟩:∃s,l[k]=s:=⟨_,rfl⟩;have HS:=Hd (show l.getD k ByteArray.empty=s from by rw [List.getD_eq_getElem?_getD,List.getElem?_eq_getElem hkl,←hs];rfl);rw [hs] at hc;clear hs;by_cases hz:s.size=32
   ·by_cases hk0:k=0
    ·have OK:=Hd (show ∀j,j<k+1→okAt l j=true from fun j hj=>by
      rcases Nat.lt_or_ge j k with q | q
      ·exact HA.out j q
      have:j=k:=by omega
      subst this;unfold okAt;rw [HS.out,hz,hk0];simp)
     subst hk0;rw [Nat.add_zero] at hc;have hz2:((s.size:Int) == 32)=true:=by rw [hz];rfl
     clear hkl;go_wp2
     go_quiet (fail)
     go_wp2
     go_roundw
     case rel=>exact ⟨HBN.out _,1,by omega,rfl,fun j hj=>OK.out j (by omega)⟩
     case measure=>simp [intOf];omega
    have hk1:(0:Int)<(k:Int):=by omega
    obtain ⟨b',off',e,_,hc2⟩:=(HR.out.later HB.out).str (i:=k - 1) (by rw [HL.out];omega);cases e;obtain ⟨p,hp⟩:∃s,l[k - 1]'(by rw [HL.out];omega)=s:=⟨_,rfl⟩;have HP:=Hd (show l.getD (k - 1) ByteArray.empty=p from by rw [List.getD_eq_getElem?_getD,List.getElem?_eq_getElem (by omega),←hp];rfl);rw [hp] at hc2;have t1:((k:Int) - 1).toNat=k - 1:=by omega
    have q0:(0:Int)≤(k:Int) - 1:=by omega
    have q1:(k:Int) - 1<(n:Int):=by omega
    have g1:(1:Int)≤(k:Int):=by omega
    have w1:IntKind.i64.wrap ((k:Int) - 1)=(k:Int) - 1:=by rw [IntKind.wrap_i64];omega
    have HK0:=Hd hk0;have HZ:=Hd hz;have hz2:((s.size:Int) == 32)=true:=by rw [hz];rfl
    have d0:decide ((0:Int)<(k:Int))=true:=by simpa using hk1
    have kp:0<k:=by omega
    have d1:decide (0<k)=true:=by simpa using kp
    rcases hle:leS s p with _ | _
    ·have OK:=Hd (show ∀j,j<k+1→okAt l j=true from fun j hj=>by
      rcases Nat.lt_or_ge j k with q | q
      ·exact HA.out j q
      have:j=k:=by omega
      subst this;unfold okAt;rw [HS.out,HP.out,hz,hle];simp)
     have hle2:(Op.bytesLess s.toList p.toList || s.toList == p.toList)=false:=hle;clear hp hkl hk0 hle;go_wp2
     go_quiet (fail)
     go_wp2
     go_roundw
     case rel=>exact ⟨HBN.out _,k+1,by omega,by go_num,OK.out⟩
     case measure=>simp [intOf];omega
    have NO:=Hd (show ascS l=false from ascS_no (j:=k) (by omega) (by unfold okAt;rw [HS.out,HP.out,hle];simp [hk0]));have hle2:(Op.bytesLess s.toList p.toList || s.toList == p.toList)=true:=hle;clear hp hkl hk0 hle;go_wp2
    go_quiet (fail)
    go_wp2
    go_ret;exact ⟨by rw [NO.out];rfl,HBN.out _⟩
   have NO:=Hd (show ascS l=false from ascS_no (j:=k) hkl (by unfold okAt;rw [HS.out];simp [hz]));have hz2:((s.size:Int) == 32)=false:=by simp;omega
   have hz3:¬(s.size:Int)=32:=by omega
   have hz4:((s.size:Int) != 32)=true:=by simp [bne,hz2]
   clear hkl;go_wp2
   go_quiet (fail)
   go_wp2
   go_ret;exact ⟨by rw [NO.out];rfl,HBN.out _⟩
  have k1:¬(k:Int)<(n:Int):=by omega
  have YES:=Hd (show ascS l=true from ascS_of (fun j hj=>HA.out j (by have:=HL.out;omega)));go_wp2
  go_ret;exact ⟨by rw [YES.out];rfl,HB.out⟩
theorem store_run (g:Nat) (fz:Nat×Nat):∀(vs:List Value) (o i:Nat) (cur:Array Value) (w:World),w.heap[g]?=some (.cells cur 5 fz)→(∀j,j<cur.size→¬(fz.1≤j∧j<fz.2))→o+i+vs.length≤cur.size→(∀v∈vs,v.oneCell'=true) →
  ∃w',(storeCells ⟨g,o,none⟩ vs i).run Tryz.prog w = .ok () w'∧(∃cur',w'.heap[g]?=some (.cells cur' 5 fz)∧cur'.size=cur.size∧cur'.toList.take (o+i+vs.length)=cur.toList.take (o+i) ++ vs)∧(∀k,k≠g→w'.heap[k]?=w.heap[k]?)∧w'.heap.size=w.heap.size∧w'.os=w.os∧w'.tape=w.tape∧w'.output=w.output
 | [],o,i,cur,w,hg,_,_,_=>⟨w,rfl,⟨cur,hg,rfl,by simp⟩,fun k _=>rfl,rfl,rfl,rfl,rfl⟩
 | v :: r,o,i,cur,w,hg,hf,hl,h1=>by
  simp only [List.length_cons] at hl;have hi:o+i<cur.size:=by omega
  have hcell:w.cell? ⟨g,o+i,none⟩=some cur[o+i]:=by simp [World.cell?,hg,hi]
  have hfro:w.frozen? ⟨g,o+i,none⟩=false:=by
   have:=hf (o+i) hi;obtain ⟨lo,hi'⟩:=fz;simp only [World.frozen?,hg,Bool.and_eq_false_iff,decide_eq_false_iff_not];simp only at this;omega
  have hadd:(⟨g,o,none⟩:Addr).add i=⟨g,o+i,none⟩:=by unfold Addr.add;split <;> simp_all
  have hst:(store ((⟨g,o,none⟩:Addr).add i) v).run Tryz.prog w = .ok () (w.setRow g (cur.setIfInBounds (o+i) v)):=by
   rw [hadd,run_store Tryz.prog w _ v _ (h1 v (by simp)),hcell];simp [hfro,setCell_eq_setRow w g (o+i) cur 5 fz v hg]
  obtain ⟨w',e1,⟨cur',c1,c2,c3⟩,e2,e3,e4,e5,e6⟩:=store_run g fz r o (i+1) (cur.setIfInBounds (o+i) v) (w.setRow g (cur.setIfInBounds (o+i) v)) (setRow_heap w g cur _ _ fz hg) (fun j hj=>hf j (by simpa using hj)) (by simp;omega) (fun x hx=>h1 x (by simp [hx]));refine ⟨w',by simp only [storeCells,Sem.run_bind,hst,Result.andThen_ok,e1],⟨cur',c1,by simpa using c2,?_⟩,fun k hk=>(e2 k hk).trans (setRow_other w g k _ hk),by simpa using e3,e4,e5,e6⟩;have q:o+i+(v :: r).length=o+(i+1)+r.length:=by simp;omega
  rw [q,c3,Array.toList_setIfInBounds];have q2:o+(i+1)=o+i+1:=by omega
  rw [q2,List.take_succ_eq_append_getElem (by simp;omega),List.take_set_of_le (by omega)];simp
theorem strCells_bytes (s:ByteArray):Lib.strCells s=(bytesN s).map eB:=by
 unfold Lib.strCells bytesN;rw [List.map_map];rfl
theorem run_append_strB (w:World) (ty:TypeId) (base:Nat) (v:Value) (l:List Nat) (h:OwnB w base v l) (s:ByteArray) (hl:l.length+s.size≤1099511627776) (hb:base≤w.heap.size) :
  ∃v' w',(Builtin.append_ #[135,9] ty #[v,.string s]).run Tryz.prog w = .ok v' w'∧OwnB w' base v' (l ++ bytesN s)∧Below base w w':=by
 obtain ⟨i,hi,hz,hs,hby⟩:=info_parts Tryz.infoB;obtain ⟨g,cap,cur,fz,rfl,hbg,hg,hfz,hn,hm,hcs,ht⟩:=h;have hcl:(Lib.strCells s).length=s.size:=by rw [strCells_bytes,List.length_map,bytesN_len]
 have hone:∀u∈Lib.strCells s,u.oneCell'=true:=by
  rw [strCells_bytes];intro u hu;obtain ⟨x,_,rfl⟩:=List.mem_map.1 hu;exact oneB x
 by_cases hroom:l.length+s.size≤cap
 ·have hf:=Lib.run_firstCells_string (P:=Tryz.prog) w 1 s;obtain ⟨w',e1,⟨cur',c1,c2,c3⟩,e2,e3,e4,e5,e6⟩:=store_run g fz (Lib.strCells s) l.length 0 cur w hg (fun j hj=>hfz j (by omega)) (by rw [hcl];omega) hone;rw [Nat.add_zero,hcl,ht] at c3;have hadd:(⟨g,0,none⟩:Addr).add (l.length * 1)=⟨g,l.length,none⟩:=by unfold Addr.add;split <;> simp_all
  refine ⟨.slice (some ⟨g,0,none⟩) (l.length+s.size) cap,w',?_,⟨g,cap,cur',fz,by rw [List.length_append,bytesN_len],hbg,c1,hfz,by rw [List.length_append,bytesN_len];exact hroom,hm,by omega,?_⟩,⟨e4,e5,e6,by omega,fun k hk=>e2 k (by omega)⟩⟩
  ·simp [Builtin.append_,run_underlying Tryz.underlying135,run_underlying Tryz.underlying9,sizeOf,typeInfo,hi,hs,Builtin.lenOf,hroom,hf,add_off,e1]
  rw [List.length_append,bytesN_len,c3,strCells_bytes,List.map_append]
 have holds:∀j u,(l.map eB)[j]?=some u→w.cell? ((⟨g,0,none⟩:Addr).add j)=some u:=fun j u hu=>by
  rw [add_off,cell_of_row w g j cur _ _ hg];rw [←ht] at hu;have hj:=(List.getElem?_eq_some_iff.1 hu).1;rw [List.length_take] at hj;rw [List.getElem?_take_of_lt (by omega)] at hu;simpa using hu
 have hbytes:(l.length+s.size) * i.bytes≤140737488355328:=by rw [hby];omega
 have hr:=Lib.run_append_grow_string (P:=Tryz.prog) w 135 9 ty 5 i (.int .u8 0) Tryz.underlying135 Tryz.underlying9 hi hz ⟨g,0,none⟩ l.length cap (l.map eB) (by rw [hs];simp) holds s (by omega) (by omega) (growslice_fits (by omega) hbytes);have hge:=grownCap_ge w (l.length+s.size) cap 5;have hcm2:grownCap w (l.length+s.size) cap 5≤maxLen:=grownCap_le_maxLen w (l.length+s.size) cap 5 (by unfold maxLen;omega);refine ⟨_,_,hr,⟨w.heap.size,_,_,(0,0),by rw [List.length_append,bytesN_len],hb,heap_alloc_new w.drew _,(fun j _=>by simp),by rw [List.length_append,bytesN_len];exact hge,hcm2,?_,?_⟩,((Below.refl base w).drew).alloc hb _⟩
 ·have hz1:(Value.int IntKind.u8 0).cells.size=1:=rfl;simp only [Array.size_append,List.size_toArray,size_zeroCells,hz1,List.length_map,hcl];omega
 rw [List.length_append,List.map_append,bytesN_len];simp only [Array.toList_append,List.append_assoc,strCells_bytes];rw [←List.append_assoc];exact List.take_left' (by simp [bytesN_len])
theorem wpList_append_strB {w:World} {ops:Array Oper} {rest:List Oper} {o:Oper} {a:Act} {Q:Exit→Act→World→Prop} (hgd:o.guard=none) (x y:Operand)
  (ho:o.op = .call {callee:=.builtin .append,args:=#[x,y],argTypes:=#[135,9]})
  (base:Nat) (v:Value) (l:List Nat) (hs:a.eval x=v) (h:OwnB w base v l) (s:ByteArray) (hx:a.eval y = .string s) (hl:l.length+s.size≤1099511627776) (hb:base≤w.heap.size)
  (hK:∀v' w',OwnB w' base v' (l ++ bytesN s)→Below base w w'→wpList Tryz.prog ops Q rest (a.put o.dst v') w'):wpList Tryz.prog ops Q (o :: rest) a w:=by
 refine wpList_plain hgd fun K hK'=>?_;obtain ⟨v',w',hr,h2,h3⟩:=run_append_strB w o.type base v l h s hl hb;unfold Oper.wp execOp;simp only [ho,resolve,invoke,builtin,Sem.run_bind,Sem.run_pure,Result.andThen_ok,List.map_toArray,List.map_cons,List.map_nil,hs,hx,hr];exact hK' _ _ (hK v' w' h2 h3)
theorem rvalue_any (ao:Option Addr) (n cap:Nat) (l:List ByteArray) (w:World) (hl:l.length=n) (hn:n≤60) (hrow:RowK 1 encT w ao l) (ha:ascS l=true) :
  Calls Tryz.prog 78 #[.slice ao n cap] w fun e w'=>e = .returned (.tuple #[.string (valS l),.int .i64 0])∧Below w.heap.size w w':=by
 have IDS:=Hd (rids_any ao n cap l w hl hn hrow);rw [ha] at IDS;have hsz:=asc_size ha;have HL:=Hd hl;have HR:=Hd hrow;have HSZ:=Hd hsz;clear ha hrow hl hsz;go_enter Tryz.func78,Tryz.ntmps78
 go_upto_region 5 with (first
  | (go_at_call 133;refine IDS.out.mono ?_;rintro e w1 ⟨rfl,hb1⟩;have B1:=Hd hb1;clear hb1)
  | (go_at_call 134;refine (rputint_any n _ (by omega)).mono ?_;rintro e w2 ⟨rfl,hb2⟩;have B2:=Hd (B1.out.trans (hb2.mono B1.out.size));clear hb2))
 have hcs:(chrB (2 * n)).size=1:=by simp [chrB,strB_size]
 have hcb:bytesN (chrB (2 * n)) = [2 * n]:=by
  unfold chrB;exact bytesN_strB (fun x hx=>by simp at hx;omega)
 have hcv:(convert 9 135 (.string (chrB (2 * n)))).run Tryz.prog w2 = .ok (.slice (some ⟨w2.heap.size,0,none⟩) (chrB (2 * n)).size (grownCap w2 (chrB (2 * n)).size 0 5)) (Lib.bytesWorld w2 5 (chrB (2 * n))):=
  Lib.run_convert_string_bytes w2 _ _ _ _ Tryz.underlying9 Tryz.underlying135 Tryz.underlying5
 have O1:=Hd (ownB_bytes w2 (chrB (2 * n)) (by rw [hcs];omega));have BB:=Hd (B2.out.trans ((bytes_below w2 (chrB (2 * n))).mono B2.out.size));have LB:=Hd (bytes_below w2 (chrB (2 * n))).size;rw [hcb] at O1;rw [hcs] at O1 hcv;generalize grownCap w2 1 0 5=cp at O1 hcv;generalize Lib.bytesWorld w2 5 (chrB (2 * n))=W3 at hcv O1 BB LB;clear hcs hcb;go_wp2_with fail
 have BASE:=Hd B2.out.size;obtain ⟨bs0,hbs0⟩:∃b,w2.heap.size=b:=⟨_,rfl⟩;rw [hbs0] at O1 LB BASE ⊢;clear hcv hbs0;go_loopw [7,8] (fun v i wr=>∃k:Nat,k≤n∧i = .int .i64 (k:Int)∧OwnB wr bs0 v ([2 * n] ++ (l.take k).flatMap bytesN)∧Below bs0 W3 wr) (fun _ i _=>n - (intOf i).toNat)
 case atStart=>exact ⟨0,by omega,rfl,by simpa using O1.out,Below.refl _ _⟩
 case round=>
  obtain ⟨k,hk,rfl,ho,hb⟩:=hrel;have OW:=Hd ho;have BW:=Hd hb;have k0:(0:Int)≤(k:Int):=by omega
  have BWW:=Hd (show Below w.heap.size w wr from BB.out.trans (hb.mono (by have:=BASE.out;omega)));obtain ⟨g,cap2,hv,hbg,hgl,hlc,hcm,_⟩:=ho.cell;have hlen:([2 * n] ++ (l.take k).flatMap bytesN).length=1+32 * k:=by
   rw [List.length_append];have:∀(x:List ByteArray),(∀s∈x,s.size=32)→(x.flatMap bytesN).length=32 * x.length:=by
    intro x;induction x with
    | nil=>intro _;rfl
    | cons y r ih=>intro hx;rw [List.flatMap_cons,List.length_append,bytesN_len,hx y (by simp),ih (fun s hs=>hx s (by simp [hs])),List.length_cons];omega
   rw [this _ (fun s hs=>HSZ.out s (List.mem_of_mem_take hs)),List.length_take,HL.out];simp;omega
  have HLEN:=Hd hlen;rw [hlen] at hv;subst hv;clear ho hb hlen hbg hgl hlc;unfold maxLen at hcm;by_cases hlt:k<n
  ·have k1:(k:Int)<(n:Int):=by omega
   have hkl:k<l.length:=by rw [HL.out];exact hlt
   obtain ⟨b,off,rfl,_,hc⟩:=(HR.out.later BWW.out).str hkl;have NX:=Hd (show [2 * n] ++ (l.take (k+1)).flatMap bytesN=([2 * n] ++ (l.take k).flatMap bytesN) ++ bytesN l[k] from by
    rw [List.take_succ_eq_append_getElem hkl,List.flatMap_append,List.append_assoc];simp)
   have S32:=Hd (HSZ.out l[k] (List.getElem_mem hkl));obtain ⟨s,hs⟩:∃s,l[k]=s:=⟨_,rfl⟩;rw [hs] at hc NX S32;clear hs hkl hlt;go_wp2_with (first
    | (at_builtin;go_loud (refine wpList_append_strB rfl (.tmp 27) (.tmp 31) rfl bs0 (.slice (some ⟨g,0,none⟩) (1+32 * k) cap2) ([2 * n] ++ (l.take k).flatMap bytesN) (by simp [Act.eval]) OW.out s rfl (by rw [HLEN.out,S32.out];omega) (by have:=BW.out.size;have:=LB.out;omega) ?_;intro v4 w4 hown hbel;rw [←NX.out] at hown;have O4:=Hd hown;have B4:=Hd (BW.out.trans hbel);clear hown hbel)))
   exact ⟨⟨k+1,by omega,by go_num,O4.out,B4.out⟩,by simp [intOf];omega⟩
  have k1:¬(k:Int)<(n:Int):=by omega
  obtain rfl:k=n:=by omega
  obtain ⟨g',cap',e,_,_,_,hr⟩:=OW.out.row;rw [HLEN.out] at e;cases e;have cv:=conv_row (1+32 * k) cap2 HLEN.out (by omega) hr;have VS:=Hd (show strB ([2 * k] ++ (l.take k).flatMap bytesN)=valS l from by
   rw [List.take_of_length_le (by rw [HL.out];exact Nat.le_refl _)];unfold valS;rw [HL.out];rfl)
  rw [VS.out] at cv;clear hr hlt hk;go_wp2_with fail
  go_ret2
  exact ⟨rfl,BWW.out⟩
def digS (l:List ByteArray):ByteArray:=strB (shaW (bytesN (valS l)))
theorem valS_size {l:List ByteArray} (h:ascS l=true) (hn:l.length≤60):(valS l).size≤6001:=by
 unfold valS;rw [strB_size,List.length_cons,flat_len2];have:=flat_size l (fun s hs=>by rw [asc_size h s hs];omega);omega
theorem rdigest_any (ao:Option Addr) (n cap:Nat) (l:List ByteArray) (w:World) (hl:l.length=n) (hn:n≤60) (hrow:RowK 1 encT w ao l) (ha:ascS l=true) :
  Calls Tryz.prog 26 #[.slice ao n cap] w fun e w'=>e = .returned (.string (digS l))∧Below w.heap.size w w':=by
 have RV:=Hd (rvalue_any ao n cap l w hl hn hrow ha);have VZ:=Hd (valS_size ha (by omega));clear hl hrow ha;go_enter Tryz.func26,Tryz.ntmps26
 go_wp2_with (first
  | (go_at_call 78;refine RV.out.mono ?_;rintro e w1 ⟨rfl,hb1⟩;have B1:=Hd hb1;clear hb1)
  | (go_at_call 79;refine (rsum_any (valS l) _ (by have:=VZ.out;omega)).mono ?_;rintro e w2 ⟨rfl,hb2⟩;have B2:=Hd (B1.out.trans (hb2.mono B1.out.size));clear hb2))
 go_ret;exact ⟨rfl,B2.out⟩
end
section
open Go.RowKit
def badB (s:ByteArray):Bool:=decide (s.size<1) || decide (4000<s.size)
def badV:Value:=.func (.func 70) #[] #[]
theorem bad_any (s:ByteArray) (w:World):Calls Tryz.prog 70 #[.string s] w fun e w'=>e = .returned (.bool (badB s))∧w'=w:=by
 by_cases h:(s.size:Int)<1
 ·have HE:=Hd (show badB s=true from by unfold badB;rw [Bool.or_eq_true];exact .inl (decide_eq_true (by omega)));go_enter Tryz.func70,Tryz.ntmps70
  go_wp2
  go_ret;rw [HE.out];exact ⟨rfl,rfl⟩
 have HE:=Hd (show badB s=decide ((4000:Int)<(s.size:Int)) from by
  unfold badB;have:¬s.size<1:=by omega
  rw [decide_eq_false this,Bool.false_or,decide_eq_decide];omega)
 go_enter Tryz.func70,Tryz.ntmps70
 go_wp2
 go_ret;rw [HE.out];exact ⟨rfl,rfl⟩
theorem any_take {l:List ByteArray} {k:Nat} (hk:k<l.length) {f:ByteArray→Bool}:(l.take (k+1)).any f=((l.take k).any f || f l[k]):=by
 rw [List.take_succ_eq_append_getElem hk,List.any_append];simp
theorem indexBad_any (ao:Option Addr) (n cap:Nat) (l:List ByteArray) (w:World) (hl:l.length=n) (hn:n≤1000) (hrow:RowK 1 encT w ao l) :
  Calls Tryz.prog 128 #[.slice ao n cap,badV] w fun e w'=>(∃k:Int,e = .returned (.int .i64 k)∧(decide (0≤k))=l.any badB)∧w'=w:=by
 have eg:∀args w,(callFunc 70 args).run Tryz.prog w = .ok (.enter 70 args) w:=enters_of Tryz.func70 (by kernel_rfl) rfl;have HL:=Hd hl;have HR:=Hd hrow;have BA:=Hd bad_any;clear hl hrow;unfold badV;go_enter Tryz.func128,Tryz.ntmps128
 go_wp2
 go_loopw [8] (fun i wr=>wr=w∧∃k:Nat,k≤n∧i = .int .i64 (k:Int)∧(l.take k).any badB=false) (fun i _=>n - (intOf i).toNat)
 case atStart=>exact ⟨rfl,0,by omega,rfl,by simp⟩
 case round=>
  obtain ⟨rfl,k,hk,rfl,hall⟩:=hrel;have HA:=Hd hall;clear hall;have k0:(0:Int)≤(k:Int):=by omega
  by_cases hlt:k<n
  ·have k1:(k:Int)<(n:Int):=by omega
   have hkl:k<l.length:=by rw [HL.out];exact hlt
   obtain ⟨b,off,rfl,_,hc⟩:=HR.out.str hkl;have HS:=Hd (any_take (f:=badB) hkl);have HI:=Hd (show l[k]∈l from List.getElem_mem hkl);obtain ⟨s,hs⟩:∃s,l[k]=s:=⟨_,rfl⟩;rw [hs] at hc HS HI;clear hs hkl;have B1:=Hd (bad_any s wr);rcases hb:badB s with _ | _
   ·rw [hb] at B1 HS;clear hb;go_wp2_with (refine B1.out.mono ?_;rintro _ _ ⟨rfl,rfl⟩)
    go_roundw
    case rel=>exact ⟨trivial,k+1,by omega,by go_num,by rw [HS.out,HA.out];rfl⟩
    case measure=>simp [intOf];omega
   rw [hb] at B1;have HB:=Hd hb;clear hb;go_wp2_with (refine B1.out.mono ?_;rintro _ _ ⟨rfl,rfl⟩)
   go_ret;refine ⟨⟨k,rfl,?_⟩,rfl⟩;rw [decide_eq_true k0];exact (List.any_eq_true.2 ⟨s,HI.out,HB.out⟩).symm
  have hkn:k=n:=by omega
  subst hkn;go_wp2
  go_ret;refine ⟨⟨-1,rfl,?_⟩,rfl⟩;have:=HA.out;rw [List.take_of_length_le (by rw [HL.out];exact Nat.le_refl _)] at this;rw [this];rfl
theorem containsBad_any (ao:Option Addr) (n cap:Nat) (l:List ByteArray) (w:World) (hl:l.length=n) (hn:n≤1000) (hrow:RowK 1 encT w ao l) :
  Calls Tryz.prog 69 #[.slice ao n cap,badV] w fun e w'=>e = .returned (.bool (l.any badB))∧w'=w:=by
 have I:=Hd (indexBad_any ao n cap l w hl hn hrow);clear hl hrow;unfold badV at *;go_enter Tryz.func69,Tryz.ntmps69
 go_wp2_with fail
 refine I.out.mono ?_;rintro e w' ⟨⟨k,rfl,hk⟩,rfl⟩;have HK:=Hd hk;clear hk;go_wp2
 go_ret;rw [←HK.out];exact ⟨rfl,rfl⟩
end
end Go.Proofs.YtifcdjmcoibblaaGreatDoor
