/- RExt RngO BoxR Put -/
import Derived.Test.YtifcdjmcoibblaaGreatDoorLq13
import Derived.Test.YtifcdjmcoibblaaGreatDoorLq01
import Derived.Test.YtifcdjmcoibblaaGreatDoorLq06
set_option linter.unusedVariables false
set_option linter.unusedSimpArgs false
set_option linter.unusedSectionVars false
set_option maxRecDepth 100000
set_option maxHeartbeats 80000000
namespace Go.Proofs.YtifcdjmcoibblaaGreatDoor
section
open Go.RowKit
theorem encB_len (x:Nat):(encB x).length=1:=rfl
theorem encB_one (x:Nat):∀u∈encB x,u.oneCell'=true:=by intro u hu;simp [encB] at hu;subst hu;rfl
theorem conv_row {w:World} {ao:Option Addr} {l:List Nat} (n cap:Nat) (hn:l.length=n) (hp:0<n) (h:RowK 1 encB w ao l):(convert 135 9 (.slice ao n cap)).run Tryz.prog w = .ok (.string (strB l)) w:=by
 obtain ⟨g,off,rfl,_,_⟩:=h.byte (i:=0) (by omega);have:=run_convert_bytes_arg (P:=Tryz.prog) w 135 5 Tryz.underlying135 Tryz.underlying5 g off n cap (l.map fun (n:Nat)=>(n:Int)) (by rw [List.length_map];exact hn) (fun i hi=>by
  obtain ⟨g',o',e,_,hc⟩:=h.byte (i:=i) (by omega);cases e;rw [hc,List.getD_eq_getElem?_getD,List.getD_eq_getElem?_getD,List.getElem?_map,List.getElem?_eq_getElem (by omega)];rfl) 9 Tryz.underlying9
 rwa [strOfNums_cast] at this
def OwnN (w:World) (base:Nat) (v:Value) (l:List Nat):Prop:=(v = .slice none 0 0∧l = [])∨OwnB w base v l
theorem OwnN.kept {w w':World} {base:Nat} {v:Value} {l:List Nat} (h:OwnN w base v l) (hk:∀k,base≤k→k<w.heap.size→w'.heap[k]?=w.heap[k]?):OwnN w' base v l:=h.imp id (fun h=>h.kept hk)
theorem OwnN.later {w w':World} {base:Nat} {v:Value} {l:List Nat} (h:OwnN w base v l) (hk:Below w.heap.size w w'):OwnN w' base v l:=h.imp id (fun h=>h.later hk)
theorem OwnN.alloc {w:World} {base:Nat} {v:Value} {l:List Nat} (h:OwnN w base v l) (o:Obj):OwnN (w.alloc o) base v l:=h.later ((Below.refl _ _).alloc (Nat.le_refl _) o)
theorem OwnN.form {w:World} {base:Nat} {v:Value} {l:List Nat} (h:OwnN w base v l):∃ao cap,v = .slice ao l.length cap∧((ao=none→cap=0)∧l.length≤cap)∧RowK 1 encB w ao l∧cap≤maxLen:=by
 rcases h with ⟨rfl,rfl⟩ | h
 ·exact ⟨none,0,rfl,⟨fun _=>rfl,Nat.le_refl _⟩,RowK.nil _ _ _ _,Nat.zero_le _⟩
 obtain ⟨g,cap,hv,_,h1,h2,h3⟩:=h.row;exact ⟨_,cap,hv,⟨(fun h=>by cases h),h1⟩,h3,h2⟩
theorem run_append_byteN (w:World) (ty:TypeId) (base:Nat) (v:Value) (l:List Nat) (h:OwnN w base v l) (g2 c2 b:Nat) (hc:w.cell? ⟨g2,0,none⟩=some (eB b)) (hl:l.length≤1099511627776) (hb:base≤w.heap.size) :
  ∃v' w',(Builtin.append_ #[135,135] ty #[v,.slice (some ⟨g2,0,none⟩) 1 c2]).run Tryz.prog w = .ok v' w'∧OwnB w' base v' (l ++ [b])∧Below base w w':=by
 rcases h with ⟨rfl,rfl⟩ | h
 ·obtain ⟨i,hi,hz,hs,hby⟩:=info_parts Tryz.infoB;have hnews:∀j u,([eB b]:List Value)[j]?=some u→w.cell? ((⟨g2,0,none⟩:Addr).add j)=some u:=fun j u hu=>by
   rcases j with _ | j
   ·simp at hu;subst hu;rw [add_off];exact hc
   simp at hu
  have hr:=run_append_nil (P:=Tryz.prog) w 135 ty 5 i (.int .u8 0) Tryz.underlying135 hi hz ⟨g2,0,none⟩ 1 c2 [eB b] (by rw [hs];rfl) hnews (by omega) (by omega) (by rw [hby];omega);have hge:=grownCap_ge w 1 0 5;refine ⟨_,_,hr,⟨w.heap.size,_,_,(0,0),rfl,hb,heap_alloc_new w.drew _,(fun j _=>by simp),hge,grownCap_le_maxLen w 1 0 5 (by unfold maxLen;omega),?_,?_⟩,((Below.refl base w).drew).alloc hb _⟩
  ·have hz1:(Value.int IntKind.u8 0).cells.size=1:=rfl;simp only [Array.size_append,List.size_toArray,size_zeroCells,hz1,List.length_cons,List.length_nil];omega
  simp only [Array.toList_append,List.nil_append,List.length_cons,List.length_nil];exact List.take_left' rfl
 exact run_append_byte w ty base v l h g2 c2 b hc hl hb
theorem wpList_append_byteN {w:World} {ops:Array Oper} {rest:List Oper} {o:Oper} {a:Act} {Q:Exit→Act→World→Prop} (hgd:o.guard=none) (s x:Operand)
  (ho:o.op = .call {callee:=.builtin .append,args:=#[s,x],argTypes:=#[135,135]})
  (base:Nat) (v:Value) (l:List Nat) (hs:a.eval s=v) (h:OwnN w base v l) (g2 c2 b:Nat) (hx:a.eval x = .slice (some ⟨g2,0,none⟩) 1 c2) (hc:w.cell? ⟨g2,0,none⟩=some (eB b)) (hl:l.length≤1099511627776) (hb:base≤w.heap.size)
  (hK:∀v' w',OwnB w' base v' (l ++ [b])→Below base w w'→wpList Tryz.prog ops Q rest (a.put o.dst v') w'):wpList Tryz.prog ops Q (o :: rest) a w:=by
 refine wpList_plain hgd fun K hK'=>?_;obtain ⟨v',w',hr,h2,h3⟩:=run_append_byteN w o.type base v l h g2 c2 b hc hl hb;unfold Oper.wp execOp;simp only [ho,resolve,invoke,builtin,Sem.run_bind,Sem.run_pure,Result.andThen_ok,List.map_toArray,List.map_cons,List.map_nil,hs,hx,hr];exact hK' _ _ (hK v' w' h2 h3)
theorem extended_any (s:ByteArray) (w:World) (hs:s.size≤1000000) :
  Calls Tryz.prog 135 #[.string s] w fun e w'=>(∃v,e = .returned v∧OwnB w' w.heap.size v (bytesN s ++ padW s.size))∧Below w.heap.size w w':=by
 go_enter Tryz.func135,Tryz.ntmps135
 go_wp2_with fail
 go_loopw [3,4] (fun v i wr=>∃j:Nat,j≤s.size∧i = .int .i64 (j:Int)∧OwnN wr w.heap.size v ((bytesN s).take j)∧Below w.heap.size w wr) (fun _ i _=>s.size - (intOf i).toNat)
 case atStart=>exact ⟨0,by omega,rfl,.inl ⟨rfl,rfl⟩,Below.refl _ _⟩
 case round=>
  obtain ⟨j,hj,rfl,ho,hb⟩:=hrel;have BW:=Hd hb;have OW:=Hd ho;obtain ⟨ao,cap,hv,hcap,_,hcm⟩:=ho.form;have hln:((bytesN s).take j).length=j:=by rw [List.length_take,bytesN_len];omega
  rw [hln] at hv hcap;subst hv;obtain ⟨hc0,hc1⟩:=hcap;have HC:=Hd hc0;unfold maxLen at hcm;have HLN:=Hd hln;clear hb ho hln hc0;have j0:(0:Int)≤(j:Int):=by omega
  by_cases hlt:j<s.size
  ·have NX:=Hd (show (bytesN s).take (j+1)=(bytesN s).take j ++ [s[j].toNat] from by
    rw [List.take_succ_eq_append_getElem (by rw [bytesN_len];exact hlt)];congr 2
    unfold bytesN;rw [List.getElem_map];rfl)
   go_wp2_with (first
    | (at_builtin;go_loud (refine wpList_append_byteN rfl (.tmp 12) (.tmp 16) rfl w.heap.size (.slice ao j cap) ((bytesN s).take j) rfl (OW.out.alloc _) wr.heap.size 1 s[j].toNat rfl (cell_box _ _ _ _ _ rfl _ rfl) (by rw [HLN.out];omega) (by have:=BW.out.size;simp;omega) ?_;intro v3 W3 hown hbel;rw [←NX.out] at hown;have O3:=Hd hown;have B3:=Hd ((BW.out.alloc BW.out.size _).trans hbel);clear hown hbel)))
   exact ⟨⟨j+1,by omega,by go_num,.inr O3.out,B3.out⟩,by simp [intOf];omega⟩
  have hjs:j=s.size:=by omega
  have hw0:=OW.out;rw [hjs,List.take_of_length_le (by rw [bytesN_len];exact Nat.le_refl _)] at hw0;have hjn:¬(j:Int)<(s.size:Int):=by omega
  have HJS:=Hd hjs;rw [←hjs] at hw0;have O0:=Hd hw0;obtain ⟨wo,hwo⟩:∃wo:World,wo=wr:=⟨_,rfl⟩;subst hwo;clear hjs hw0 hlt OW;go_wp2_with (first
   | (at_builtin;go_loud (refine wpList_append_byteN rfl (.tmp 18) (.tmp 19) rfl w.heap.size (.slice ao j cap) (bytesN s) rfl (O0.out.alloc _) wo.heap.size 1 128 rfl (cell_box _ _ _ _ _ rfl _ rfl) (by rw [bytesN_len];omega) (by have:=BW.out.size;simp;omega) ?_;intro v2 W2 hown hbel;have O2:=Hd hown;have B2:=Hd ((BW.out.alloc BW.out.size _).trans hbel);clear hown hbel)))
  obtain ⟨J,hJ⟩:∃J,(119 - s.size % 64) % 64=J:=⟨_,rfl⟩;have hJ1:J<64:=by omega
  have HJ:=Hd hJ;clear hJ O0 BW;go_loopw [3] (fun v wr=>∃j:Nat,j≤J∧OwnB wr w.heap.size v (bytesN s ++ 128 :: List.replicate j 0)∧Below w.heap.size w wr) (fun v _=>s.size+1+J - lenV v)
  case atStart=>exact ⟨0,by omega,O2.out,B2.out⟩
  case round=>
   obtain ⟨q,hq,ho,hb⟩:=hrel;have BW:=Hd hb;have OW:=Hd ho;have OC:=Hd ho.cell;obtain ⟨g,cap2,hv,hbg,hgl,hlc,hcm2,_⟩:=OC.out;have hln:(bytesN s ++ 128 :: List.replicate q 0).length=s.size+1+q:=by simp [bytesN_len];omega
   rw [hln] at hv hlc;subst hv;clear hb ho OC;unfold maxLen at hcm2;obtain ⟨n,hn⟩:∃n,s.size+1+q=n:=⟨_,rfl⟩;rw [hn] at OW hlc ⊢;have hn1:n≤1000100:=by omega
   have HN:=Hd hn;have HLN2:=Hd hln;have n0:(0:Int)≤(n:Int):=by omega
   have LT:=Hd hbg;by_cases hlt:q<J
   ·have t1:¬(n:Int) % 64=56:=by have:=HJ.out;omega
    have t2:((n:Int) % 64 == 56)=false:=by simpa using t1
    clear hn hln hbg;go_wp2_with (first
     | (at_builtin;go_loud (refine wpList_append_byteN rfl (.tmp 25) (.tmp 26) rfl w.heap.size (.slice (some ⟨g,0,none⟩) n cap2) (bytesN s ++ 128 :: List.replicate q 0) rfl (.inr (OW.out.alloc _)) wr.heap.size 1 0 rfl (cell_box _ _ _ _ _ rfl _ rfl) (by rw [HLN2.out];omega) (by have:=BW.out.size;simp;omega) ?_;intro v3 W3 hown hbel;have O3:=Hd hown;have B3:=Hd ((BW.out.alloc BW.out.size _).trans hbel);clear hown hbel)))
    have hl3:lenV v3=n+1:=by
     obtain ⟨g3,c3,h3,_⟩:=O3.out.cell;rw [h3];show (_:List Nat).length=_;rw [List.length_append,HLN2.out,HN.out];rfl
    refine ⟨⟨q+1,hlt,?_,B3.out⟩,?_⟩
    ·rw [repl_succ];exact O3.out
    rw [hl3,HN.out.symm];show s.size+1+J - (s.size+1+q+1)<s.size+1+J - (s.size+1+q);omega
   have hqJ:q=J:=by omega
   have t1:(n:Int) % 64=56:=by have:=HJ.out;omega
   rw [hqJ] at OW;obtain ⟨pre,hpre⟩:∃p,bytesN s ++ 128 :: List.replicate J 0=p:=⟨_,rfl⟩;rw [hpre] at OW;have PRE:=Hd (show pre.length=n∧pre ++ lenW s.size 8=bytesN s ++ padW s.size from ⟨by rw [←hpre,←hqJ,HLN2.out,HN.out],by rw [←hpre,pad_eq,HJ.out];simp⟩);obtain ⟨wp,hwp⟩:∃wp:World,wp=wr:=⟨_,rfl⟩;subst hwp;clear hn hln hbg hqJ hlt hq HLN2 hpre O2 B2;go_wp2_with fail
   have T1:=Hd t1;clear t1;go_loopw [3,5] (fun v i wr=>∃k:Nat,k≤8∧i = .int .i64 (7 - (k:Int))∧OwnB wr w.heap.size v (pre ++ lenW s.size k)∧Below w.heap.size w wr) (fun _ i _=>(intOf i+1).toNat)
   case atStart=>exact ⟨0,by omega,rfl,by simpa [lenW] using OW.out,BW.out⟩
   case round=>
    obtain ⟨k,hk,rfl,ho,hb⟩:=hrel;have BX:=Hd hb;have OX:=Hd ho;have OC:=Hd ho.cell;obtain ⟨g2,cap3,hv,hbg,hgl2,hlc2,hcm3,_⟩:=OC.out;have hln:(pre ++ lenW s.size k).length=n+k:=by rw [List.length_append,PRE.out.1,lenW_len]
    rw [hln] at hv hlc2;subst hv;clear hb ho OC;unfold maxLen at hcm3;have HLN3:=Hd hln;have LT2:=Hd hbg;by_cases hlt:k<8
    ·obtain ⟨m,hm⟩:∃m,8 * (7 - k)=m:=⟨_,rfl⟩;have LS:=Hd (lenW_succ s.size k);rw [hm] at LS;have e1:(8:Int) * (7 - (k:Int))=(m:Int):=by omega
     have nn:¬(m:Int)<0:=by omega
     have m0:(0:Int)≤(m:Int):=by omega
     have m1:(m:Int)≤64:=by omega
     have k0:(0:Int)≤7 - (k:Int):=by omega
     have k7:7 - (k:Int)≤7:=by omega
     clear hm hln hbg hlt;have BY:=Hd (show (#[Value.int .u8 (8 * (s.size:Int) / 2 ^ m % 256)]:Array Value)[0]?=some (eB ((8 * s.size / 2 ^ m) % 256)) from by
      show some (Value.int .u8 _)=some (Value.int .u8 _);congr 2)
     go_wp2_with (first
      | (at_builtin;go_loud (refine wpList_append_byteN rfl (.tmp 32) (.tmp 40) rfl w.heap.size (.slice (some ⟨g2,0,none⟩) (n+k) cap3) (pre ++ lenW s.size k) rfl (.inr (OX.out.alloc _)) wr.heap.size 1 ((8 * s.size / 2 ^ m) % 256) rfl (cell_box _ _ _ _ _ BY.out _ rfl) (by rw [HLN3.out];omega) (by have:=BX.out.size;simp;omega) ?_;intro v3 W3 hown hbel;rw [List.append_assoc,←LS.out] at hown;have O3:=Hd hown;have B3:=Hd ((BX.out.alloc BX.out.size _).trans hbel);clear hown hbel)))
     refine ⟨⟨k+1,by omega,by go_num,O3.out,B3.out⟩,by simp [intOf];omega⟩
    have hk8:k=8:=by omega
    have hox:=OX.out;rw [hk8,PRE.out.2] at hox;rw [←hk8] at hox;have OY:=Hd hox;have kn:¬(0:Int)≤7 - (k:Int):=by omega
    clear hox hk8 hln hbg hlt hk OX;go_wp2_with fail
    go_ret;exact ⟨⟨_,rfl,OY.out⟩,BX.out⟩
end
section
open Go.RowKit
def SeqOwn {α:Type} (n:Nat) (P:Program) (g:Nat) (lb:Array Value) (encs:α→Array Value) (ok:List α→α→Prop) (X:Nat→Prop) (S:List α→Prop) (w:World):Prop:=
 ∀(l:Nat) (J:List α→(Nat→Prop)→World→Prop) (O:Nat→Prop) (W:World),Below w.heap.size w W→(∀k,O k→k<w.heap.size∧¬X k) →
  (∀s O A B C,J s O A→Chg C A B→(∀k,C k→W.heap.size≤k∧¬O k)→J s O B) →
  (∀pre x O1 W1,ok pre x→J pre O1 W1→YieldAt Fence.wide (n - 1) P l (encs x) W1 fun e W'=>
   e = .returned (.bool true)∧∃O2,J (pre ++ [x]) O2 W'∧Chg O1 W1 W'∧∀k,O2 k→O1 k∨W1.heap.size≤k) →
  J [] O W →
  CallsIn Fence.wide n P g (#[.func (.yield l) #[] #[]] ++ lb) W fun e W'=>(∃v,e = .returned v)∧∃xs O',S xs∧J xs O' W'
theorem wpIn_range_own {α:Type} {n:Nat} {P:Program} {g:Operand} {ps:Array Tmp} {assign body:Code} {Q:Exit→Act→World→Prop} {a:Act} {w:World}
  {gf:Nat} {lb:Array Value} (hg:a.eval g = .func (.func gf) #[] lb) (eg:∀args w,(callFunc gf args).run P w = .ok (.enter gf args) w)
  {encs:α→Array Value} {ok:List α→α→Prop} {X:Nat→Prop} {S:List α→Prop} (hseq:SeqOwn (n - 1) P gf lb encs ok X S w) (hps:∀x,(encs x).size=ps.size)
  (I:List α→(Nat→Prop)→World→Prop) (O0:Nat→Prop) (hO0:∀k,O0 k→k<w.heap.size∧¬X k)
  (hI:∀s O A B C,I s O A→Chg C A B→(∀k,C k→w.heap.size≤k∧¬O k)→I s O B) (h0:I [] O0 w)
  (M:List α→α→Act→(Nat→Prop)→World→Prop) (hM:∀s x a' O A B C,M s x a' O A→Chg C A B→(∀k,C k→w.heap.size≤k∧¬O k)→M s x a' O B)
  (hassign:∀(l:Nat) (pre:List α) (x:α) (O:Nat→Prop) (W:World) (K:Act→World→Prop),ok pre x→I pre O W→(∀a' O' W',M pre x a' O' W'→Chg O W W'→(∀k,O' k→O k∨W.heap.size≤k)→K a' W') →
   assign.wpIn (Fence.wide.inRound l) (n - 1 - 1) P (Exit.then K (fun _ _ _=>False)) {tmps:=(ps.zip (encs x)).foldl (fun t (p,v)=>t.setIfInBounds p v) a.tmps,defers:=[]} W)
  (hbody:∀(l:Nat) (pre:List α) (x:α) (a':Act) (O:Nat→Prop) (W:World),ok pre x→M pre x a' O W→body.wpIn (Fence.wide.inRound l) (n - 1 - 1) P (roundEnd I (pre ++ [x]) O W) a' W)
  (hdone:∀(D:Nat) (xs:List α) (O:Nat→Prop) (W:World),w.heap.size≤D→¬O D→S xs→I xs O W→W.heap[D]?=some (.deferred (some []))→Q .normal {a with defers:={target:=.collected D,args:=#[]} :: a.defers} W) :
  (Code.rangeFunc g ps assign body).wpIn Fence.wide n P Q a w:=by
 refine wpIn_rangeFunc ?_;intro fn hfn;rw [show Fence.wide.round=none from rfl];obtain ⟨rc,hrc⟩:∃rc:LoopState→Loop,rc=fun st=>{state:=st,pending:=none,fn,tmps:=a.tmps,params:=ps,assign,body,defers:=w.heap.size}:=⟨_,rfl⟩;obtain ⟨V,hV⟩:∃V,(w.alloc (.deferred (some []))).alloc (.loop (rc .ready))=V:=⟨_,rfl⟩;have hVs:V.heap.size=w.heap.size+2:=by rw [←hV];simp
 have hVl:V.heap[w.heap.size+1]?=some (.loop (rc .ready)):=by
  rw [←hV];have:=World.alloc_heap_new (w.alloc (.deferred (some []))) (.loop (rc .ready));rwa [World.size_alloc] at this
 have hVd:V.heap[w.heap.size]?=some (.deferred (some [])):=by
  rw [←hV,Below.heap_alloc _ _ _ (by simp)];exact World.alloc_heap_new w _
 have hcV:Chg (fun _=>False) w V:=by rw [←hV];exact (Chg.alloc _ _ _).trans (Chg.alloc _ _ _)
 have hIV:I [] O0 V:=hI _ _ _ _ _ h0 hcV (fun k h=>h.elim);refine ⟨w.heap.size+1,[{target:=.collected w.heap.size,args:=#[]}],V,{target:=.fn (.func gf) lb,args:=#[.func (.yield (w.heap.size+1)) #[] #[]]},V,gf,
  #[.func (.yield (w.heap.size+1)) #[] #[]] ++ lb,V,?_,?_,fun _ _=>trivial,?_,fun h=>by simp [Fence.wide] at h,?_⟩
 ·rw [←hV,hrc];exact run_enterLoop_outer _ _ _ _ _
 ·simp only [resolve,hg];simp [go_sem]
 ·simp [invoke,go_sem,eg]
 refine (hseq (w.heap.size+1)
  (fun pre O W=>I pre O W∧W.heap[w.heap.size+1]?=some (.loop (rc .ready))∧W.heap[w.heap.size]?=some (.deferred (some []))∧¬O (w.heap.size+1)∧¬O w.heap.size)
  O0 V (hcV.below (Nat.le_refl _) (fun k h=>h.elim)) hO0 ?_ ?_ ⟨hIV,hVl,hVd,fun h=>by have:=(hO0 _ h).1;omega,fun h=>by have:=(hO0 _ h).1;omega⟩).mono ?_
 ·rintro s O A B C ⟨h1,h2,h3,h4,h5⟩ hc hC;refine ⟨hI _ _ _ _ _ h1 hc (fun k hk=>⟨by have:=(hC k hk).1;omega,(hC k hk).2⟩),?_,?_,h4,h5⟩
  ·rw [hc.block _ (gE h2).1 (fun h=>by have:=(hC _ h).1;omega)];exact h2
  rw [hc.block _ (gE h3).1 (fun h=>by have:=(hC _ h).1;omega)];exact h3
 ·rintro pre x O W hok ⟨hi,hl,hd,nl,nd⟩;have hlt:w.heap.size+1<W.heap.size:=(gE hl).1;have hy:=run_yield (P:=P) (args:=encs x) hl (by rw [hrc];exact hps x);rw [hrc] at hy;refine ⟨fn,_,assign,body,hy,roundIn_of_wpIn hfn (hassign _ pre x O W _ hok hi ?_)⟩;intro a' Oa Wa hm hca hoa;have hla:Wa.heap[w.heap.size+1]?=some (.loop (rc .ready)):=by rw [hca.block _ hlt nl];exact hl
  have hda:Wa.heap[w.heap.size]?=some (.deferred (some [])):=by rw [hca.block _ (by omega) nd];exact hd
  have hlta:=(gE hla).1;have nla:¬Oa (w.heap.size+1):=fun h=>by rcases hoa _ h with h | h;exact nl h;omega
  have nda:¬Oa w.heap.size:=fun h=>by rcases hoa _ h with h | h;exact nd h;omega
  refine ⟨_,run_beginRound hla (by rw [hrc]),?_⟩;obtain ⟨V2,hV2⟩:∃V2,Wa.putObj (w.heap.size+1) (.loop {rc .ready with state:=.busy})=V2:=⟨_,rfl⟩;have hl2:V2.heap[w.heap.size+1]?=some (.loop (rc .busy)):=by rw [←hV2,World.putObj_heap_same hlta,hrc]
  have hd2:V2.heap[w.heap.size]?=some (.deferred (some [])):=by rw [←hV2,World.putObj_heap_other (by omega)];exact hda
  have hc2:Chg (fun k=>k=w.heap.size+1) Wa V2:=by rw [←hV2];exact Chg.put _ _ _ rfl
  have hs2:V2.heap.size=Wa.heap.size:=by rw [←hV2];simp
  rw [hV2];have hm2:=hM _ _ _ _ _ _ _ hm hc2 (fun k hk=>by subst hk;exact ⟨by omega,nla⟩);refine wpIn_mono (hbody _ pre x a' Oa V2 hok hm2) ?_;rintro e a3 W3 hp;have hsa:=hca.size;cases e with
  | normal=>
   obtain ⟨O',hi3,hc3,ho3⟩:=hp;have hl3:W3.heap[w.heap.size+1]?=some (.loop (rc .busy)):=by rw [hc3.block _ (by omega) nla];exact hl2
   have hd3:W3.heap[w.heap.size]?=some (.deferred (some [])):=by rw [hc3.block _ (by omega) nda];exact hd2
   have hlt3:=(gE hl3).1;have nl':¬O' (w.heap.size+1):=fun h=>by rcases ho3 _ h with h | h;exact nla h;omega
   have nd':¬O' w.heap.size:=fun h=>by rcases ho3 _ h with h | h;exact nda h;omega
   have her:({rc .busy with state:=if (none:Option Code).isNone then .ready else .done,pending:=none}:Loop)=rc .ready:=by rw [hrc];rfl
   have hre:=run_endRound (P:=P) none hl3;rw [her] at hre;refine ⟨_,_,hre,rfl,O',⟨hI _ _ _ _ (fun k=>k=w.heap.size+1) hi3 (Chg.put _ _ _ rfl) (fun k hk=>by subst hk;exact ⟨by omega,nl'⟩),World.putObj_heap_same hlt3,by rw [World.putObj_heap_other (by omega)];exact hd3,nl',nd'⟩,?_,fun k hk=>?_⟩
   ·refine ⟨hc3.os.trans (hc2.os.trans hca.os),hc3.tape.trans (hc2.tape.trans hca.tape),hc3.output.trans (hc2.output.trans hca.output),by rw [World.putObj_size];have:=hc3.size;omega,fun k hk hn=>?_⟩;by_cases e:k=w.heap.size+1
    ·subst e;rw [World.putObj_heap_same hlt3];exact hl.symm
    rw [World.putObj_heap_other e,hc3.block k (by omega) (fun h=>by rcases hoa k h with h | h;exact hn h;omega),hc2.block k (by omega) e,hca.block k hk hn]
   ·rcases ho3 k hk with h | h
    ·exact hoa k h
    ·exact .inr (by omega)
  | ret=>exact hp.elim
  | exit id=>exact hp.elim
  | goto t=>exact hp.elim
  | panic ch=>exact hp.elim
  | outgrown=>exact hp.elim
 rintro e W2 ⟨⟨v,rfl⟩,xs,O',hS,hi,hl,hd,nl,nd⟩;have hre:=run_endLoop (P:=P) hl (by rw [hrc];simp);rw [show (rc .ready).pending=none by rw [hrc]] at hre;refine ⟨none,_,hre,hdone _ xs O' _ (Nat.le_refl _) nd hS (hI _ _ _ _ (fun k=>k=w.heap.size+1) hi (Chg.put _ _ _ rfl) (fun k hk=>by subst hk;exact ⟨by omega,nl⟩)) ?_⟩;rw [World.putObj_heap_other (by omega)];exact hd
end
section
open Go.RowKit
theorem ownsRow_blk {w w':World} {base e size n:Nat} {v:Value} {xs:List Value} (h:w.ownsRow base e size v n xs) (hb:∀g,v.ownBlock=some g→g<w.heap.size→w'.heap[g]?=w.heap[g]?):w'.ownsRow base e size v n xs:=by
 obtain ⟨h1,h | ⟨g,cap,cur,rfl,h2,h3,h4⟩⟩:=h
 ·exact ⟨h1,.inl h⟩
 exact ⟨h1,.inr ⟨g,cap,cur,rfl,h2,(hb g rfl (gE h3).1).trans h3,h4⟩⟩
theorem Boxed.blk {w w':World} {B t:Nat} {v:Value} (h:Boxed w B t v) (hb:w'.heap[B]?=w.heap[B]?):Boxed w' B t v:=hb.trans h
theorem owns_ltK {w:World} {base e size n:Nat} {v:Value} {xs:List Value} (h:w.ownsRow base e size v n xs) (g:Nat) (hg:v.ownBlock=some g):base≤g∧g<w.heap.size:=by
 obtain ⟨h1,h | ⟨g',cap,cur,rfl,h2,h3,h4⟩⟩:=h
 ·rw [h.1] at hg;simp [Value.ownBlock] at hg
 simp [Value.ownBlock] at hg;subst hg;exact ⟨h2,(gE h3).1⟩
structure BoxRow (w W:World) (B t e size n:Nat) (v:Value) (xs:List Value) (O:Nat→Prop):Prop where
 own:∀k,O k↔k=B∨v.ownBlock=some k
 box:Boxed W B t v
 row:W.ownsRow w.heap.size e size v n xs
 bel:Below w.heap.size w W
 bas:w.heap.size≤B
theorem BoxRow.chg {w A A':World} {B t e size n:Nat} {v:Value} {xs:List Value} {O C:Nat→Prop} (h:BoxRow w A B t e size n v xs O) (hc:Chg C A A') (hC:∀k,C k→w.heap.size≤k∧¬O k):BoxRow w A' B t e size n v xs O:=
 ⟨h.own,Boxed.blk h.box (hc.block B h.box.lt (fun c=>(hC B c).2 ((h.own B).2 (.inl rfl)))),ownsRow_blk h.row (fun g hg hl=>hc.block g hl (fun c=>(hC g c).2 ((h.own g).2 (.inr hg)))),
  h.bel.trans (hc.below h.bel.size (fun k hk=>(hC k hk).1)),h.bas⟩
theorem BoxRow.appended {w W w1:World} {B t e size n m:Nat} {v v':Value} {xs ys:List Value} {tmp:Obj} {O:Nat→Prop} (h:BoxRow w W B t e size n v xs O) (hte:t≠e)
  (hown':w1.ownsRow w.heap.size e size v' m ys) (hgrow:(W.alloc tmp).grownBy w1 v.ownBlock) (hloc:v'.ownBlock=v.ownBlock∨v'.ownBlock=some (W.alloc tmp).heap.size) :
  Boxed w1 B t v∧∃O',BoxRow w (w1.setCell ⟨B,0,none⟩ v') B t e size m v' ys O'∧Chg O W (w1.setCell ⟨B,0,none⟩ v')∧∀k,O' k→O k∨W.heap.size≤k:=by
 have hv1:Boxed w1 B t v:=(h.box.alloc tmp).kept hgrow (h.box.not_row hte h.row);have hB:B<W.heap.size:=h.box.lt;have hg:Chg O W w1:=(Chg.alloc O W tmp).trans (Chg.grown hgrow (fun k e=>.inl ((h.own k).2 (.inr e))));have hs:Chg O W (w1.setCell ⟨B,0,none⟩ v'):=hg.trans (Chg.grown (grownBy_setCell' w1 B v') (fun k e=>by cases e;exact .inl ((h.own B).2 (.inl rfl))));refine ⟨hv1,fun k=>k=B∨v'.ownBlock=some k,⟨fun k=>Iff.rfl,hv1.set v',hown'.kept (grownBy_setCell' w1 B v') (.inr (hv1.not_row hte hown').symm),?_,h.bas⟩,hs,fun k hk=>?_⟩
 ·refine h.bel.trans (hs.below h.bel.size (fun k hk=>?_));rcases (h.own k).1 hk with rfl | hk
  ·exact h.bas
  exact (owns_ltK h.row k hk).1
 rcases hk with rfl | hk
 ·exact .inl ((h.own k).2 (.inl rfl))
 rcases hloc with e | e
 ·exact .inl ((h.own k).2 (.inr (by rw [←e];exact hk)))
 rw [e] at hk;simp at hk;exact .inr (by omega)
end
section
open Go.RowKit
attribute [local go_sem] Oper.semAt_some
theorem groups_any (z:Int) (w:World) :
  Calls Tryz.prog 162 #[.int .u64 z] w fun e w'=>e = .returned (.func (.func 217) #[] #[.pointer (some ⟨w.heap.size,0,none⟩)])∧w'=w.alloc (.cells #[.int .u64 z] 209):=by
 go_enter Tryz.func162,Tryz.ntmps162
 go_wp2
 go_ret;exact ⟨rfl,rfl⟩
def encG (n:Nat):Array Value:=#[.int .u8 (n:Int),.bool true]
theorem and127 (z:Nat) (h:z<128):bits BinOp.and IntKind.u64 (z:Int) 127=(z:Int):=by
 have q:∀k:Fin 128,bits BinOp.and IntKind.u64 ((k.val:Nat):Int) 127=((k.val:Nat):Int):=by decide +kernel
 exact q ⟨z,h⟩
theorem groups_seq (n bx z:Nat) (w:World) (hz:z<128) (hb:w.cell? ⟨bx,0,none⟩=some (.int .u64 (z:Int))) :
  SeqAll n Tryz.prog 217 #[.pointer (some ⟨bx,0,none⟩)] encG (fun k=>k=bx) [z] w:=by
 intro lp J O W hW hO hJ hY h0;have hbc:W.cell? ⟨bx,0,none⟩=some (.int .u64 (z:Int)):=by rw [hW.cell (p:=⟨bx,0,none⟩) (World.block_lt_of_cell? _ _ hb)];exact hb
 obtain ⟨fn,tmps,assign,body,hy,hR⟩:=hY [] z [] O W rfl h0;dsimp only [encG] at hy;have HRD:=Hd hR;have ha:=and127 z hz;have z0:(0:Int)≤(z:Int):=by omega
 have z1:(z:Int)<128:=by omega
 have zw:IntKind.u8.wrap (z:Int)=(z:Int):=by rw [IntKind.wrap_u8];omega
 clear hY h0 hJ hO hW hb hR;refine callsIn_of_wp Tryz.func217 rfl trivial ?_ rfl;simp only [Tryz.ntmps217,List.size_toArray,List.length_cons,List.length_nil,Nat.reduceAdd,Nat.reduceSub,Array.replicate_succ,Array.replicate_zero,List.push_toArray,List.append_toArray,List.nil_append,List.cons_append];gi_wp2
 refine wpIn_loop_rounds 1 ?_;rw [roundsIn_succ];gi_wp2
 refine ⟨fun h=>absurd h (by simp [Fence.wide]),HRD.out.mono ?_⟩;rintro e W3 ⟨rfl,O2,hj3,hc3,ho3⟩;gi_wp2
 exact bodyPost_ret (v:=.tuple #[]) (results_none rfl _ _ _) rfl ⟨⟨_,rfl⟩,O2,hj3⟩
def chrB (n:Nat):ByteArray:=strB [n]
theorem shl1 (n:Nat) (h:n<64):bits BinOp.xor IntKind.u64 ((n:Int) * 2) 0=((2 * n:Nat):Int):=by
 have q:∀k:Fin 64,bits BinOp.xor IntKind.u64 (((k.val:Nat):Int) * 2) 0=((2 * k.val:Nat):Int):=by decide +kernel
 exact q ⟨n,h⟩
theorem putint_any (n:Nat) (w:World) (hn:n<64) :
  Calls Tryz.prog 105 #[.int .i64 (n:Int)] w fun e w'=>e = .returned (.tuple #[.string (chrB (2 * n)),.int .i64 0])∧Below w.heap.size w w':=by
 obtain ⟨i0,hi,hz0,hz1,hz2⟩:=info_parts Tryz.infoB;suffices HH:∀k,CallsIn Fence.wide k Tryz.prog 105 #[.int .i64 (n:Int)] w (fun e w'=>e = .returned (.tuple #[.string (chrB (2 * n)),.int .i64 0])∧Below w.heap.size w w') from (callsIn_wide (n:=5)).1 (HH 5)
 intro nF;have n0:(0:Int)≤(n:Int):=by omega
 have n1:(n:Int)<64:=by omega
 have sh:=shl1 n hn;obtain ⟨z,hz⟩:∃z,2 * n=z:=⟨_,rfl⟩;have hzl:z<128:=by omega
 rw [hz] at sh;have HZ:=Hd hz;clear hz;have g1:¬(n:Int) < -4611686018427387903:=by omega
 have g2:¬(4611686018427387903:Int)<(n:Int):=by omega
 refine callsIn_of_wp_marks Tryz.func105 rfl trivial ?_ rfl;simp only [Tryz.ntmps105,List.size_toArray,List.length_cons,List.length_nil,Nat.reduceAdd,Nat.reduceSub,Array.replicate_succ,Array.replicate_zero,List.push_toArray,List.append_toArray,List.nil_append,List.cons_append];have d0:(n:Int) / 9223372036854775808=0:=by omega
 gi_wp2
 clear sh;refine wide_call (groups_any (z:Int) _) ?_;rintro e w' ⟨rfl,rfl⟩;gi_wp2
 obtain ⟨W2,hW2⟩:∃W2,(w.alloc (.cells #[.slice none 0 0] 135)).alloc (.cells #[.int .u64 (z:Int)] 209)=W2:=⟨_,rfl⟩;have HS2:=Hd (show W2.heap.size=w.heap.size+2 by rw [←hW2];simp);have B2:=Hd (show Below w.heap.size w W2 by rw [←hW2];exact ((Below.refl _ w).alloc (Nat.le_refl _) _).alloc (by simp) _);have BX:=Hd (show Boxed W2 w.heap.size 135 (.slice none 0 0) by rw [←hW2];exact (Boxed.new w _ _).alloc _);have BM:=Hd (show W2.cell? ⟨w.heap.size+1,0,none⟩=some (.int .u64 (z:Int)) by rw [←hW2];exact cell_box _ _ _ 0 _ rfl _ (by simp));rw [hW2];clear hW2;refine wpIn_range_all (gf:=217) (lb:=#[.pointer (some ⟨w.heap.size+1,0,none⟩)]) rfl (enters_of Tryz.func217 (by kernel_rfl) rfl)
  (groups_seq _ (w.heap.size+1) z W2 hzl BM.out) (fun _=>rfl)
  (fun pre O W=>∃v,BoxRow w W w.heap.size 135 5 1 pre.length v (pre.flatMap encB) O) (fun k=>k=w.heap.size∨(Value.slice none 0 0).ownBlock=some k) ?hO0 ?hI ?h0
  (fun pre x a' O W=>a' = {tmps:=#[.int .i64 (n:Int),undef,.string {data:=#[]},.int .i64 0,.pointer (some ⟨w.heap.size,0,none⟩),.int .u8 (x:Int),.bool true,.int .i64 (n:Int),.bool false,.bool false,.int .i64 (n:Int),.bool false,.bool false,.int .i64 (n:Int),.int .u64 (n:Int),.int .u64 ((n:Int) * 2),.int .i64 (n:Int),.int .i64 0,.int .u64 0,.int .u64 (z:Int),.func (.func 217) #[] #[.pointer (some ⟨w.heap.size+1,0,none⟩)],.int .u8 (x:Int),.bool true,undef,undef,undef,undef,undef,undef,undef,undef,undef,undef],defers:=[]} ∧
   ∃v,BoxRow w W w.heap.size 135 5 1 pre.length v (pre.flatMap encB) O) ?hM ?assign ?body ?done
 case hO0=>
  intro k hk;rcases hk with rfl | hk
  ·exact ⟨by have:=HS2.out;omega,by omega⟩
  simp [Value.ownBlock] at hk
 case hI=>rintro s O A A' C ⟨v,h⟩ hc hC;exact ⟨v,h.chg hc (fun k hk=>⟨by have:=(hC k hk).1;have:=HS2.out;omega,(hC k hk).2⟩)⟩
 case h0=>exact ⟨_,fun k=>Iff.rfl,BX.out,World.ownsRow_nil _ _ _ _,B2.out,Nat.le_refl _⟩
 case hM=>rintro s x a' O A A' C ⟨e,v,h⟩ hc hC;exact ⟨e,v,h.chg hc (fun k hk=>⟨by have:=(hC k hk).1;have:=HS2.out;omega,(hC k hk).2⟩)⟩
 case assign=>
  intro l' pre x rest O W K hx hi hK;dsimp only [encG];gi_wp2
  exact hK _ O W ⟨rfl,hi⟩ (Chg.refl _ _) (fun k h=>.inl h)
 case body=>
  rintro l' pre x rest a' O W hx ⟨rfl,v,hbr⟩;have BR:=Hd hbr;have hcell:=hbr.box.cell;have hpl:pre.length≤1000:=by
   have h2:([z]:List Nat).length=pre.length+(rest.length+1):=by rw [hx];simp
   simp at h2;omega
  clear hbr hx;gi_wp2_with (first
   | (gi_at_builtin;refine wpListIn_append_own_at _ rfl _ _ 135 rfl w.heap.size 5 i0 (.int .u8 0) 1 1 Tryz.underlying135 hi hz0 hz1 hz2 rfl (by decide) _ _ _ rfl (BR.out.row.alloc _) ⟨W.heap.size,0,none⟩ 1 1 (encB x) rfl rfl (cells_at _ _ _ _ rfl) (encB_one _) (by unfold maxLen;omega) (by omega) (by have:=BR.out.bel.size;simp;omega) ?_;intro v' w1 own gr hnil hloc;obtain ⟨g',cap',rfl⟩:=ownsRow_succ own;obtain ⟨hv1,hap⟩:=BR.out.appended (by decide) own gr hloc;have AP:=Hd hap;have hc1:=hv1.cell;have hf1:=hv1.frozen;clear own gr hnil hloc hap hv1)
   | gi_in)
  obtain ⟨O',h1,h2,h3⟩:=AP.out;exact ⟨O',⟨_,by rw [flat_snoc,List.length_append];exact h1⟩,h2,h3⟩
 case done=>
  rintro D O W hD hnD ⟨v,hbr⟩ hK;have hcell:=hbr.box.cell;have BR:=Hd hbr;obtain ⟨ao,cap,hv,h1,h2⟩:=rowK_of_owns encB_len (by decide) hbr.row;subst hv;have cv:=conv_row 1 cap rfl (by omega) h2;clear hbr;gi_wp2
  refine ⟨by simp,.inl ⟨_,_,rfl,run_takeDeferred hK,?_⟩⟩;have hB:=BR.out.chg (Chg.put W D (.deferred none) (C:=fun k=>k=D) rfl) (fun k hk=>by subst hk;exact ⟨by have:=HS2.out;omega,hnD⟩);exact ⟨_,results_tmp2 rfl _ _ _,by rw [HZ.out];rfl,hB.bel⟩
end
end Go.Proofs.YtifcdjmcoibblaaGreatDoor
