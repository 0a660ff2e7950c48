/- ERngX EPti EPtj EBld ENum EEnd EEnc EPl2 Fst -/
import Derived.Test.YtifcdjmcoibblaaGreatDoorFq02
import Derived.Test.YtifcdjmcoibblaaGreatDoorFq01
import Derived.Test.YtifcdjmcoibblaaGreatDoorFq12
import Derived.Laws.BytesArg
import Derived.Laws.BitsLemmas
import Derived.Laws.Closers25b
import Derived.Test.YtifcdjmcoibblaaGreatDoorFq03
import Derived.Test.YtifcdjmcoibblaaGreatDoorFq04
import Derived.Shelf.Strings.Builder1
import Derived.StillTailTactics
import Derived.Test.YtifcdjmcoibblaaGreatDoorFq13
set_option linter.unusedVariables false
set_option linter.unusedSimpArgs false
set_option linter.unusedSectionVars false
set_option maxRecDepth 100000
set_option maxHeartbeats 80000000
namespace Go.Proofs.YtifcdjmcoibblaaGreatDoor
section
namespace Fk
open Go.RowKit
def SeqOwx {α:Type} (n:Nat) (P:Program) (g:Nat) (lb:Array Value) (encs:α→Array Value) (X:Nat→Prop) (xs:List α) (w:World):Prop:=
 ∀(l:Nat) (J:List α→(Nat→Prop)→World→Prop) (O:Nat→Prop) (W:World),Below w.heap.size w W→(∀k,O k→k<w.heap.size∧¬X k) →
  (∀s O A B C,J s O A→Chg C A B→(∀k,C k→(W.heap.size≤k∨X k)∧¬O k)→J s O B) →
  (∀pre x rest O1 W1,xs=pre ++ x :: rest→J pre O1 W1→YieldAt Fence.wide (n - 1) P l (encs x) W1 fun e W'=>
   e = .returned (.bool true)∧∃O2,J (pre ++ [x]) O2 W'∧Chg O1 W1 W'∧∀k,O2 k→O1 k∨W1.heap.size≤k) →
  J [] O W →
  CallsIn Fence.wide n P g (#[.func (.yield l) #[] #[]] ++ lb) W fun e W'=>(∃v,e = .returned v)∧∃O',J xs O' W'
theorem wpIn_range_owx {α:Type} {n:Nat} {P:Program} {g:Operand} {ps:Array Tmp} {assign body:Code} {Q:Exit→Act→World→Prop} {a:Act} {w:World}
  {gf:Nat} {lb:Array Value} (hg:a.eval g = .func (.func gf) #[] lb) (eg:∀args w,(callFunc gf args).run P w = .ok (.enter gf args) w)
  {encs:α→Array Value} {X:Nat→Prop} {xs:List α} (hseq:SeqOwx (n - 1) P gf lb encs X xs w) (hps:∀x,(encs x).size=ps.size) (hX:∀k,X k→k<w.heap.size)
  (I:List α→(Nat→Prop)→World→Prop) (O0:Nat→Prop) (hO0:∀k,O0 k→k<w.heap.size∧¬X k)
  (hI:∀s O A B C,I s O A→Chg C A B→(∀k,C k→(w.heap.size≤k∨X k)∧¬O k)→I s O B) (h0:I [] O0 w)
  (M:List α→α→Act→(Nat→Prop)→World→Prop) (hM:∀s x a' O A B C,M s x a' O A→Chg C A B→(∀k,C k→(w.heap.size≤k∨X k)∧¬O k)→M s x a' O B)
  (hassign:∀(l:Nat) (pre:List α) (x:α) (rest:List α) (O:Nat→Prop) (W:World) (K:Act→World→Prop),xs=pre ++ x :: rest→I pre O W→(∀a' O' W',M pre x a' O' W'→Chg O W W'→(∀k,O' k→O k∨W.heap.size≤k)→K a' W') →
   assign.wpIn (Fence.wide.inRound l) (n - 1 - 1) P (Exit.then K (fun _ _ _=>False)) {tmps:=(ps.zip (encs x)).foldl (fun t (p,v)=>t.setIfInBounds p v) a.tmps,defers:=[]} W)
  (hbody:∀(l:Nat) (pre:List α) (x:α) (rest:List α) (a':Act) (O:Nat→Prop) (W:World),xs=pre ++ x :: rest→M pre x a' O W→body.wpIn (Fence.wide.inRound l) (n - 1 - 1) P (roundEnd I (pre ++ [x]) O W) a' W)
  (hdone:∀(D:Nat) (O:Nat→Prop) (W:World),w.heap.size≤D→¬O D→I xs O W→W.heap[D]?=some (.deferred (some []))→Q .normal {a with defers:={target:=.collected D,args:=#[]} :: a.defers} W) :
  (Code.rangeFunc g ps assign body).wpIn Fence.wide n P Q a w:=by
 refine wpIn_rangeFunc ?_;intro fn hfn;rw [show Fence.wide.round=none from rfl];obtain ⟨rc,hrc⟩:∃rc:LoopState→Loop,rc=fun st=>{state:=st,pending:=none,fn,tmps:=a.tmps,params:=ps,assign,body,defers:=w.heap.size}:=⟨_,rfl⟩;obtain ⟨V,hV⟩:∃V,(w.alloc (.deferred (some []))).alloc (.loop (rc .ready))=V:=⟨_,rfl⟩;have hVs:V.heap.size=w.heap.size+2:=by rw [←hV];simp
 have hVl:V.heap[w.heap.size+1]?=some (.loop (rc .ready)):=by
  rw [←hV];have:=World.alloc_heap_new (w.alloc (.deferred (some []))) (.loop (rc .ready));rwa [World.size_alloc] at this
 have hVd:V.heap[w.heap.size]?=some (.deferred (some [])):=by
  rw [←hV,Below.heap_alloc _ _ _ (by simp)];exact World.alloc_heap_new w _
 have hcV:Chg (fun _=>False) w V:=by rw [←hV];exact (Chg.alloc _ _ _).trans (Chg.alloc _ _ _)
 have hIV:I [] O0 V:=hI _ _ _ _ _ h0 hcV (fun k h=>h.elim);refine ⟨w.heap.size+1,[{target:=.collected w.heap.size,args:=#[]}],V,{target:=.fn (.func gf) lb,args:=#[.func (.yield (w.heap.size+1)) #[] #[]]},V,gf,
  #[.func (.yield (w.heap.size+1)) #[] #[]] ++ lb,V,?_,?_,fun _ _=>trivial,?_,fun h=>by simp [Fence.wide] at h,?_⟩
 ·rw [←hV,hrc];exact run_enterLoop_outer _ _ _ _ _
 ·simp only [resolve,hg];simp [go_sem]
 ·simp [invoke,go_sem,eg]
 refine (hseq (w.heap.size+1)
  (fun pre O W=>I pre O W∧W.heap[w.heap.size+1]?=some (.loop (rc .ready))∧W.heap[w.heap.size]?=some (.deferred (some []))∧¬O (w.heap.size+1)∧¬O w.heap.size)
  O0 V (hcV.below (Nat.le_refl _) (fun k h=>h.elim)) hO0 ?_ ?_ ⟨hIV,hVl,hVd,fun h=>by have:=(hO0 _ h).1;omega,fun h=>by have:=(hO0 _ h).1;omega⟩).mono ?_
 ·rintro s O A B C ⟨h1,h2,h3,h4,h5⟩ hc hC;refine ⟨hI _ _ _ _ _ h1 hc (fun k hk=>⟨by rcases (hC k hk).1 with q | q;exact .inl (by omega);exact .inr q,(hC k hk).2⟩),?_,?_,h4,h5⟩
  ·rw [hc.block _ (gE h2).1 (fun h=>by rcases (hC _ h).1 with q | q;omega;have:=hX _ q;omega)];exact h2
  rw [hc.block _ (gE h3).1 (fun h=>by rcases (hC _ h).1 with q | q;omega;have:=hX _ q;omega)];exact h3
 ·rintro pre x rest O W hxs ⟨hi,hl,hd,nl,nd⟩;have hlt:w.heap.size+1<W.heap.size:=(gE hl).1;have hy:=run_yield (P:=P) (args:=encs x) hl (by rw [hrc];exact hps x);rw [hrc] at hy;refine ⟨fn,_,assign,body,hy,roundIn_of_wpIn hfn (hassign _ pre x rest O W _ hxs hi ?_)⟩;intro a' Oa Wa hm hca hoa;have hla:Wa.heap[w.heap.size+1]?=some (.loop (rc .ready)):=by rw [hca.block _ hlt nl];exact hl
  have hda:Wa.heap[w.heap.size]?=some (.deferred (some [])):=by rw [hca.block _ (by omega) nd];exact hd
  have hlta:=(gE hla).1;have nla:¬Oa (w.heap.size+1):=fun h=>by rcases hoa _ h with h | h;exact nl h;omega
  have nda:¬Oa w.heap.size:=fun h=>by rcases hoa _ h with h | h;exact nd h;omega
  refine ⟨_,run_beginRound hla (by rw [hrc]),?_⟩;obtain ⟨V2,hV2⟩:∃V2,Wa.putObj (w.heap.size+1) (.loop {rc .ready with state:=.busy})=V2:=⟨_,rfl⟩;have hl2:V2.heap[w.heap.size+1]?=some (.loop (rc .busy)):=by rw [←hV2,World.putObj_heap_same hlta,hrc]
  have hd2:V2.heap[w.heap.size]?=some (.deferred (some [])):=by rw [←hV2,World.putObj_heap_other (by omega)];exact hda
  have hc2:Chg (fun k=>k=w.heap.size+1) Wa V2:=by rw [←hV2];exact Chg.put _ _ _ rfl
  have hs2:V2.heap.size=Wa.heap.size:=by rw [←hV2];simp
  rw [hV2];have hm2:=hM _ _ _ _ _ _ _ hm hc2 (fun k hk=>by subst hk;exact ⟨.inl (by omega),nla⟩);refine wpIn_mono (hbody _ pre x rest a' Oa V2 hxs hm2) ?_;rintro e a3 W3 hp;have hsa:=hca.size;cases e with
  | normal=>
   obtain ⟨O',hi3,hc3,ho3⟩:=hp;have hl3:W3.heap[w.heap.size+1]?=some (.loop (rc .busy)):=by rw [hc3.block _ (by omega) nla];exact hl2
   have hd3:W3.heap[w.heap.size]?=some (.deferred (some [])):=by rw [hc3.block _ (by omega) nda];exact hd2
   have hlt3:=(gE hl3).1;have nl':¬O' (w.heap.size+1):=fun h=>by rcases ho3 _ h with h | h;exact nla h;omega
   have nd':¬O' w.heap.size:=fun h=>by rcases ho3 _ h with h | h;exact nda h;omega
   have her:({rc .busy with state:=if (none:Option Code).isNone then .ready else .done,pending:=none}:Loop)=rc .ready:=by rw [hrc];rfl
   have hre:=run_endRound (P:=P) none hl3;rw [her] at hre;refine ⟨_,_,hre,rfl,O',⟨hI _ _ _ _ (fun k=>k=w.heap.size+1) hi3 (Chg.put _ _ _ rfl) (fun k hk=>by subst hk;exact ⟨.inl (by omega),nl'⟩),World.putObj_heap_same hlt3,by rw [World.putObj_heap_other (by omega)];exact hd3,nl',nd'⟩,?_,fun k hk=>?_⟩
   ·refine ⟨hc3.os.trans (hc2.os.trans hca.os),hc3.tape.trans (hc2.tape.trans hca.tape),hc3.output.trans (hc2.output.trans hca.output),by rw [World.putObj_size];have:=hc3.size;omega,fun k hk hn=>?_⟩;by_cases e:k=w.heap.size+1
    ·subst e;rw [World.putObj_heap_same hlt3];exact hl.symm
    rw [World.putObj_heap_other e,hc3.block k (by omega) (fun h=>by rcases hoa k h with h | h;exact hn h;omega),hc2.block k (by omega) e,hca.block k hk hn]
   ·rcases ho3 k hk with h | h
    ·exact hoa k h
    ·exact .inr (by omega)
  | ret=>exact hp.elim
  | exit id=>exact hp.elim
  | goto t=>exact hp.elim
  | panic ch=>exact hp.elim
  | outgrown=>exact hp.elim
 rintro e W2 ⟨⟨v,rfl⟩,O',hi,hl,hd,nl,nd⟩;have hre:=run_endLoop (P:=P) hl (by rw [hrc];simp);rw [show (rc .ready).pending=none by rw [hrc]] at hre;refine ⟨none,_,hre,hdone _ O' _ (Nat.le_refl _) nd (hI _ _ _ _ (fun k=>k=w.heap.size+1) hi (Chg.put _ _ _ rfl) (fun k hk=>by subst hk;exact ⟨.inl (by omega),nl⟩)) ?_⟩;rw [World.putObj_heap_other (by omega)];exact hd
end Fk
end
section
namespace Fk
open Go.RowKit
attribute [local go_sem] Oper.semAt_some
theorem groups_any (z:Int) (w:World) :
  Calls Tryz.prog 162 #[.int .u64 z] w fun e w'=>e = .returned (.func (.func 217) #[] #[.pointer (some ⟨w.heap.size,0,none⟩)])∧w'=w.alloc (.cells #[.int .u64 z] 209):=by
 go_enter Tryz.func162,Tryz.ntmps162
 go_wp2
 go_ret;exact ⟨rfl,rfl⟩
def grp (z:Nat):List (Nat×Bool):=if h:z<128 then [(z,true)] else (z % 128,false) :: grp (z / 128)
termination_by z
decreasing_by omega
theorem grp_low {z:Nat} (h:z<128):grp z = [(z,true)]:=by rw [grp,dif_pos h]
theorem grp_high {z:Nat} (h:¬z<128):grp z=(z % 128,false) :: grp (z / 128):=by rw [grp,dif_neg h]
theorem grp_len:∀(k z:Nat),z<128 ^ (k+1)→(grp z).length≤k+1
 | 0,z,h=>by rw [grp_low (by simpa using h)];simp
 | k+1,z,h=>by
  by_cases q:z<128
  ·rw [grp_low q];simp
  rw [grp_high q];have:=grp_len k (z / 128) (by rw [Nat.div_lt_iff_lt_mul (by omega)];rw [Nat.pow_succ] at h;exact h);simpa using this
theorem grp_pos (z:Nat):1≤(grp z).length:=by
 rw [grp];split <;> simp
def encG (g:Nat×Bool):Array Value:=#[.int .u8 (g.1:Int),.bool g.2]
theorem wraps_u64 (n:Int) (h0:0≤n) (h1:n<2 ^ 64):IntKind.u64.wrap n=n:=by
 have:IntKind.u64.wrap n=n % 18446744073709551616:=by simp [IntKind.wrap,IntKind.bits,IntKind.signed]
 rw [this];have e:(2:Int) ^ 64=18446744073709551616:=by decide
 rw [e] at h1;exact Int.emod_eq_of_lt h0 h1
theorem and127 (z:Int) (h0:0≤z) (h1:z<18446744073709551616):bits .and .u64 z 127=z % 128:=by
 have e:(2:Int) ^ 64=18446744073709551616:=by decide
 exact bits_mask .u64 64 (by decide) wraps_u64 7 (by decide) z h0 (by rw [e];exact h1)
theorem groups_seq (n bx z:Nat) (w:World) (hz:z<18446744073709551616) (hb:Boxed w bx 209 (.int .u64 (z:Int))) :
  SeqOwx n Tryz.prog 217 #[.pointer (some ⟨bx,0,none⟩)] encG (fun k=>k=bx) (grp z) w:=by
 intro lp J O W hW hO hJ hY h0;have HBX:=Hd (show Boxed W bx 209 (.int .u64 (z:Int)) from Boxed.blk hb (hW.block bx (Boxed.lt hb)));have HNO:=Hd (show ¬O bx from fun q=>(hO bx q).2 rfl);have HJ:=Hd hJ;have HY:=Hd hY;have H0:=Hd h0;have HS:=Hd hW.size;clear hJ hY h0 hO hW hb;refine callsIn_of_wp Tryz.func217 rfl trivial ?_ rfl;simp only [Tryz.ntmps217,List.size_toArray,List.length_cons,List.length_nil,Nat.reduceAdd,Nat.reduceSub,Array.replicate_succ,Array.replicate_zero,List.push_toArray,List.append_toArray,List.nil_append,List.cons_append];gi_wp2
 gi_loopw [3] (fun i wr=>∃(z1:Nat) (pre:List (Nat×Bool)) (O1:Nat→Prop),z1<18446744073709551616∧grp z=pre ++ grp z1∧J pre O1 wr∧¬O1 bx∧Boxed wr bx 209 (.int .u64 (z1:Int))) (fun _ wr=>match wr.cell? ⟨bx,0,none⟩ with | some (.int _ v)=>v.toNat | _=>0)
 case atStart=>exact ⟨z,[],O,hz,rfl,H0.out,HNO.out,HBX.out⟩
 case round=>
  obtain ⟨z1,pre,O1,hz1,hg,hj,hno,hbx⟩:=hrel;have hcb:wr.cell? ⟨bx,0,none⟩=some (.int .u64 (z1:Int)):=Boxed.cell hbx;have ha:=and127 (z1:Int) (by omega) (by omega);by_cases q:z1<128
  ·obtain ⟨fn,tmps,assign,body,hy,hR⟩:=HY.out pre (z1,true) [] O1 wr (by rw [hg,grp_low q]) hj;dsimp only [encG] at hy;have HRD:=Hd hR;have z0:(0:Int)≤(z1:Int):=by omega
   have z2:(z1:Int)<128:=by omega
   have zm:(z1:Int) % 128=(z1:Int):=by omega
   have zw:IntKind.u8.wrap (z1:Int)=(z1:Int):=by rw [IntKind.wrap_u8];omega
   have HG:=Hd (show grp z=pre ++ [(z1,true)] from by rw [hg,grp_low q]);rw [zm] at ha;clear hR hg hj hbx;gi_wp2
   refine ⟨fun h=>absurd h (by simp [Fence.wide]),HRD.out.mono ?_⟩;rintro e W3 ⟨rfl,O2,hj3,hc3,ho3⟩;have H3:=Hd hj3;clear hj3 hc3 ho3;gi_wp2
   refine bodyPost_ret (v:=.tuple #[]) (results_none rfl _ _ _) rfl ⟨⟨_,rfl⟩,O2,?_⟩;rw [HG.out];exact H3.out
  obtain ⟨fn,tmps,assign,body,hy,hR⟩:=HY.out pre (z1 % 128,false) (grp (z1 / 128)) O1 wr (by rw [hg,grp_high q]) hj;dsimp only [encG] at hy;have HRD:=Hd hR;have z0:(0:Int)≤(z1:Int):=by omega
  have z2:¬(z1:Int)<128:=by omega
  have zw:IntKind.u8.wrap ((z1:Int) % 128)=(z1:Int) % 128:=by rw [IntKind.wrap_u8];omega
  have HG:=Hd (show grp z=(pre ++ [(z1 % 128,false)]) ++ grp (z1 / 128) from by rw [hg,grp_high q];simp);have hy2:((z1 % 128:Nat):Int)=(z1:Int) % 128:=by omega
  rw [hy2] at hy;have HB:=Hd hbx;have HN:=Hd hno;clear hR hg hj hbx hno hy2;gi_wp2
  refine ⟨fun h=>absurd h (by simp [Fence.wide]),HRD.out.mono ?_⟩;rintro e W3 ⟨rfl,O2,hj3,hc3,ho3⟩;have B3:=Hd (show Boxed W3 bx 209 (.int .u64 (z1:Int)) from Boxed.blk HB.out (hc3.block bx (Boxed.lt HB.out) HN.out));have N3:=Hd (show ¬O2 bx from fun q=>by
   rcases ho3 bx q with q | q
   ·exact HN.out q
   have:=Boxed.lt HB.out;omega)
  have J3:=Hd hj3;have c3:W3.cell? ⟨bx,0,none⟩=some (.int .u64 (z1:Int)):=Boxed.cell B3.out;have f3:W3.frozen? ⟨bx,0,none⟩=false:=Boxed.frozen B3.out;clear hj3 hc3 ho3 hcb ha;gi_wp2
  have hc9:Chg (fun k=>k=bx) W3 (W3.setCell ⟨bx,0,none⟩ (.int .u64 ((z1:Int) / 128))):=Chg.grown (grownBy_setCell' W3 bx _) (fun k e=>by cases e;rfl);have e9:(z1:Int) / 128=((z1 / 128:Nat):Int):=by omega
  refine ⟨⟨z1 / 128,_,O2,by omega,HG.out,HJ.out _ _ _ _ _ J3.out hc9 (fun k hk=>⟨.inr hk,by subst hk;exact N3.out⟩),N3.out,?_⟩,?_⟩
  ·rw [←e9];exact Boxed.set _ B3.out
  rw [Boxed.cell (Boxed.set _ B3.out),Boxed.cell HB.out];show ((z1:Int) / 128).toNat<(z1:Int).toNat;omega
end Fk
end
section
namespace Fk
open Go.RowKit
attribute [local go_sem] Oper.semAt_some
theorem Tryz.infoB:(Tryz.prog.info? 5).map (fun i=>(i.zero,i.size,i.bytes))=some (some (.int .u8 0),1,1):=by kernel_rfl
def gB (g:Nat×Bool):Int:=if g.2 then (g.1:Int) else bits .or .u8 (g.1:Int) 128
def encU (g:Nat×Bool):List Value:=[.int .u8 (gB g)]
theorem encU_len (x:Nat×Bool):(encU x).length=1:=rfl
theorem encU_one (x:Nat×Bool):∀u∈encU x,u.oneCell'=true:=by intro u hu;simp [encU] at hu;subst hu;rfl
theorem conv_bytes {w:World} {ao:Option Addr} {l:List (Nat×Bool)} (n cap:Nat) (hn:l.length=n) (hp:0<n) (h:RowK 1 encU w ao l):(convert 135 9 (.slice ao n cap)).run Tryz.prog w = .ok (.string (strOfNums (l.map gB))) w:=by
 obtain ⟨g,off,rfl,_,_⟩:=h 0 l[0] (List.getElem?_eq_getElem (by omega));refine run_convert_bytes_arg (P:=Tryz.prog) w 135 5 Tryz.underlying135 Tryz.underlying5 g off n cap (l.map gB) (by rw [List.length_map];exact hn) (fun i hi=>?_) 9 Tryz.underlying9;obtain ⟨g',o',e,_,hc⟩:=h i l[i] (List.getElem?_eq_getElem (by omega));cases e;have:=hc 0 _ rfl;rw [Nat.mul_one,Nat.add_zero] at this;rw [this,List.getD_eq_getElem?_getD,List.getElem?_map,List.getElem?_eq_getElem (by omega)];rfl
def zig (n:Int):Nat:=(bits .xor .u64 (IntKind.u64.wrap (IntKind.u64.wrap n * 2)) (IntKind.u64.wrap (n / 9223372036854775808))).toNat
def putB (n:Int):ByteArray:=if -4611686018427387903≤n∧n≤4611686018427387903 then strOfNums ((grp (zig n)).map gB) else ⟨#[]⟩
theorem zig_lt (n:Int):zig n<18446744073709551616:=by
 unfold zig;have h1:=bits_lo_u64 .xor (IntKind.u64.wrap (IntKind.u64.wrap n * 2)) (IntKind.u64.wrap (n / 9223372036854775808));have h2:=bits_hi_u64 .xor (IntKind.u64.wrap (IntKind.u64.wrap n * 2)) (IntKind.u64.wrap (n / 9223372036854775808));omega
theorem putB_len (n:Int):(putB n).size≤10:=by
 unfold putB;split
 ·rw [strOfNums_size,List.length_map]
  exact grp_len 9 _ (by have:(128:Nat) ^ (9+1)=1180591620717411303424:=by decide
                        have:=zig_lt n;omega)
 exact Nat.zero_le _
theorem putB_pos {n:Int} (h1:-4611686018427387903≤n) (h2:n≤4611686018427387903):1≤(putB n).size:=by
 unfold putB;rw [if_pos ⟨h1,h2⟩,strOfNums_size,List.length_map];exact grp_pos _
def PutE (n:Int) (w:World) (e:Ending) (w':World):Prop:=∃(s:ByteArray) (er:Int),e = .returned (.tuple #[.string s,.int .i64 er])∧s=putB n∧s.size≤10∧(-4611686018427387903≤n→n≤4611686018427387903→1≤s.size)∧Below w.heap.size w w'
theorem putint_any (n:Int) (w:World):Calls Tryz.prog 105 #[.int .i64 n] w (PutE n w):=by
 obtain ⟨i0,hi,hz0,hz1,hz2⟩:=info_parts Tryz.infoB;by_cases g1:n < -4611686018427387903
 ·go_enter Tryz.func105,Tryz.ntmps105
  go_wp2
  go_ret2
  exact ⟨_,_,rfl,by unfold putB;rw [if_neg (by omega)],Nat.zero_le _,fun q=>by omega,Below.refl _ _⟩
 by_cases g2:(4611686018427387903:Int)<n
 ·go_enter Tryz.func105,Tryz.ntmps105
  go_wp2
  go_ret2
  exact ⟨_,_,rfl,by unfold putB;rw [if_neg (by omega)],Nat.zero_le _,fun _ q=>by omega,Below.refl _ _⟩
 suffices HH:∀k,CallsIn Fence.wide k Tryz.prog 105 #[.int .i64 n] w (PutE n w) from (callsIn_wide (n:=5)).1 (HH 5)
 intro nF;refine callsIn_of_wp_marks Tryz.func105 rfl trivial ?_ rfl;simp only [Tryz.ntmps105,List.size_toArray,List.length_cons,List.length_nil,Nat.reduceAdd,Nat.reduceSub,Array.replicate_succ,Array.replicate_zero,List.push_toArray,List.append_toArray,List.nil_append,List.cons_append];gi_wp2
 obtain ⟨v17,h17⟩:∃v,n / 9223372036854775808=v:=⟨_,rfl⟩;obtain ⟨v14,h14⟩:∃v,IntKind.u64.wrap n=v:=⟨_,rfl⟩;rw [h17,h14];obtain ⟨v18,h18⟩:∃v,IntKind.u64.wrap v17=v:=⟨_,rfl⟩;obtain ⟨v15,h15⟩:∃v,IntKind.u64.wrap (v14 * 2)=v:=⟨_,rfl⟩;rw [h18,h15];obtain ⟨z,hz,hzl⟩:∃z:Nat,bits .xor .u64 v15 v18=(z:Int)∧z<18446744073709551616:=⟨(bits .xor .u64 v15 v18).toNat,by
  have h1:=bits_lo_u64 .xor v15 v18;have h2:=bits_hi_u64 .xor v15 v18;omega⟩
 rw [hz];have HZ:=Hd (show putB n=strOfNums ((grp z).map gB) by
  unfold putB zig;rw [if_pos (by omega),h14,h17,h15,h18,hz];rfl)
 have HG1:=Hd g1;have HG2:=Hd g2;clear h17 h14 h18 h15 hz g1 g2;refine wide_call (groups_any (z:Int) _) ?_;rintro e w' ⟨rfl,rfl⟩;gi_wp2
 obtain ⟨W2,hW2⟩:∃W2,(w.alloc (.cells #[.slice none 0 0] 135)).alloc (.cells #[.int .u64 (z:Int)] 209)=W2:=⟨_,rfl⟩;have HS2:=Hd (show W2.heap.size=w.heap.size+2 by rw [←hW2];simp);have B2:=Hd (show Below w.heap.size w W2 by rw [←hW2];exact ((Below.refl _ w).alloc (Nat.le_refl _) _).alloc (by simp) _);have BX:=Hd (show Boxed W2 w.heap.size 135 (.slice none 0 0) by rw [←hW2];exact (Boxed.new w _ _).alloc _);have BM:=Hd (show Boxed W2 (w.heap.size+1) 209 (.int .u64 (z:Int)) by rw [←hW2];have:=Boxed.new (w.alloc (.cells #[.slice none 0 0] 135)) 209 (.int .u64 (z:Int));simpa using this);rw [hW2];clear hW2;have GL:=Hd (grp_len 9 z (by have e9:(128:Nat) ^ (9+1)=1180591620717411303424:=(by decide);omega));have GP:=Hd (grp_pos z);refine wpIn_range_owx (gf:=217) (lb:=#[.pointer (some ⟨w.heap.size+1,0,none⟩)]) rfl (enters_of Tryz.func217 (by kernel_rfl) rfl)
  (groups_seq _ (w.heap.size+1) z W2 hzl BM.out) (fun _=>rfl) (fun k hk=>by subst hk;have:=HS2.out;omega)
  (fun pre O W=>∃v,BoxRow w W w.heap.size 135 5 1 pre.length v (pre.flatMap encU) O) (fun k=>k=w.heap.size∨(Value.slice none 0 0).ownBlock=some k) ?hO0 ?hI ?h0
  (fun pre x a' O W=>a' = {tmps:=#[.int .i64 n,undef,.string {data:=#[]},.int .i64 0,.pointer (some ⟨w.heap.size,0,none⟩),.int .u8 (x.1:Int),.bool x.2,.int .i64 n,.bool false,.bool false,.int .i64 n,.bool false,.bool false,.int .i64 n,.int .u64 v14,.int .u64 v15,.int .i64 n,.int .i64 v17,.int .u64 v18,.int .u64 (z:Int),.func (.func 217) #[] #[.pointer (some ⟨w.heap.size+1,0,none⟩)],.int .u8 (x.1:Int),.bool x.2,undef,undef,undef,undef,undef,undef,undef,undef,undef,undef],defers:=[]} ∧
   ∃v,BoxRow w W w.heap.size 135 5 1 pre.length v (pre.flatMap encU) O) ?hM ?assign ?body ?done
 case hO0=>
  intro k hk;rcases hk with rfl | hk
  ·exact ⟨by have:=HS2.out;omega,by omega⟩
  simp [Value.ownBlock] at hk
 case hI=>rintro s O A A' C ⟨v,h⟩ hc hC;exact ⟨v,h.chg hc (fun k hk=>⟨by rcases (hC k hk).1 with q | q;(have:=HS2.out;omega);omega,(hC k hk).2⟩)⟩
 case h0=>exact ⟨_,fun k=>Iff.rfl,BX.out,World.ownsRow_nil _ _ _ _,B2.out,Nat.le_refl _⟩
 case hM=>rintro s x a' O A A' C ⟨e,v,h⟩ hc hC;exact ⟨e,v,h.chg hc (fun k hk=>⟨by rcases (hC k hk).1 with q | q;(have:=HS2.out;omega);omega,(hC k hk).2⟩)⟩
 case assign=>
  intro l' pre x rest O W K hx hi hK;dsimp only [encG];gi_wp2
  exact hK _ O W ⟨rfl,hi⟩ (Chg.refl _ _) (fun k h=>.inl h)
 case body=>
  rintro l' pre ⟨g,b⟩ rest a' O W hx ⟨rfl,v,hbr⟩;have BR:=Hd hbr;have hcell:=hbr.box.cell;have hpl:pre.length≤1000:=by
   have h2:(grp z).length=pre.length+(rest.length+1):=by rw [hx];simp
   have:=GL.out;omega
  clear hbr hx;rcases b with _ | _
  ·gi_wp2_with (first
    | (gi_at_builtin;refine wpListIn_append_own_at _ rfl _ _ 135 rfl w.heap.size 5 i0 (.int .u8 0) 1 1 Tryz.underlying135 hi hz0 hz1 hz2 rfl (by decide) _ _ _ rfl (BR.out.row.alloc _) ⟨W.heap.size,0,none⟩ 1 1 (encU (g,false)) rfl rfl (cells_at _ _ _ _ rfl) (encU_one _) (by unfold maxLen;omega) (by omega) (by have:=BR.out.bel.size;simp;omega) ?_;intro v' w1 own gr hnil hloc;obtain ⟨g',cap',rfl⟩:=ownsRow_succ own;obtain ⟨hv1,hap⟩:=BR.out.appended (by decide) own gr hloc;have AP:=Hd hap;have hc1:=hv1.cell;have hf1:=hv1.frozen;clear own gr hnil hloc hap hv1)
    | gi_in)
   obtain ⟨O',h1,h2,h3⟩:=AP.out;exact ⟨O',⟨_,by rw [flat_snoc,List.length_append];exact h1⟩,h2,h3⟩
  gi_wp2_with (first
   | (gi_at_builtin;refine wpListIn_append_own_at _ rfl _ _ 135 rfl w.heap.size 5 i0 (.int .u8 0) 1 1 Tryz.underlying135 hi hz0 hz1 hz2 rfl (by decide) _ _ _ rfl (BR.out.row.alloc _) ⟨W.heap.size,0,none⟩ 1 1 (encU (g,true)) rfl rfl (cells_at _ _ _ _ rfl) (encU_one _) (by unfold maxLen;omega) (by omega) (by have:=BR.out.bel.size;simp;omega) ?_;intro v' w1 own gr hnil hloc;obtain ⟨g',cap',rfl⟩:=ownsRow_succ own;obtain ⟨hv1,hap⟩:=BR.out.appended (by decide) own gr hloc;have AP:=Hd hap;have hc1:=hv1.cell;have hf1:=hv1.frozen;clear own gr hnil hloc hap hv1)
   | gi_in)
  obtain ⟨O',h1,h2,h3⟩:=AP.out;exact ⟨O',⟨_,by rw [flat_snoc,List.length_append];exact h1⟩,h2,h3⟩
 case done=>
  rintro D O W hD hnD ⟨v,hbr⟩ hK;have hcell:=hbr.box.cell;have BR:=Hd hbr;obtain ⟨ao,cap,hv,h1,h2⟩:=rowK_of_owns encU_len (by decide) hbr.row;subst hv;have cv:=conv_bytes (grp z).length cap rfl (by have:=GP.out;omega) h2;clear hbr;gi_wp2
  refine ⟨by simp,.inl ⟨_,_,rfl,run_takeDeferred hK,?_⟩⟩;have hB:=BR.out.chg (Chg.put W D (.deferred none) (C:=fun k=>k=D) rfl) (fun k hk=>by subst hk;exact ⟨by have:=HS2.out;omega,hnD⟩);exact ⟨_,results_tmp2 rfl _ _ _,_,_,rfl,HZ.out.symm,by rw [strOfNums_size,List.length_map];exact GL.out,fun _ _=>by rw [strOfNums_size,List.length_map];exact GP.out,hB.bel⟩
end Fk
end
section
namespace Fk
open Go.RowKit Go.Shelf
theorem check_used (b:Nat) (w:World) (h0:w.cell? ⟨b,0,none⟩=some (.pointer (some ⟨b,0,none⟩))) :
  Calls Tryz.prog 218 #[.pointer (some ⟨b,0,none⟩)] w fun e w'=>e = .returned (.tuple #[])∧w'=w:=by
 obtain ⟨j,hj,_⟩:=Option.map_eq_some_iff.1 Tryz.Builder_Extra_169.sizeBuilder;go_enter Tryz.func218,Tryz.ntmps218
 go_wp2
 rw [Lib.run_neq_ptr_same w _ Tryz.underlying210 hj];go_wp2
 go_end0
 exact ⟨rfl,rfl⟩
theorem check_fresh (b:Nat) (w:World) (h0:w.cell? ⟨b,0,none⟩=some (.pointer none)) (hsh:w.shape? b=some (212,2)) (hfz:w.frozen? ⟨b,0,none⟩=false) :
  Calls Tryz.prog 218 #[.pointer (some ⟨b,0,none⟩)] w fun e w'=>e = .returned (.tuple #[])∧w'=w.setCell ⟨b,0,none⟩ (.pointer (some ⟨b,0,none⟩)):=by
 obtain ⟨j,hj,hjs⟩:=Option.map_eq_some_iff.1 Tryz.Builder_Extra_169.sizeBuilder;go_enter Tryz.func218,Tryz.ntmps218
 go_wp2
 rw [Lib.run_to_unsafe w ⟨b,0,none⟩ Tryz.underlying210 Tryz.underlying294 hj (by rw [hjs];decide) hsh (Nat.zero_lt_succ 1)];simp only [Result.andThen];rw [Oper.upon_value];go_wp2
 rw [run_callFunc_extern Tryz.func247 (by kernel_rfl) (by kernel_rfl) (by kernel_rfl) (e:=Extern.AbiNoEscape.same) (by kernel_rfl)];rw [Lib.run_noEscape];simp only [Result.andThen];rw [Oper.upon_value];go_wp2
 rw [Lib.run_from_unsafe w ⟨b,0,none⟩ Tryz.underlying294 Tryz.underlying210 hj hsh Tryz.Builder_Extra_169.liesBuilder];simp only [Result.andThen];rw [Oper.upon_value];go_wp2
 go_end0
 exact ⟨rfl,rfl⟩
abbrev IsB (B b:Nat) (bs:List Value) (w:World):Prop:=Lib.IsBuilder 212 5 B b bs w
def Keeps (b:Nat) (w w':World):Prop:=∀k cs t fr,w.heap[k]?=some (.cells cs t fr)→k≠b→t≠5→w'.heap[k]?=some (.cells cs t fr)
theorem Keeps.trans {b:Nat} {u v w:World} (h:Keeps b u v) (h2:Keeps b v w):Keeps b u w:=fun k cs t fr e n1 n2=>h2 k cs t fr (h k cs t fr e n1 n2) n1 n2
theorem Keeps.set {b:Nat} {w:World} (j:Nat) (v:Value):Keeps b w (w.setCell ⟨b,j,none⟩ v):=fun k cs t fr e n1 _=>(Below.heap_setCell _ _ _ _ n1).trans e
theorem check_any (B b:Nat) (bs:List Value) (w:World) (h:IsB B b bs w) :
  Calls Tryz.prog 218 #[.pointer (some ⟨b,0,none⟩)] w fun e w'=>e = .returned (.tuple #[])∧(Lib.BuilderAt 212 5 B b (.pointer (some ⟨b,0,none⟩)) bs w'∧Below B w w'∧Keeps b w w'):=by
 rcases h with h | h
 ·refine (check_fresh b w h.cell0 h.shape h.frozen0).mono ?_;rintro e w' ⟨rfl,rfl⟩;exact ⟨rfl,h.used _,(Below.refl B w).setCell (p:=⟨b,0,none⟩) h.1 _,Keeps.set 0 _⟩
 refine (check_used b w h.cell0).mono ?_;rintro e w' ⟨rfl,rfl⟩;exact ⟨rfl,h,Below.refl B _,fun _ _ _ _ e _ _=>e⟩
theorem write_any (B b:Nat) (bs:List Value) (s:ByteArray) (w:World) (h:IsB B b bs w) (hlen:bs.length+s.size≤140737488355328) (hBw:B≤w.heap.size) :
  Calls Tryz.prog 164 #[.pointer (some ⟨b,0,none⟩),.string s] w fun e w'=>e = .returned (.tuple #[.int .i64 s.size,.nilIface])∧(IsB B b (bs ++ Lib.strCells s) w'∧Below B w w'∧Keeps b w w'):=by
 obtain ⟨i0,hi,hz0,hz1,hz2⟩:=info_parts Tryz.Builder_Extra_169.infoByte;have e46:∀args w,(callFunc 218 args).run Tryz.prog w = .ok (.enter 218 args) w:=enters_of Tryz.func218 (by kernel_rfl) rfl;go_enter Tryz.func164,Tryz.ntmps164
 go_wp2_with (go_at_fn 218;refine (check_any B b bs _ h).mono ?_)
 rintro e w1 ⟨rfl,h1,hb1,hkp⟩;have KP:=Hd hkp;clear hkp;obtain ⟨hB,v,hbk,hown,hne⟩:=h1;have c0:w1.cell? ⟨b,0,none⟩=some (.pointer (some ⟨b,0,none⟩)):=by rw [Lib.cell_of_heap hbk];rfl
 have c1:w1.cell? ⟨b,1,none⟩=some v:=by rw [Lib.cell_of_heap hbk];rfl
 go_wp2_with (at_builtin;refine Lib.wpList_append_own_string _ rfl _ _ 135 9 rfl B 5 i0 Tryz.underlying135 Tryz.underlying9 hi hz0 hz1 hz2 _ _ _ rfl hown s rfl ?c3 ?c4 ?c5 ?_)
 case c3=>unfold maxLen;omega
 case c4=>omega
 case c5=>have:=hb1.size;omega
 intro v' w2 hown' hgrow _;have hlt:b<w1.heap.size:=by
  rcases Nat.lt_or_ge b w1.heap.size with h' | h'
  ·exact h'
  simp [Array.getElem?_eq_none h'] at hbk
 have hb2:w2.heap[b]?=some (.cells #[.pointer (some ⟨b,0,none⟩),v] 212 (0,0)):=by
  rw [hgrow.block b hlt (fun e=>hne e.symm)];exact hbk
 have d0:w2.cell? ⟨b,0,none⟩=some (.pointer (some ⟨b,0,none⟩)):=by rw [Lib.cell_of_heap hb2];rfl
 have d1:w2.cell? ⟨b,1,none⟩=some v:=by rw [Lib.cell_of_heap hb2];rfl
 have f1:w2.frozen? ⟨b,1,none⟩=false:=Lib.frozen_of_heap hb2 1;obtain ⟨ao,n',cap,rfl⟩:∃ao n' cap,v' = .slice ao n' cap:=by
  rcases hown'.2 with ⟨hv,_⟩ | ⟨g,cap,cur,hv,_⟩
  ·exact ⟨_,_,_,hv⟩
  exact ⟨_,_,_,hv⟩
 go_wp2
 go_ret2
 have hk2:Keeps b w1 w2:=fun k cs t fr e n1 n2=>by
  rw [hgrow.block k (gE e).1 (fun q=>?_)]
  ·exact e
  rcases hown.2 with ⟨hv,_⟩ | ⟨g,cap,cur,hv,_,hg,_⟩
  ·rw [hv] at q;simp [Value.ownBlock] at q
  rw [hv] at q;simp only [Value.ownBlock,Option.some.injEq] at q;subst q;rw [hg] at e;simp only [Option.some.injEq,Obj.cells.injEq] at e;exact n2 e.2.1.symm
 refine ⟨rfl,?_,?_,(KP.out.trans hk2).trans (Keeps.set 1 _)⟩
 ·exact .inr (Lib.BuilderAt.put (T:=212) (e:=5) hB hb2 (bs':=bs ++ Lib.strCells s) (by simpa [Lib.strCells_length] using hown') (by decide))
 exact (hb1.grown hgrow (by have:=hb1.size;omega) (fun k hk=>(hown.lt k hk).1)).setCell (p:=⟨b,1,none⟩) hB _
theorem string_any (B b:Nat) (s:ByteArray) (w:World) (h:IsB B b (Lib.strCells s) w) (hBw:B≤w.heap.size) :
  Calls Tryz.prog 165 #[.pointer (some ⟨b,0,none⟩)] w fun e w'=>e = .returned (.string s)∧Below B w w':=by
 exact Tryz.Builder_String_any B b s.data.toList w h hBw
end Fk
end
section
namespace Fk
open Go.RowKit
def ptrsV (b:Nat):List Value:=[.pointer (some ⟨b,0,none⟩),.pointer (some ⟨b,1,none⟩),.pointer (some ⟨b,2,none⟩),.pointer (some ⟨b,3,none⟩),.pointer (some ⟨b,4,none⟩),.pointer (some ⟨b,5,none⟩),.pointer (some ⟨b,6,none⟩),.pointer (some ⟨b,7,none⟩),.pointer (some ⟨b,8,none⟩),.pointer (some ⟨b,9,none⟩),.pointer (some ⟨b,10,none⟩),.pointer (some ⟨b,11,none⟩),.pointer (some ⟨b,12,none⟩),.pointer (some ⟨b,13,none⟩),.pointer (some ⟨b,14,none⟩),.pointer (some ⟨b,15,none⟩),.pointer (some ⟨b,16,none⟩)]
theorem numbers_any (b:Nat) (w:World):Calls Tryz.prog 187 #[.pointer (some ⟨b,0,none⟩)] w fun e w'=>e = .returned (.agg (ptrsV b).toArray)∧Below w.heap.size w w':=by
 have B1:=Hd ((Below.refl w.heap.size w).alloc (Nat.le_refl _) (.cells (ptrsV b).toArray 249));have C1:=Hd (cells_at w.drew (ptrsV b) 249 w.heap.size rfl);unfold ptrsV at B1 C1;go_enter Tryz.func187,Tryz.ntmps187
 go_wp2
 simp only [List.append_eq,List.cons_append,List.nil_append];go_still_tail 69,(by kernel_rfl)
 change wpList _ _ _ _ _ (World.drew _)
 go_wp2
 exact bodyPost_ret (results_cellF rfl rfl (by kernel_rfl) (by kernel_rfl) C1.out) rfl ⟨rfl,B1.out.drew⟩
end Fk
end
section
namespace Fk
open Go.RowKit
theorem ownsRow_later {w w':World} {B:Nat} {e:TypeId} {s:Nat} {v:Value} {n:Nat} {xs:List Value} (h:w.ownsRow B e s v n xs) (hb:Below w.heap.size w w'):w'.ownsRow B e s v n xs:=by
 obtain ⟨h1,h2⟩:=h;refine ⟨h1,?_⟩;rcases h2 with h2 | ⟨g,cap,cur,e1,e2,e3,e4⟩
 ·exact .inl h2
 exact .inr ⟨g,cap,cur,e1,e2,(hb.block g (gE e3).1).trans e3,e4⟩
theorem builderAt_later {w w':World} {B b:Nat} {p:Value} {bs:List Value} (h:Lib.BuilderAt 212 5 B b p bs w) (hb:Below w.heap.size w w'):Lib.BuilderAt 212 5 B b p bs w':=by
 obtain ⟨h1,v,h2,h3,h4⟩:=h;exact ⟨h1,v,(hb.block b (gE h2).1).trans h2,ownsRow_later h3 hb,h4⟩
theorem isB_later {w w':World} {B b:Nat} {bs:List Value} (h:IsB B b bs w) (hb:Below w.heap.size w w'):IsB B b bs w':=h.imp (fun q=>builderAt_later q hb) (fun q=>builderAt_later q hb)
theorem strCells_app (s t:ByteArray):Lib.strCells s ++ Lib.strCells t=Lib.strCells (s ++ t):=by
 unfold Lib.strCells;rw [←List.map_append];congr 1
theorem index_ptr0 (rb:Nat):∀w,(Instr.index 249 (.agg (ptrsV rb).toArray) (.int .i64 0)).run Tryz.prog w = .ok (.pointer (some ⟨rb,0,none⟩)) w:=fun _=>by kernel_rfl
theorem index_ptr1 (rb:Nat):∀w,(Instr.index 249 (.agg (ptrsV rb).toArray) (.int .i64 1)).run Tryz.prog w = .ok (.pointer (some ⟨rb,1,none⟩)) w:=fun _=>by kernel_rfl
theorem index_ptr2 (rb:Nat):∀w,(Instr.index 249 (.agg (ptrsV rb).toArray) (.int .i64 2)).run Tryz.prog w = .ok (.pointer (some ⟨rb,2,none⟩)) w:=fun _=>by kernel_rfl
theorem index_ptr3 (rb:Nat):∀w,(Instr.index 249 (.agg (ptrsV rb).toArray) (.int .i64 3)).run Tryz.prog w = .ok (.pointer (some ⟨rb,3,none⟩)) w:=fun _=>by kernel_rfl
theorem index_ptr4 (rb:Nat):∀w,(Instr.index 249 (.agg (ptrsV rb).toArray) (.int .i64 4)).run Tryz.prog w = .ok (.pointer (some ⟨rb,4,none⟩)) w:=fun _=>by kernel_rfl
theorem index_ptr5 (rb:Nat):∀w,(Instr.index 249 (.agg (ptrsV rb).toArray) (.int .i64 5)).run Tryz.prog w = .ok (.pointer (some ⟨rb,5,none⟩)) w:=fun _=>by kernel_rfl
theorem index_ptr6 (rb:Nat):∀w,(Instr.index 249 (.agg (ptrsV rb).toArray) (.int .i64 6)).run Tryz.prog w = .ok (.pointer (some ⟨rb,6,none⟩)) w:=fun _=>by kernel_rfl
theorem index_ptr7 (rb:Nat):∀w,(Instr.index 249 (.agg (ptrsV rb).toArray) (.int .i64 7)).run Tryz.prog w = .ok (.pointer (some ⟨rb,7,none⟩)) w:=fun _=>by kernel_rfl
theorem index_ptr8 (rb:Nat):∀w,(Instr.index 249 (.agg (ptrsV rb).toArray) (.int .i64 8)).run Tryz.prog w = .ok (.pointer (some ⟨rb,8,none⟩)) w:=fun _=>by kernel_rfl
theorem index_ptr9 (rb:Nat):∀w,(Instr.index 249 (.agg (ptrsV rb).toArray) (.int .i64 9)).run Tryz.prog w = .ok (.pointer (some ⟨rb,9,none⟩)) w:=fun _=>by kernel_rfl
theorem index_ptr10 (rb:Nat):∀w,(Instr.index 249 (.agg (ptrsV rb).toArray) (.int .i64 10)).run Tryz.prog w = .ok (.pointer (some ⟨rb,10,none⟩)) w:=fun _=>by kernel_rfl
theorem index_ptr11 (rb:Nat):∀w,(Instr.index 249 (.agg (ptrsV rb).toArray) (.int .i64 11)).run Tryz.prog w = .ok (.pointer (some ⟨rb,11,none⟩)) w:=fun _=>by kernel_rfl
theorem index_ptr12 (rb:Nat):∀w,(Instr.index 249 (.agg (ptrsV rb).toArray) (.int .i64 12)).run Tryz.prog w = .ok (.pointer (some ⟨rb,12,none⟩)) w:=fun _=>by kernel_rfl
theorem index_ptr13 (rb:Nat):∀w,(Instr.index 249 (.agg (ptrsV rb).toArray) (.int .i64 13)).run Tryz.prog w = .ok (.pointer (some ⟨rb,13,none⟩)) w:=fun _=>by kernel_rfl
theorem index_ptr14 (rb:Nat):∀w,(Instr.index 249 (.agg (ptrsV rb).toArray) (.int .i64 14)).run Tryz.prog w = .ok (.pointer (some ⟨rb,14,none⟩)) w:=fun _=>by kernel_rfl
theorem index_ptr15 (rb:Nat):∀w,(Instr.index 249 (.agg (ptrsV rb).toArray) (.int .i64 15)).run Tryz.prog w = .ok (.pointer (some ⟨rb,15,none⟩)) w:=fun _=>by kernel_rfl
theorem index_ptr16 (rb:Nat):∀w,(Instr.index 249 (.agg (ptrsV rb).toArray) (.int .i64 16)).run Tryz.prog w = .ok (.pointer (some ⟨rb,16,none⟩)) w:=fun _=>by kernel_rfl
theorem index_ptrs (rb:Nat) (j:Nat) (hj:j<17):∀w,(Instr.index 249 (.agg (ptrsV rb).toArray) (.int .i64 (j:Int))).run Tryz.prog w = .ok (.pointer (some ⟨rb,j,none⟩)) w:=by
 have h:j=0∨j=1∨j=2∨j=3∨j=4∨j=5∨j=6∨j=7∨j=8∨j=9∨j=10∨j=11∨j=12∨j=13∨j=14∨j=15∨j=16:=by omega
 rcases h with rfl | rfl | rfl | rfl | rfl | rfl | rfl | rfl | rfl | rfl | rfl | rfl | rfl | rfl | rfl | rfl | rfl
 ·exact index_ptr0 rb
 ·exact index_ptr1 rb
 ·exact index_ptr2 rb
 ·exact index_ptr3 rb
 ·exact index_ptr4 rb
 ·exact index_ptr5 rb
 ·exact index_ptr6 rb
 ·exact index_ptr7 rb
 ·exact index_ptr8 rb
 ·exact index_ptr9 rb
 ·exact index_ptr10 rb
 ·exact index_ptr11 rb
 ·exact index_ptr12 rb
 ·exact index_ptr13 rb
 ·exact index_ptr14 rb
 ·exact index_ptr15 rb
 exact index_ptr16 rb
end Fk
end
section
namespace Fk
open Go.RowKit
def putS (s:ByteArray):ByteArray:=if (65536:Int)<(s.size:Int) then ⟨#[]⟩ else putB (s.size:Int) ++ s
theorem putstr_any (s:ByteArray) (w:World):Calls Tryz.prog 188 #[.string s] w fun e w'=>∃(t:ByteArray) (er:Int),e = .returned (.tuple #[.string t,.int .i64 er])∧t=putS s∧t.size≤65546∧Below w.heap.size w w':=by
 have PI:=Hd (putint_any (s.size:Int) w);by_cases h:(65536:Int)<(s.size:Int)
 ·go_enter Tryz.func188,Tryz.ntmps188
  go_wp2
  go_ret2
  exact ⟨_,_,rfl,by unfold putS;rw [if_pos h],Nat.zero_le _,Below.refl _ _⟩
 go_enter Tryz.func188,Tryz.ntmps188
 go_wp2_with (go_at_call 105;refine PI.out.mono ?_;rintro e w1 ⟨t,er,rfl,h0,h1,h2,h3⟩;have B1:=Hd h3;have H0:=Hd h0;have H1:=Hd h1;clear h0 h1 h2 h3)
 all_goals first
  | (exfalso;have:=H1.out;omega)
  | (go_ret2;exact ⟨_,_,rfl,by unfold putS;rw [if_neg (show ¬(65536:Int)<(s.size:Int) by omega),H0.out],by rw [ByteArray.size_append];have:=H1.out;omega,B1.out⟩)
theorem putS_len (s:ByteArray):(putS s).size≤65546:=by
 unfold putS;split
 ·exact Nat.zero_le _
 rw [ByteArray.size_append];have:=putB_len (s.size:Int);omega
def encTo (f:PF):Nat→ByteArray
 | 0=>⟨#[]⟩
 | j+1=>encTo f j ++ putB (f.n j)
theorem encTo_len (f:PF):∀j,(encTo f j).size≤10 * j
 | 0=>Nat.le_refl _
 | j+1=>by
  show (encTo f j ++ putB (f.n j)).size≤_;rw [ByteArray.size_append];have:=encTo_len f j;have:=putB_len (f.n j);omega
theorem encTo_mono (f:PF):∀d j,(encTo f j).size≤(encTo f (j+d)).size
 | 0,j=>Nat.le_refl _
 | d+1,j=>by
  have:=encTo_mono f d j;show _≤(encTo f (j+d) ++ putB (f.n (j+d))).size;rw [ByteArray.size_append];omega
def encF (f:PF):ByteArray:=encTo f 17 ++ putS f.t
theorem encF_len (f:PF):(encF f).size≤65716:=by
 unfold encF;rw [ByteArray.size_append];have:=encTo_len f 17;have:=putS_len f.t;omega
theorem encF_pos {f:PF} (h:f.n 0=1):1≤(encF f).size:=by
 unfold encF;rw [ByteArray.size_append];have h1:=encTo_mono f 16 1;have h2:(encTo f 1).size=(putB (f.n 0)).size:=by
  show ((⟨#[]⟩:ByteArray) ++ putB (f.n 0)).size=_;rw [ByteArray.size_append];show 0+_=_;omega
 have h3:=putB_pos (n:=f.n 0) (by omega) (by omega);have:(encTo f (1+16)).size=(encTo f 17).size:=rfl;omega
def encR (f:PF) (b:Bool):ByteArray×Int:=if b then (encF f,0) else (⟨#[]⟩,50)
def EncE (f:PF) (b:Bool) (w:World) (e:Ending) (w':World):Prop:=e = .returned (.tuple #[.string (encR f b).1,.int .i64 (encR f b).2])∧Below w.heap.size w w'
theorem EncE.no {f:PF} {w w':World} (hb:Below w.heap.size w w'):EncE f false w (.returned (.tuple #[.string ⟨#[]⟩,.int .i64 50])) w':=⟨rfl,hb⟩
theorem EncE.yes {f:PF} {w w':World} {s:ByteArray} (h:s=encF f) (hb:Below w.heap.size w w'):EncE f true w (.returned (.tuple #[.string s,.int .i64 0])) w':=⟨by rw [h];rfl,hb⟩
structure ES (f:PF) (w:World) (bx bb rb:Nat) (s:ByteArray) (wr:World):Prop where
 bld:IsB w.heap.size bb (Lib.strCells s) wr
 rc:RecAt wr rb f.n f.t
 fc:FacAt wr bx f
 low:Below w.heap.size w wr
 n1:bx≠bb
 n2:rb≠bb
theorem ES.later {f:PF} {w:World} {bx bb rb:Nat} {s:ByteArray} {wr w':World} (h:ES f w bx bb rb s wr) (hb:Below wr.heap.size wr w'):ES f w bx bb rb s w':=
 ⟨isB_later h.bld hb,h.rc.later hb,h.fc.later hb,BelowN h.low hb (Nat.le_refl _),h.n1,h.n2⟩
theorem ES.write {f:PF} {w:World} {bx bb rb:Nat} {s t:ByteArray} {wr w':World} (h:ES f w bx bb rb s wr) (h1:IsB w.heap.size bb (Lib.strCells s ++ Lib.strCells t) w') (h2:Below w.heap.size wr w') (h3:Keeps bb wr w'):ES f w bx bb rb (s ++ t) w':=
 ⟨by rw [←strCells_app];exact h1,h3 _ _ _ _ h.rc h.n2 (by decide),h3 _ _ _ _ h.fc h.n1 (by decide),h.low.trans h2,h.n1,h.n2⟩
theorem encode_at (f:PF):∃b,(f.n 0=1→b=validP f)∧∀w,Calls Tryz.prog 141 #[.agg (encP f).toArray] w (EncE f b w):=by
 obtain ⟨b,hb1,hva⟩:=valid_at f;refine ⟨b,hb1,fun w=>?_⟩;have VA:=Hd hva;have F0:=Hd (FacAt.new w f);have B0:=Hd ((Below.refl w.heap.size w).alloc (Nat.le_refl _) (.cells (encP f).toArray 71));clear hva hb1;go_enter Tryz.func141,Tryz.ntmps141
 go_upto_region 1 with ((with_reducible refine wpList_boxL ?_ (box_agg _ _ _) ?_);focus rfl)
 obtain ⟨wa,hwa⟩:∃wa,wa=w.alloc (.cells (encP f).toArray 71):=⟨_,rfl⟩;obtain ⟨bx,hbx⟩:∃bx,bx=w.heap.size:=⟨_,rfl⟩;have HBX:=Hd hbx;rw [←hwa] at F0 B0 ⊢;rw [←HBX.out] at F0 ⊢;clear hwa hbx;have LD:=Hd (ld38 (ft_blk F0.out));obtain ⟨ag,hag⟩:∃ag,ag=(encP f).toArray:=⟨_,rfl⟩;have VA2:=Hd (show ∀w,Calls Tryz.prog 186 #[.agg ag] w (ValE b w) from by rw [hag];exact VA.out);rw [←hag] at LD;have HAG:=Hd hag;clear hag VA;rcases b with _ | _
 ·go_wp2_with (first
   | ((with_reducible refine wpList_loadL ?_ LD.out ?_);focus rfl)
   | (go_at_call 186;refine (VA2.out _).mono ?_;rintro e w1 ⟨rfl,h2⟩;have H2:=Hd h2;clear h2))
  go_ret2
  exact EncE.no (BelowN B0.out H2.out (Nat.le_refl _))
 go_upto_region 3 with (first
  | ((with_reducible refine wpList_loadL ?_ LD.out ?_);focus rfl)
  | (go_at_call 186;refine (VA2.out _).mono ?_;rintro e wk ⟨rfl,h2⟩;have H2:=Hd h2;clear h2))
 have FK:=Hd (F0.out.later H2.out);have BK:=Hd (BelowN B0.out H2.out (Nat.le_refl _));clear F0 B0 H2 VA2 LD;have BLD:=Hd (show (wk.alloc (.cells #[.pointer none,.slice none 0 0] 212)).heap[wk.heap.size]?=some (.cells #[.pointer none,.slice none 0 0] 212 (0,0)) from World.alloc_heap_new wk _);have BM:=Hd ((Below.refl wk.heap.size wk).alloc (Nat.le_refl _) (.cells #[.pointer none,.slice none 0 0] 212));have SM:=Hd (show (wk.alloc (.cells #[.pointer none,.slice none 0 0] 212)).heap.size=wk.heap.size+1 by simp);go_upto_region 4 with (fail)
 obtain ⟨wm,hwm⟩:∃wm,wm=wk.alloc (.cells #[.pointer none,.slice none 0 0] 212):=⟨_,rfl⟩;obtain ⟨bb,hbb⟩:∃bb,bb=wk.heap.size:=⟨_,rfl⟩;have HBB:=Hd hbb;rw [←hwm] at BLD BM SM ⊢;rw [←hbb] at BLD SM ⊢;clear hwm hbb;have FM:=Hd (FK.out.later BM.out);have LD:=Hd (ld38 (ft_blk FM.out));have BL:=Hd (bld71 f);have N1:=Hd (show RecAt (wm.alloc (.cells (encP f).toArray 247)) wm.heap.size f.n f.t∧Below wm.heap.size wm (wm.alloc (.cells (encP f).toArray 247)) from ⟨World.alloc_heap_new wm _,(Below.refl _ wm).alloc (Nat.le_refl _) _⟩);rw [←HAG.out] at LD BL N1;go_upto_region 5 with (first
  | ((with_reducible refine wpList_loadL ?_ LD.out ?_);focus rfl)
  | ((with_reducible refine wpList_build1L ?_ (BL.out _) ?_);focus rfl)
  | ((with_reducible refine wpList_boxL ?_ (box_agg _ _ _) ?_);focus rfl))
 obtain ⟨wr,hwr⟩:∃wr,wr=wm.alloc (.cells ag 247):=⟨_,rfl⟩;obtain ⟨rb,hrb⟩:∃rb,rb=wm.heap.size:=⟨_,rfl⟩;have HRB:=Hd hrb;rw [←hwr] at N1 ⊢;rw [←HRB.out] at ⊢;have BMK:=Hd (show Below w.heap.size w wm from BelowN BK.out BM.out (Nat.le_refl _));have E0:=Hd (show ES f w bx bb rb (encTo f 0) wr from
  ⟨.inl ⟨by rw [HBB.out];exact BK.out.size,_,(N1.out.2.block bb (by have:=SM.out;omega)).trans BLD.out,World.ownsRow_nil _ _ _ _,by simp [Value.ownBlock]⟩,
   by rw [HRB.out];exact N1.out.1,FM.out.later N1.out.2,BelowN BMK.out N1.out.2 (Nat.le_refl _),by have:=FK.out.lt;have:=HBB.out;omega,by have:=SM.out;have:=HRB.out;omega⟩)
 clear hwr hrb FM BLD BM SM FK BMK HBB LD BL N1 HRB BK;have NU:=Hd (numbers_any rb wr);unfold ptrsV at NU;go_upto_region 6 with (go_at_call 187;refine (NU.out).mono ?_;rintro e w3 ⟨rfl,h1⟩;have B3:=Hd h1;clear h1)
 have E3:=Hd (E0.out.later B3.out);clear NU B3 E0;go_loopg [7,8,9,20] 17 (fun gh v7 v8 v9 v20 w4=>∃(j:Nat),v20 = .int .i64 j∧j≤17∧17 - j≤gh∧Hid (ES f w bx bb rb (encTo f j) w4))
 case atStart=>exact ⟨0,rfl,by omega,by omega,E3⟩
 case round=>
  obtain ⟨j,rfl,hj,hg,HE⟩:=hrel;clear E3;have EL:=Hd (encTo_len f j);by_cases hlt:j<17
  ·have hltz:(j:Int)<17:=by omega
   have ix:=index_ptrs rb j hlt;unfold ptrsV at ix;have cj:=HE.out.rc.cell hlt;have PI:=Hd (fun W=>putint_any (f.n j) W);go_wp2_with (first
    | (go_at_call 105;refine (PI.out _).mono ?_;rintro e w5 ⟨s5,er,rfl,h0,h1,h2,h3⟩;have B5:=Hd h3;have S0:=Hd h0;have S5:=Hd h1;clear h0 h1 h2 h3;have E5:=Hd (HE.out.later B5.out))
    | (go_at_call 164;refine (write_any w.heap.size bb _ s5 _ E5.out.bld (by rw [Lib.strCells_length];have:=EL.out;have:=S5.out;omega) E5.out.low.size).mono ?_;rintro e w6 ⟨rfl,h6,h7,h8⟩;have E6:=Hd (E5.out.write h6 h7 h8);clear h6 h7 h8))
   go_roundg (17 - (j+1))
   case measure=>omega
   case rel=>exact ⟨j+1,by go_num,by omega,by omega,(show Hid _ from by have:=E6.out;rw [S0.out] at this;exact this)⟩
  have hltz:¬(j:Int)<17:=by omega
  obtain rfl:j=17:=by omega
  have c17:=HE.out.fc.cell (i:=17) rfl;have PI:=Hd (fun W=>putstr_any f.t W);go_wp2_with (first
   | (go_at_call 188;refine (PI.out _).mono ?_;rintro e w5 ⟨s5,er,rfl,h0,h1,h3⟩;have B5:=Hd h3;have S0:=Hd h0;have S5:=Hd h1;clear h0 h1 h3;have E5:=Hd (HE.out.later B5.out))
   | (go_at_call 164;refine (write_any w.heap.size bb _ s5 _ E5.out.bld (by rw [Lib.strCells_length];have:=EL.out;have:=S5.out;omega) E5.out.low.size).mono ?_;rintro e w6 ⟨rfl,h6,h7,h8⟩;have E6:=Hd (E5.out.write h6 h7 h8);clear h6 h7 h8)
   | (go_at_call 165;refine (string_any w.heap.size bb _ _ E6.out.bld E6.out.low.size).mono ?_;rintro e w7 ⟨rfl,h7⟩;have B7:=Hd h7;clear h7))
  go_ret2
  exact EncE.yes (by rw [S0.out];rfl) (E6.out.low.trans B7.out)
end Fk
end
section
namespace Fk
open Go.RowKit Go.Shelf Go.Lib Go.Sort
theorem ft_row {w:World} {ao:Option Addr} {L:List PF} (h:RowK 18 encP w ao L) {i:Nat} {f:PF} (hi:L[i]?=some f):∃b off,ao=some ⟨b,off,none⟩∧b<w.heap.size∧FtAt w ⟨b,off+i * 18,none⟩ f:=by
 obtain ⟨b,off,e,hb,hc⟩:=h i f hi;refine ⟨b,off,e,hb,fun j v hj=>?_⟩;rw [show (Addr.add ⟨b,off+i * 18,none⟩ j)=⟨b,off+i * 18+j,none⟩ from by unfold Addr.add;split <;> simp_all];exact hc j v hj
theorem FtAt.later {w w':World} {ad:Addr} {f:PF} (h:FtAt w ad f) (hl:ad.block<w.heap.size) (hb:Below w.heap.size w w'):FtAt w' ad f:=fun j v hj=>by
 rw [hb.cell (p:=ad.add j) (by unfold Addr.add;split <;> exact hl)];exact h j v hj
def put38 (w:World) (f:PF):World:=(w.alloc (.cells #[.int .i64 0,.int .i64 0,.int .i64 0,.int .i64 0,.int .i64 0,.int .i64 0,.int .i64 0,.int .i64 0,.int .i64 0,.int .i64 0,.int .i64 0,.int .i64 0,.int .i64 0,.int .i64 0,.int .i64 0,.int .i64 0,.int .i64 0,.string ⟨#[]⟩] 71)).setCells w.heap.size 0 (encP f)
theorem put38_at (w:World) (f:PF):FacAt (put38 w f) w.heap.size f:=st_heap (World.alloc_heap_new w _) rfl
theorem put38_below (w:World) (f:PF):Below w.heap.size w (put38 w f):=((Below.refl _ w).alloc (Nat.le_refl _) _).trans (st_below (Nat.le_refl _))
theorem put38_run (w:World) (f:PF):(Instr.storeAt 71 (.pointer (some ⟨w.heap.size,0,none⟩)) (.agg (encP f).toArray)).run Tryz.prog (w.alloc (.cells #[.int .i64 0,.int .i64 0,.int .i64 0,.int .i64 0,.int .i64 0,.int .i64 0,.int .i64 0,.int .i64 0,.int .i64 0,.int .i64 0,.int .i64 0,.int .i64 0,.int .i64 0,.int .i64 0,.int .i64 0,.int .i64 0,.int .i64 0,.string ⟨#[]⟩] 71)) = .ok () (put38 w f):=
 st_run (Tryz.sizeOf71 _) (World.alloc_heap_new w _) rfl
section
variable {P:Program} {ops:Array Oper} {Q:Exit→Act→World→Prop} {rest:List Oper} {a:Act} {w w':World} {dst:Option Tmp} {ty T:TypeId} {pos:String} {af:Array Edge} {x y:Operand} {p q v:Value}
theorem wpList_buildSlice1L {i n:Nat} (hx:a.eval x=p) (hrun:(Instr.buildSlice T n #[(i,p)]).run P w = .ok v w') (hK:wpList P ops Q rest (a.put dst v) w'):wpList P ops Q ({dst:=dst,op:=.buildSlice T n #[(i,x)],type:=ty,pos:=pos,after:=af,guard:=none} :: rest) a w:=by
 refine wpList_plain rfl fun K' hK'=>?_;unfold Oper.wp;simp [execOp,hx,hrun,Result.andThen];exact hK' _ _ hK
end
end Fk
end
section
namespace Fk
open Go.RowKit
def IdE (o:Option ByteArray) (w:World) (e:Ending) (w':World):Prop:=e = .returned (.tuple #[.string (o.getD ⟨#[]⟩),.int .i64 (if o.isSome=true then 0 else 50)])∧Below w.heap.size w w'
theorem IdE.no {w w':World} (hb:Below w.heap.size w w'):IdE none w (.returned (.tuple #[.string ⟨#[]⟩,.int .i64 50])) w':=⟨rfl,hb⟩
theorem IdE.yes {w w':World} {s:ByteArray} (hb:Below w.heap.size w w'):IdE (some s) w (.returned (.tuple #[.string s,.int .i64 0])) w':=⟨rfl,hb⟩
def idB (f:PF) (b:Bool):Option ByteArray:=if b=true then some (sumS (encF f)) else none
theorem id_at (f:PF):∃o:Option ByteArray,(∀id,o=some id→id.size=32)∧∀w,Glob w→Calls Tryz.prog 85 #[.agg (encP f).toArray] w (IdE o w):=by
 obtain ⟨b,_,hen⟩:=encode_at f;refine ⟨idB f b,fun id hid=>?_,fun w hG=>?_⟩
 ·unfold idB at hid;split at hid
  ·cases hid;exact sumS_size _
  cases hid
 have F0:=Hd (FacAt.new w f);have B0:=Hd ((Below.refl w.heap.size w).alloc (Nat.le_refl _) (.cells (encP f).toArray 71));have HL:=Hd (encF_len f);have HE:=Hd hen;have HG:=Hd hG;clear hen hG;go_enter Tryz.func85,Tryz.ntmps85
 go_upto_region 1 with ((with_reducible refine wpList_boxL ?_ (box_agg _ _ _) ?_);focus rfl)
 obtain ⟨wa,hwa⟩:∃wa,wa=w.alloc (.cells (encP f).toArray 71):=⟨_,rfl⟩;obtain ⟨bx,hbx⟩:∃bx,bx=w.heap.size:=⟨_,rfl⟩;have HBX:=Hd hbx;rw [←hwa] at F0 B0 ⊢;rw [←HBX.out] at F0 ⊢;clear hwa hbx;have LD:=Hd (ld38 (ft_blk F0.out));obtain ⟨ag,hag⟩:∃ag,ag=(encP f).toArray:=⟨_,rfl⟩;have HE2:=Hd (show ∀w,Calls Tryz.prog 141 #[.agg ag] w (EncE f b w) from by rw [hag];exact HE.out);rw [←hag] at LD;have HAG:=Hd hag;clear hag HE;obtain ⟨sf,hsf⟩:∃sf,sf=encF f:=⟨_,rfl⟩;cases b with
 | false=>
  have EN:=Hd (show ∀W,Calls Tryz.prog 141 #[.agg ag] W (fun e w'=>e = .returned (.tuple #[.string ⟨#[]⟩,.int .i64 50])∧Below W.heap.size W w') from HE2.out);clear HE2;go_wp2_with (first
   | ((with_reducible refine wpList_loadL ?_ LD.out ?_);focus rfl)
   | (go_at_call 141;(with_reducible refine (EN.out _).mono ?_);rintro e w2 ⟨rfl,h2⟩;have B2:=Hd (B0.out.trans (h2.mono B0.out.size));clear h2))
  go_ret2
  exact IdE.no B2.out
 | true=>
  have EN:=Hd (show ∀W,Calls Tryz.prog 141 #[.agg ag] W (fun e w'=>e = .returned (.tuple #[.string sf,.int .i64 0])∧Below W.heap.size W w') from by rw [hsf];exact HE2.out);have HID:=Hd (show idB f true=some (sumS sf) from by rw [hsf];rfl);rw [←hsf] at HL;clear HE2 hsf;go_wp2_with (first
   | ((with_reducible refine wpList_loadL ?_ LD.out ?_);focus rfl)
   | (go_at_call 141;(with_reducible refine (EN.out _).mono ?_);rintro e w2 ⟨rfl,h2⟩;have B2:=Hd (B0.out.trans (h2.mono B0.out.size));clear h2)
   | (go_at_call 72;(with_reducible refine (sum_any _ _ (by have:=HL.out;omega) (glob_below HG.out B2.out)).mono ?_);rintro e w3 ⟨rfl,h3⟩;have B3:=Hd (B2.out.trans (h3.mono B2.out.size));clear h3))
  go_ret2
  rw [HID.out];exact IdE.yes B3.out
noncomputable def idF (f:PF):Option ByteArray:=(id_at f).choose
theorem idF_size {f:PF} {id:ByteArray} (h:idF f=some id):id.size=32:=(id_at f).choose_spec.1 id h
theorem id_any (f:PF) (w:World) (hG:Glob w):Calls Tryz.prog 85 #[.agg (encP f).toArray] w (IdE (idF f) w):=(id_at f).choose_spec.2 w hG
structure SetAt (W:World) (x M:Nat) (S:List (ByteArray×PF)):Prop where
 ptr:W.heap[x]?=some (.cells #[.map (some M)] 143 (0,0))
 map:RawMap W M (S.map encFt)
 ne:x≠M
theorem SetAt.kept {W W':World} {x M:Nat} {S:List (ByteArray×PF)} (h:SetAt W x M S) (h1:W'.heap[x]?=W.heap[x]?) (h2:W'.heap[M]?=W.heap[M]?):SetAt W' x M S:=⟨h1.trans h.ptr,h.map.kept h2,h.ne⟩
theorem SetAt.lx {W:World} {x M:Nat} {S:List (ByteArray×PF)} (h:SetAt W x M S):x<W.heap.size:=(gE h.ptr).1
theorem SetAt.later {W W':World} {x M:Nat} {S:List (ByteArray×PF)} (h:SetAt W x M S) (hb:Below W.heap.size W W'):SetAt W' x M S:=h.kept (hb.block _ h.lx) (hb.block _ h.map.lt)
theorem new_set (w:World):Calls Tryz.prog 39 #[] w fun e w'=>∃x M,e = .returned (.pointer (some ⟨x,0,none⟩))∧SetAt w' x M []∧Below w.heap.size w w'∧w.heap.size≤x∧w.heap.size≤M:=by
 go_enter Tryz.func39,Tryz.ntmps39
 have B1:=(Below.refl w.heap.size w).alloc (Nat.le_refl _) (.map #[] 0);have B2:=B1.alloc (by simp) (.cells #[.map (some w.heap.size)] 143);have M1:=RawMap.made w;have hM:RawMap ((w.alloc (.map #[] 0)).alloc (.cells #[.map (some w.heap.size)] 143)) w.heap.size []:=M1.kept (Below.heap_alloc _ _ _ (by simp));have hP:((w.alloc (.map #[] 0)).alloc (.cells #[.map (some w.heap.size)] 143)).heap[w.heap.size+1]?=some (.cells #[.map (some w.heap.size)] 143 (0,0)):=by
  have:=World.alloc_heap_new (w.alloc (.map #[] 0)) (.cells #[.map (some w.heap.size)] 143);rw [World.size_alloc] at this;exact this
 have MM:(Instr.makeMap 141 none).run Tryz.prog w = .ok (.map (some w.heap.size)) (w.alloc (.map #[] 0)):=by kernel_rfl
 go_wp2
 go_ret;exact ⟨w.heap.size+1,w.heap.size,rfl,⟨hP,hM,by omega⟩,B2,by omega,Nat.le_refl _⟩
end Fk
end
end Go.Proofs.YtifcdjmcoibblaaGreatDoor
