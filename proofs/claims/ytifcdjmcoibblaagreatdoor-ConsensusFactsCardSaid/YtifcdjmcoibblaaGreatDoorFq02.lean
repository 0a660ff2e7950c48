/- Range Add Dig Byt -/
import Derived.RangeFuncNested
import Derived.RangeFuncLeaves
import Derived.Shelf.Abstract
import Derived.WalkKit
import Derived.OwnWalkIn
import Derived.TacticsInMore
import Derived.LoopNIn
import Derived.LoopIn
import Derived.Maps.OwnIn
import Derived.Lib.Hide
import Derived.Test.YtifcdjmcoibblaaGreatDoorFq01
import Derived.Laws.CopyOwn
import Derived.RegionTactic
import Derived.Laws.BytesArg
import Derived.Lib.ConvBytes
import Derived.Laws.AppendOwn
import Derived.Below
set_option linter.unusedVariables false
set_option linter.unusedSimpArgs false
set_option linter.unusedSectionVars false
set_option maxRecDepth 100000
set_option maxHeartbeats 80000000
namespace Go.Proofs.YtifcdjmcoibblaaGreatDoor
section
open Go.RowKit
structure Chg (C:Nat→Prop) (W W':World):Prop where
 os:W'.os=W.os
 tape:W'.tape=W.tape
 output:W'.output=W.output
 size:W.heap.size≤W'.heap.size
 block:∀k,k<W.heap.size→¬C k→W'.heap[k]?=W.heap[k]?
theorem Chg.refl (C:Nat→Prop) (W:World):Chg C W W:=⟨rfl,rfl,rfl,Nat.le_refl _,fun _ _ _=>rfl⟩
theorem Chg.mono {C C':Nat→Prop} {W W':World} (h:Chg C W W') (hc:∀k,k<W.heap.size→C k→C' k):Chg C' W W':=⟨h.os,h.tape,h.output,h.size,fun k hk hn=>h.block k hk (fun c=>hn (hc k hk c))⟩
theorem Chg.trans {C:Nat→Prop} {X Y Z:World} (h:Chg C X Y) (h2:Chg (fun k=>C k∨X.heap.size≤k) Y Z):Chg C X Z:=
 ⟨h2.os.trans h.os,h2.tape.trans h.tape,h2.output.trans h.output,Nat.le_trans h.size h2.size,fun k hk hn=>(h2.block k (Nat.lt_of_lt_of_le hk h.size) (fun c=>by rcases c with c | c;exact hn c;omega)).trans (h.block k hk hn)⟩
theorem Chg.alloc (C:Nat→Prop) (W:World) (o:Obj):Chg C W (W.alloc o):=⟨rfl,rfl,rfl,by simp,fun k hk _=>Below.heap_alloc W o k hk⟩
theorem Chg.drew (C:Nat→Prop) (W:World):Chg C W W.drew:=⟨rfl,rfl,rfl,Nat.le_refl _,fun _ _ _=>rfl⟩
theorem Chg.grown {C:Nat→Prop} {W W':World} {row:Option Nat} (h:W.grownBy W' row) (hc:∀k,row=some k→C k):Chg C W W':=⟨h.os,h.tape,h.output,h.size,fun k hk hn=>h.block k hk (fun e=>hn (hc k e.symm))⟩
theorem Chg.of_below {C:Nat→Prop} {B:Nat} {W W':World} (h:Below B W W') (hc:∀k,B≤k→k<W.heap.size→C k):Chg C W W':=
 ⟨h.os,h.tape,h.output,h.size,fun k hk hn=>h.block k (by rcases Nat.lt_or_ge k B with h1 | h1;exact h1;exact absurd (hc k h1 hk) hn)⟩
theorem Chg.below {C:Nat→Prop} {B:Nat} {W W':World} (h:Chg C W W') (hB:B≤W.heap.size) (hc:∀k,C k→B≤k):Below B W W':=
 ⟨h.os,h.tape,h.output,h.size,fun k hk=>h.block k (by omega) (fun c=>by have:=hc k c;omega)⟩
theorem Chg.put {C:Nat→Prop} (W:World) (l:Nat) (o:Obj) (hc:C l):Chg C W (W.putObj l o):=Chg.grown (grownBy_putObj' W l o) (fun k e=>by cases e;exact hc)
theorem Chg.cell {C:Nat→Prop} {W W':World} (h:Chg C W W') {p:Addr} {v:Value} (hv:W.cell? p=some v) (hn:¬C p.block):W'.cell? p=some v:=by
 rw [World.cell?_of_block (w:=W) (h.block p.block (World.block_lt_of_cell? _ _ hv) hn)];exact hv
theorem wide_call {n:Nat} {P:Program} {f:FuncId} {args:Array Value} {w:World} {R R':Ending→World→Prop} (h:Calls P f args w R) (hR:∀e w',R e w'→R' e w'):Fence.wide.fn f∧(Fence.wide.depth.isSome=true→1≤n)∧CallsIn Fence.wide (n - 1) P f args w R':=
 ⟨trivial,fun h=>absurd h (by simp [Fence.wide]),(callsIn_wide.2 h).mono hR⟩
theorem wide_callR {l n:Nat} {P:Program} {f:FuncId} {args:Array Value} {w:World} {R R':Ending→World→Prop} (h:Calls P f args w R) (hR:∀e w',R e w'→R' e w'):(Fence.wide.inRound l).fn f∧((Fence.wide.inRound l).depth.isSome=true→1≤n)∧CallsIn (Fence.wide.inRound l) (n - 1) P f args w R':=
 ⟨trivial,fun h=>absurd h (by simp [Fence.wide,Fence.inRound]),((callsIn_wide.2 h).inRound l).mono hR⟩
def SeqAll {α:Type} (n:Nat) (P:Program) (g:Nat) (lb:Array Value) (encs:α→Array Value) (X:Nat→Prop) (xs:List α) (w:World):Prop:=
 ∀(l:Nat) (J:List α→(Nat→Prop)→World→Prop) (O:Nat→Prop) (W:World),Below w.heap.size w W→(∀k,O k→k<w.heap.size∧¬X k) →
  (∀s O A B C,J s O A→Chg C A B→(∀k,C k→W.heap.size≤k∧¬O k)→J s O B) →
  (∀pre x rest O1 W1,xs=pre ++ x :: rest→J pre O1 W1→YieldAt Fence.wide (n - 1) P l (encs x) W1 fun e W'=>
   e = .returned (.bool true)∧∃O2,J (pre ++ [x]) O2 W'∧Chg O1 W1 W'∧∀k,O2 k→O1 k∨W1.heap.size≤k) →
  J [] O W →
  CallsIn Fence.wide n P g (#[.func (.yield l) #[] #[]] ++ lb) W fun e W'=>(∃v,e = .returned v)∧∃O',J xs O' W'
def roundEnd {α:Type} (I:List α→(Nat→Prop)→World→Prop) (xs:List α) (O:Nat→Prop) (W:World):Exit→Act→World→Prop
 | .normal,_,W'=>∃O',I xs O' W'∧Chg O W W'∧∀k,O' k→O k∨W.heap.size≤k
 | _,_,_=>False
theorem wpIn_range_all {α:Type} {n:Nat} {P:Program} {g:Operand} {ps:Array Tmp} {assign body:Code} {Q:Exit→Act→World→Prop} {a:Act} {w:World}
  {gf:Nat} {lb:Array Value} (hg:a.eval g = .func (.func gf) #[] lb) (eg:∀args w,(callFunc gf args).run P w = .ok (.enter gf args) w)
  {encs:α→Array Value} {X:Nat→Prop} {xs:List α} (hseq:SeqAll (n - 1) P gf lb encs X xs w) (hps:∀x,(encs x).size=ps.size)
  (I:List α→(Nat→Prop)→World→Prop) (O0:Nat→Prop) (hO0:∀k,O0 k→k<w.heap.size∧¬X k)
  (hI:∀s O A B C,I s O A→Chg C A B→(∀k,C k→w.heap.size≤k∧¬O k)→I s O B) (h0:I [] O0 w)
  (M:List α→α→Act→(Nat→Prop)→World→Prop) (hM:∀s x a' O A B C,M s x a' O A→Chg C A B→(∀k,C k→w.heap.size≤k∧¬O k)→M s x a' O B)
  (hassign:∀(l:Nat) (pre:List α) (x:α) (rest:List α) (O:Nat→Prop) (W:World) (K:Act→World→Prop),xs=pre ++ x :: rest→I pre O W→(∀a' O' W',M pre x a' O' W'→Chg O W W'→(∀k,O' k→O k∨W.heap.size≤k)→K a' W') →
   assign.wpIn (Fence.wide.inRound l) (n - 1 - 1) P (Exit.then K (fun _ _ _=>False)) {tmps:=(ps.zip (encs x)).foldl (fun t (p,v)=>t.setIfInBounds p v) a.tmps,defers:=[]} W)
  (hbody:∀(l:Nat) (pre:List α) (x:α) (rest:List α) (a':Act) (O:Nat→Prop) (W:World),xs=pre ++ x :: rest→M pre x a' O W→body.wpIn (Fence.wide.inRound l) (n - 1 - 1) P (roundEnd I (pre ++ [x]) O W) a' W)
  (hdone:∀(D:Nat) (O:Nat→Prop) (W:World),w.heap.size≤D→¬O D→I xs O W→W.heap[D]?=some (.deferred (some []))→Q .normal {a with defers:={target:=.collected D,args:=#[]} :: a.defers} W) :
  (Code.rangeFunc g ps assign body).wpIn Fence.wide n P Q a w:=by
 refine wpIn_rangeFunc ?_;intro fn hfn;rw [show Fence.wide.round=none from rfl];obtain ⟨rc,hrc⟩:∃rc:LoopState→Loop,rc=fun st=>{state:=st,pending:=none,fn,tmps:=a.tmps,params:=ps,assign,body,defers:=w.heap.size}:=⟨_,rfl⟩;obtain ⟨V,hV⟩:∃V,(w.alloc (.deferred (some []))).alloc (.loop (rc .ready))=V:=⟨_,rfl⟩;have hVs:V.heap.size=w.heap.size+2:=by rw [←hV];simp
 have hVl:V.heap[w.heap.size+1]?=some (.loop (rc .ready)):=by
  rw [←hV];have:=World.alloc_heap_new (w.alloc (.deferred (some []))) (.loop (rc .ready));rwa [World.size_alloc] at this
 have hVd:V.heap[w.heap.size]?=some (.deferred (some [])):=by
  rw [←hV,Below.heap_alloc _ _ _ (by simp)];exact World.alloc_heap_new w _
 have hcV:Chg (fun _=>False) w V:=by rw [←hV];exact (Chg.alloc _ _ _).trans (Chg.alloc _ _ _)
 have hIV:I [] O0 V:=hI _ _ _ _ _ h0 hcV (fun k h=>h.elim);refine ⟨w.heap.size+1,[{target:=.collected w.heap.size,args:=#[]}],V,{target:=.fn (.func gf) lb,args:=#[.func (.yield (w.heap.size+1)) #[] #[]]},V,gf,
  #[.func (.yield (w.heap.size+1)) #[] #[]] ++ lb,V,?_,?_,fun _ _=>trivial,?_,fun h=>by simp [Fence.wide] at h,?_⟩
 ·rw [←hV,hrc];exact run_enterLoop_outer _ _ _ _ _
 ·simp only [resolve,hg];simp [go_sem]
 ·simp [invoke,go_sem,eg]
 refine (hseq (w.heap.size+1)
  (fun pre O W=>I pre O W∧W.heap[w.heap.size+1]?=some (.loop (rc .ready))∧W.heap[w.heap.size]?=some (.deferred (some []))∧¬O (w.heap.size+1)∧¬O w.heap.size)
  O0 V (hcV.below (Nat.le_refl _) (fun k h=>h.elim)) hO0 ?_ ?_ ⟨hIV,hVl,hVd,fun h=>by have:=(hO0 _ h).1;omega,fun h=>by have:=(hO0 _ h).1;omega⟩).mono ?_
 ·rintro s O A B C ⟨h1,h2,h3,h4,h5⟩ hc hC;refine ⟨hI _ _ _ _ _ h1 hc (fun k hk=>⟨by have:=(hC k hk).1;omega,(hC k hk).2⟩),?_,?_,h4,h5⟩
  ·rw [hc.block _ (gE h2).1 (fun h=>by have:=(hC _ h).1;omega)];exact h2
  rw [hc.block _ (gE h3).1 (fun h=>by have:=(hC _ h).1;omega)];exact h3
 ·rintro pre x rest O W hxs ⟨hi,hl,hd,nl,nd⟩;have hlt:w.heap.size+1<W.heap.size:=(gE hl).1;have hy:=run_yield (P:=P) (args:=encs x) hl (by rw [hrc];exact hps x);rw [hrc] at hy;refine ⟨fn,_,assign,body,hy,roundIn_of_wpIn hfn (hassign _ pre x rest O W _ hxs hi ?_)⟩;intro a' Oa Wa hm hca hoa;have hla:Wa.heap[w.heap.size+1]?=some (.loop (rc .ready)):=by rw [hca.block _ hlt nl];exact hl
  have hda:Wa.heap[w.heap.size]?=some (.deferred (some [])):=by rw [hca.block _ (by omega) nd];exact hd
  have hlta:=(gE hla).1;have nla:¬Oa (w.heap.size+1):=fun h=>by rcases hoa _ h with h | h;exact nl h;omega
  have nda:¬Oa w.heap.size:=fun h=>by rcases hoa _ h with h | h;exact nd h;omega
  refine ⟨_,run_beginRound hla (by rw [hrc]),?_⟩;obtain ⟨V2,hV2⟩:∃V2,Wa.putObj (w.heap.size+1) (.loop {rc .ready with state:=.busy})=V2:=⟨_,rfl⟩;have hl2:V2.heap[w.heap.size+1]?=some (.loop (rc .busy)):=by rw [←hV2,World.putObj_heap_same hlta,hrc]
  have hd2:V2.heap[w.heap.size]?=some (.deferred (some [])):=by rw [←hV2,World.putObj_heap_other (by omega)];exact hda
  have hc2:Chg (fun k=>k=w.heap.size+1) Wa V2:=by rw [←hV2];exact Chg.put _ _ _ rfl
  have hs2:V2.heap.size=Wa.heap.size:=by rw [←hV2];simp
  rw [hV2];have hm2:=hM _ _ _ _ _ _ _ hm hc2 (fun k hk=>by subst hk;exact ⟨by omega,nla⟩);refine wpIn_mono (hbody _ pre x rest a' Oa V2 hxs hm2) ?_;rintro e a3 W3 hp;have hsa:=hca.size;cases e with
  | normal=>
   obtain ⟨O',hi3,hc3,ho3⟩:=hp;have hl3:W3.heap[w.heap.size+1]?=some (.loop (rc .busy)):=by rw [hc3.block _ (by omega) nla];exact hl2
   have hd3:W3.heap[w.heap.size]?=some (.deferred (some [])):=by rw [hc3.block _ (by omega) nda];exact hd2
   have hlt3:=(gE hl3).1;have nl':¬O' (w.heap.size+1):=fun h=>by rcases ho3 _ h with h | h;exact nla h;omega
   have nd':¬O' w.heap.size:=fun h=>by rcases ho3 _ h with h | h;exact nda h;omega
   have her:({rc .busy with state:=if (none:Option Code).isNone then .ready else .done,pending:=none}:Loop)=rc .ready:=by rw [hrc];rfl
   have hre:=run_endRound (P:=P) none hl3;rw [her] at hre;refine ⟨_,_,hre,rfl,O',⟨hI _ _ _ _ (fun k=>k=w.heap.size+1) hi3 (Chg.put _ _ _ rfl) (fun k hk=>by subst hk;exact ⟨by omega,nl'⟩),World.putObj_heap_same hlt3,by rw [World.putObj_heap_other (by omega)];exact hd3,nl',nd'⟩,?_,fun k hk=>?_⟩
   ·refine ⟨hc3.os.trans (hc2.os.trans hca.os),hc3.tape.trans (hc2.tape.trans hca.tape),hc3.output.trans (hc2.output.trans hca.output),by rw [World.putObj_size];have:=hc3.size;omega,fun k hk hn=>?_⟩;by_cases e:k=w.heap.size+1
    ·subst e;rw [World.putObj_heap_same hlt3];exact hl.symm
    rw [World.putObj_heap_other e,hc3.block k (by omega) (fun h=>by rcases hoa k h with h | h;exact hn h;omega),hc2.block k (by omega) e,hca.block k hk hn]
   ·rcases ho3 k hk with h | h
    ·exact hoa k h
    ·exact .inr (by omega)
  | ret=>exact hp.elim
  | exit id=>exact hp.elim
  | goto t=>exact hp.elim
  | panic ch=>exact hp.elim
  | outgrown=>exact hp.elim
 rintro e W2 ⟨⟨v,rfl⟩,O',hi,hl,hd,nl,nd⟩;have hre:=run_endLoop (P:=P) hl (by rw [hrc];simp);rw [show (rc .ready).pending=none by rw [hrc]] at hre;refine ⟨none,_,hre,hdone _ O' _ (Nat.le_refl _) nd (hI _ _ _ _ (fun k=>k=w.heap.size+1) hi (Chg.put _ _ _ rfl) (fun k hk=>by subst hk;exact ⟨by omega,nl⟩)) ?_⟩;rw [World.putObj_heap_other (by omega)];exact hd
end
section
open Go.RowKit
def Glob (w:World):Prop:=∃t:TypeId×(Nat×Nat),w.heap[0]?=some (.cells (rowW 64 kW) t.1 t.2)
theorem Glob.kept {w w':World} (h:Glob w) (e:w'.heap[0]?=w.heap[0]?):Glob w':=by obtain ⟨t,q⟩:=h;exact ⟨t,e.trans q⟩
theorem Glob.pos {w:World} (h:Glob w):0<w.heap.size:=by obtain ⟨t,q⟩:=h;exact (gE q).1
theorem Glob.later {w w':World} (h:Glob w) (hb:Below w.heap.size w w'):Glob w':=h.kept (hb.block 0 h.pos)
theorem run_index_arr {P:Program} (t e:TypeId) (n:Nat) (cs:Array Value) (i:Nat) (v:Value) (w:World) (h:P.underlying t=some (.array n e)) (hs:(P.info? e).map (·.size)=some 1) (hi:i<n) (hv:cs[i]?=some v) (hg:(isAgg e).run P w = .ok false w) :
  (Instr.index t (.agg cs) (.int .i64 (i:Int))).run P w = .ok v w:=by
 have h1:(0:Int)≤(i:Int)∧(i:Int)<(n:Int):=by omega
 rcases hq:P.info? e with _ | j
 ·rw [hq] at hs;cases hs
 have hj:j.size=1:=by rw [hq] at hs;simpa using hs
 simp [Instr.index,run_underlying h,asIntOf,h1,hg,hi,sizeOf,typeInfo,hq,hj,part,hv]
structure Only (g:Nat) (w w':World):Prop where
 os:w'.os=w.os
 tape:w'.tape=w.tape
 output:w'.output=w.output
 size:w'.heap.size=w.heap.size
 block:∀k,k≠g→w'.heap[k]?=w.heap[k]?
theorem Only.below {g B:Nat} {w0 w w':World} (h:Only g w w') (hb:Below B w0 w) (hg:B≤g):Below B w0 w':=
 ⟨h.os.trans hb.os,h.tape.trans hb.tape,h.output.trans hb.output,by rw [h.size];exact hb.size,fun k hk=>(h.block k (by omega)).trans (hb.block k hk)⟩
theorem Only.chg {g:Nat} {w0 w w':World} {C:Nat→Prop} (h:Only g w w') (hb:Chg C w0 w) (hg:C g∨w0.heap.size≤g):Chg C w0 w':=
 ⟨h.os.trans hb.os,h.tape.trans hb.tape,h.output.trans hb.output,by rw [h.size];exact hb.size,fun k hk hn=>(h.block k (fun e=>by
  subst e;rcases hg with q | q
  ·exact hn q
  omega)).trans (hb.block k hk hn)⟩
theorem only_setRow (w:World) (g:Nat) (cs:Array Value):Only g w (w.setRow g cs):=⟨rfl,rfl,rfl,size_setRow w g cs,fun k hk=>setRow_other w g k cs hk⟩
theorem only_set (w:World) (g i:Nat) (v:Value):Only g w (w.setCell ⟨g,i,none⟩ v):=⟨rfl,rfl,rfl,by simp,fun k hk=>heap_setCell_other w ⟨g,i,none⟩ k v hk⟩
theorem wpList_store_op {P:Program} {ops:Array Oper} {rest:List Oper} {o:Oper} {a:Act} {w:World} {Q:Exit→Act→World→Prop} (hgd:o.guard=none) (ty:TypeId) (x y:Operand) (ho:o.op = .store ty x y)
  (g:Nat) (cells:Array Value) (hx:a.eval x = .pointer (some ⟨g,0,none⟩)) (hy:a.eval y = .agg cells)
  (t:TypeId) (old:Array Value) (hg:w.heap[g]?=some (.cells old t (0,0))) (hi:(P.info? ty).map (·.size)=some cells.size)
  (hold:old.size=cells.size) (h1:cells.all (·.oneCell')=true)
  (h:∀w',w'.heap[g]?=some (.cells cells t (0,0))→Only g w w'→wpList P ops Q rest (a.put o.dst undef) w'):wpList P ops Q (o :: rest) a w:=
 wpList_store_row hgd ty x y ho g cells hx hy t old hg hi hold h1 (h _ (setRow_heap w g old cells t _ hg) (only_setRow w g cells))
theorem made_blk {w w1 w2:World} {o:Obj} (hb:Below w.heap.size w w1) (ho:Only w1.heap.size (w1.alloc o) w2):Below w.heap.size w w2∧w2.heap.size=w1.heap.size+1∧(∀k,k<w1.heap.size→w2.heap[k]?=w1.heap[k]?):=
 ⟨ho.below (hb.alloc hb.size o) hb.size,by rw [ho.size,World.size_alloc],fun k hk=>(ho.block k (by omega)).trans (Below.heap_alloc w1 o k hk)⟩
def hAdd (h v:List Wd) (k:Nat):List Wd:=(List.range 8).map fun i=>if i<k then h.getD i 0+v.getD i 0 else h.getD i 0
theorem hAdd_len (h v:List Wd) (k:Nat):(hAdd h v k).length=8:=by unfold hAdd;simp
theorem hAdd_zero {h:List Wd} (hl:h.length=8) (v:List Wd):hAdd h v 0=h:=by
 apply List.ext_getElem
 ·rw [hAdd_len,hl]
 intro i h1 h2;unfold hAdd;simp [List.getD_eq_getElem?_getD,h2]
theorem hAdd_get (h v:List Wd) (k:Nat) {i:Nat} (hi:i<8):(hAdd h v k)[i]?=some (if i<k then h.getD i 0+v.getD i 0 else h.getD i 0):=by
 unfold hAdd;rw [List.getElem?_map,List.getElem?_range hi];rfl
theorem hAdd_set (h v:List Wd) {k:Nat} (hk:k<8):(rowW 8 (hAdd h v k)).setIfInBounds k (eW (h.getD k 0+v.getD k 0))=rowW 8 (hAdd h v (k+1)):=by
 unfold rowW;rw [hAdd_len,hAdd_len,List.setIfInBounds_toArray];congr 1
 simp only [Nat.sub_self,List.replicate_zero,List.append_nil];apply List.ext_getElem?;intro i;rw [List.getElem?_set,List.getElem?_map,List.getElem?_map];rcases Nat.lt_or_ge i 8 with q | q
 ·rw [hAdd_get _ _ _ q,hAdd_get _ _ _ q];by_cases e:k=i
  ·subst e;simp [hAdd_len,hk]
  have:(i<k+1)=(i<k):=propext ⟨fun a=>by omega,fun a=>by omega⟩;simp [e,this]
 have h1:(hAdd h v k)[i]?=none:=by rw [List.getElem?_eq_none];rw [hAdd_len];exact q
 have h2:(hAdd h v (k+1))[i]?=none:=by rw [List.getElem?_eq_none];rw [hAdd_len];exact q
 have:¬k=i:=by omega
 simp [h1,h2,this]
theorem hAdd_all (h v:List Wd):hAdd h v 8=(List.range 8).map fun i=>h.getD i 0+v.getD i 0:=by
 unfold hAdd;refine List.map_congr_left fun i hi=>?_;rw [if_pos (List.mem_range.1 hi)]
theorem eight {l:List Wd} (h:l.length=8):∃a b c d e f g i,l = [a,b,c,d,e,f,g,i]:=by
 match l,h with
 | [a,b,c,d,e,f,g,i],_=>exact ⟨a,b,c,d,e,f,g,i,rfl⟩
theorem notW (x:Wd):bits BinOp.xor IntKind.u32 IntKind.u32.max ((x.toNat:Nat):Int)=(((~~~x).toNat:Nat):Int):=by
 have h:IntKind.u32.max=(((BitVec.allOnes 32).toNat:Nat):Int):=by decide
 rw [h,xorW,BitVec.allOnes_xor]
theorem t_eq (v4 v5 v6 v7 kk wk:Wd):IntKind.u32.wrap (IntKind.u32.wrap (IntKind.u32.wrap (IntKind.u32.wrap (((v7.toNat:Nat):Int)+(((mx3 v4 6 11 25).toNat:Nat):Int))+bits BinOp.xor IntKind.u32 (bits BinOp.and IntKind.u32 ((v4.toNat:Nat):Int) ((v5.toNat:Nat):Int)) (bits BinOp.and IntKind.u32 (bits BinOp.xor IntKind.u32 IntKind.u32.max ((v4.toNat:Nat):Int)) ((v6.toNat:Nat):Int)))+((kk.toNat:Nat):Int))+((wk.toNat:Nat):Int))=(((v7+bs1 v4+chW v4 v5 v6+kk+wk).toNat:Nat):Int):=by
 rw [notW,andW,andW,xorW,wrap_addW,wrap_addW,wrap_addW,wrap_addW];rfl
theorem u_eq (v0 v1 v2:Wd):IntKind.u32.wrap ((((mx3 v0 2 13 22).toNat:Nat):Int)+bits BinOp.xor IntKind.u32 (bits BinOp.xor IntKind.u32 (bits BinOp.and IntKind.u32 ((v0.toNat:Nat):Int) ((v1.toNat:Nat):Int)) (bits BinOp.and IntKind.u32 ((v0.toNat:Nat):Int) ((v2.toNat:Nat):Int))) (bits BinOp.and IntKind.u32 ((v1.toNat:Nat):Int) ((v2.toNat:Nat):Int)))=(((bs0 v0+majW v0 v1 v2).toNat:Nat):Int):=by
 rw [andW,andW,andW,xorW,xorW,wrap_addW];rfl
theorem copy_src {w0 w:World} {B:Nat} {v0 v1 v2 v3 v4 v5 v6 v7:Wd} {t:TypeId} (h:K2 t w0 B (rowW 8 [v0,v1,v2,v3,v4,v5,v6,v7]) w):∀(j:Nat) (v:Value),([v0,v1,v2,v3,v4,v5,v6].map eW)[j]?=some v→w.cell? ((⟨B,0,none⟩:Addr).add j)=some v:=fun j v hv=>by
 have e:(Addr.add ⟨B,0,none⟩ j)=⟨B,j,none⟩:=by unfold Addr.add;split <;> simp_all
 rw [e];refine h.cell ?_;have hj:j<7:=by have:=(List.getElem?_eq_some_iff.1 hv).1;simpa using this
 rcases j with _ | _ | _ | _ | _ | _ | _ | j
 all_goals first | exact hv | omega
theorem copy_one (l:List Wd):∀v∈l.map eW,v.oneCell'=true:=fun v hv=>by
 obtain ⟨x,_,rfl⟩:=List.mem_map.1 hv;rfl
theorem add_any (hb:Nat) (hs:List Wd) (ao:Option Addr) (cap:Nat) (bs:List Nat) (w:World) (hh:hs.length=8) (hblk:w.heap[hb]?=some (.cells (rowW 8 hs) 172 (0,0))) (hG:Glob w) (hln:bs.length=64) (hlt:∀n∈bs,n<256) (hrow:RowK 1 encB w ao bs) :
  Calls Tryz.prog 130 #[.pointer (some ⟨hb,0,none⟩),.slice ao 64 cap] w fun e w'=>e = .returned (.tuple #[])∧w'.heap[hb]?=some (.cells (rowW 8 (blockW hs bs)) 172 (0,0))∧Chg (fun k=>k=hb) w w':=by
 have SCH:=Hd (schedule_any ao cap bs w hln hlt hrow);have HH:=Hd hh;have HB:=Hd hblk;have HG:=Hd hG;have HS:=Hd (sched_len bs 64);have HI64:=Hd (show ∀l:List Wd,l.length=64→(Tryz.prog.info? 233).map (·.size)=some (rowW 64 l).size from fun l q=>by rw [rowW_size (by omega)];kernel_rfl);have HI8:=Hd (show ∀l:List Wd,l.length=8→(Tryz.prog.info? 172).map (·.size)=some (rowW 8 l).size from fun l q=>by rw [rowW_size (by omega)];kernel_rfl);have hlb:hb<w.heap.size:=(gE hblk).1;have HLB:=Hd hlb;clear hblk hG hln hlt hrow hh;obtain ⟨ws,hws⟩:∃ws,sched bs 64=ws:=⟨_,rfl⟩;rw [hws] at SCH HS;have BW:=Hd (show blockW hs bs=(List.range 8).map fun i=>hs.getD i 0+(roundsW ws hs 64).getD i 0 from by unfold blockW;rw [hws]);clear hws hlb;go_enter Tryz.func130,Tryz.ntmps130
 obtain ⟨⟨tg,tf⟩,hg0⟩:=HG.out;have HG0:=Hd hg0;have hg1:=HG.out.pos;clear hg0;go_wp2_with (first
  | (go_at_call 179;(with_reducible refine SCH.out.mono ?_);rintro e w1 ⟨rfl,hb1⟩;have HB1:=Hd hb1;clear hb1)
  | (refine wpList_store_op rfl 233 (.tmp 4) (.tmp 14) rfl w1.heap.size (rowW 64 ws) rfl rfl 233 _ (heap_alloc_new _ _) (HI64.out _ HS.out) (by rw [rowW_size (by rw [HS.out];omega)];rfl) rowW_one ?_;intro w2 hw2 ho2;have H2:=Hd hw2;have F2:=Hd (made_blk HB1.out ho2);clear hw2 ho2)
  | (refine wpList_load_row rfl 172 (.tmp 16) rfl hb rfl 172 (rowW 8 hs) (0,0) _ ((F2.out.1.block hb HLB.out).trans HB.out) Tryz.underlying172 rfl (HI8.out _ HH.out) ?_)
  | (refine wpList_store_op rfl 172 (.tmp 5) (.tmp 17) rfl w2.heap.size (rowW 8 hs) rfl rfl 172 _ (heap_alloc_new _ _) (HI8.out _ HH.out) (by rw [rowW_size (by rw [HH.out];omega)];rfl) rowW_one ?_;intro w3 hw3 ho3;have H3:=Hd hw3;have F3:=Hd (made_blk F2.out.1 ho3);clear hw3 ho3)
  | (refine wpList_load_row rfl 233 (.global 0) rfl 0 rfl tg (rowW 64 kW) tf _ ((F3.out.1.block 0 hg1).trans HG0.out) Tryz.underlying233 rfl (HI64.out _ rfl) ?_))
 obtain ⟨b4,hb4⟩:∃b,w1.heap.size=b:=⟨_,rfl⟩;obtain ⟨b5,hb5⟩:∃b,w2.heap.size=b:=⟨_,rfl⟩;have hlt45:b4<b5:=by have:=F2.out.2.1;omega
 have hw4:w.heap.size≤b4:=by have:=HB1.out.size;omega
 have START:=Hd (show w3.heap[b4]?=some (.cells (rowW 64 ws) 233 (0,0))∧K2 172 w b5 (rowW 8 hs) w3 from
  ⟨by rw [F3.out.2.2 b4 (by omega),←hb4];exact H2.out,⟨by rw [←hb5];exact H3.out,F3.out.1,by omega⟩⟩)
 rw [hb4,hb5];clear H2 F2 H3 F3 HB1 hb4 hb5;have IX:=Hd (fun (k:Nat) (hk:k<64) (W:World)=>run_index_arr (P:=Tryz.prog) 233 170 64 (rowW 64 kW) k (eW (kW.getD k 0)) W Tryz.underlying233 (by kernel_rfl) hk (rowW_get (by rw [List.getD_eq_getElem?_getD,List.getElem?_eq_getElem (show k<kW.length from hk)];rfl)) (by kernel_rfl));obtain ⟨KK,hKK⟩:∃K,rowW 64 kW=K:=⟨_,rfl⟩;rw [hKK] at IX ⊢;clear hKK;go_loopw [19] (fun i wr=>∃k:Nat,k≤64∧i = .int .i64 (k:Int)∧wr.heap[b4]?=some (.cells (rowW 64 ws) 233 (0,0))∧K2 172 w b5 (rowW 8 (roundsW ws hs k)) wr) (fun i _=>64 - (intOf i).toNat)
 case atStart=>exact ⟨0,by omega,rfl,START.out.1,START.out.2⟩
 case round=>
  obtain ⟨k,hk,rfl,hb4,hk5⟩:=hrel;have B4:=Hd hb4;have K5:=Hd hk5;clear hb4 hk5;have k0:(0:Int)≤(k:Int):=by omega
  by_cases hlt:k<64
  ·have k1:(k:Int)<64:=by omega
   have hix:=IX.out k hlt;obtain ⟨kk,hkk⟩:∃x,kW.getD k 0=x:=⟨_,rfl⟩;obtain ⟨wk,hwk⟩:∃x,ws.getD k 0=x:=⟨_,rfl⟩;have STEP:=Hd (show roundsW ws hs (k+1)=roundW (roundsW ws hs k) kk wk from by rw [←hkk,←hwk];rfl);have cw:wr.cell? ⟨b4,k,none⟩=some (.int .u32 ((wk.toNat:Nat):Int)):=by
    rw [cell_of_row wr b4 k _ _ _ B4.out,rowW_get (x:=wk)]
    ·rfl
    rw [←hwk,List.getD_eq_getElem?_getD,List.getElem?_eq_getElem (by rw [HS.out];exact hlt)];rfl
   have hrl:=roundsW_len ws hs HH.out k;obtain ⟨v0,v1,v2,v3,v4,v5,v6,v7,hv⟩:=eight hrl;rw [hkk] at hix;unfold eW at hix;rw [hv] at STEP;have K5':=K5.out;rw [hv] at K5';have K6:=Hd K5';have c0:=K6.out.cell (i:=0) (v:=eW v0) rfl;have c1:=K6.out.cell (i:=1) (v:=eW v1) rfl;have c2:=K6.out.cell (i:=2) (v:=eW v2) rfl;have c3:=K6.out.cell (i:=3) (v:=eW v3) rfl;have c4:=K6.out.cell (i:=4) (v:=eW v4) rfl;have c5:=K6.out.cell (i:=5) (v:=eW v5) rfl;have c6:=K6.out.cell (i:=6) (v:=eW v6) rfl;have c7:=K6.out.cell (i:=7) (v:=eW v7) rfl;unfold eW at c0 c1 c2 c3 c4 c5 c6 c7;have hb5l:=K6.out.lt;have SB:=Hd (show ∀w',Below wr.heap.size wr w'→w'.cell? ⟨b5,5,none⟩=some (.int .u32 ((v5.toNat:Nat):Int))∧w'.cell? ⟨b5,6,none⟩=some (.int .u32 ((v6.toNat:Nat):Int))∧w'.cell? ⟨b5,7,none⟩=some (.int .u32 ((v7.toNat:Nat):Int))∧w'.cell? ⟨b4,k,none⟩=some (.int .u32 ((wk.toNat:Nat):Int))∧w'.cell? ⟨b5,1,none⟩=some (.int .u32 ((v1.toNat:Nat):Int))∧w'.cell? ⟨b5,2,none⟩=some (.int .u32 ((v2.toNat:Nat):Int)) from fun w' h=>
    ⟨by rw [h.cell (p:=⟨b5,5,none⟩) hb5l];exact c5,by rw [h.cell (p:=⟨b5,6,none⟩) hb5l];exact c6,by rw [h.cell (p:=⟨b5,7,none⟩) hb5l];exact c7,by rw [h.cell (p:=⟨b4,k,none⟩) (Nat.lt_trans hlt45 hb5l)];exact cw,by rw [h.cell (p:=⟨b5,1,none⟩) hb5l];exact c1,by rw [h.cell (p:=⟨b5,2,none⟩) hb5l];exact c2⟩)
   have BW0:=Hd (show ∀n,Below wr.heap.size wr (wr.drewN n) from fun n=>⟨rfl,rfl,rfl,Nat.le_refl _,fun _ _=>rfl⟩);have BW1:=Hd (show ∀n A,Below wr.heap.size wr ((wr.drewN n).alloc A) from fun n A=>(BW0.out n).alloc (Nat.le_refl _) A);clear hv hrl hkk hwk K5' K5 hlt;go_wp2_with fail
   go_quiet (fail)
   go_wp2_with fail
   go_region_held3 (fun w'=>w'.cell? ⟨b5,5,none⟩=some (.int .u32 ((v5.toNat:Nat):Int))∧w'.cell? ⟨b5,6,none⟩=some (.int .u32 ((v6.toNat:Nat):Int))∧w'.cell? ⟨b5,7,none⟩=some (.int .u32 ((v7.toNat:Nat):Int))∧w'.cell? ⟨b4,k,none⟩=some (.int .u32 ((wk.toNat:Nat):Int))∧w'.cell? ⟨b5,1,none⟩=some (.int .u32 ((v1.toNat:Nat):Int))∧w'.cell? ⟨b5,2,none⟩=some (.int .u32 ((v2.toNat:Nat):Int)))
    (first | (exact SB.out _ (BW0.out nq).drew) | (exact SB.out _ (BW0.out _)) | (exact SB.out _ (BW1.out _ _)))
    (first
     | (go_at_call 180;(with_reducible refine (mixed_three v4 6 11 25 ?_ ?_ ?_ _ _ _ ?_ ?_ ?_).mono ?_);omega;omega;omega;(first | (exact cell_box _ _ _ _ _ rfl _ (by simp)) | (exact cell_up (cell_box _ _ _ _ _ rfl _ (by simp)) _));(first | (exact cell_box _ _ _ _ _ rfl _ (by simp)) | (exact cell_up (cell_box _ _ _ _ _ rfl _ (by simp)) _));(first | (exact cell_box _ _ _ _ _ rfl _ (by simp)) | (exact cell_up (cell_box _ _ _ _ _ rfl _ (by simp)) _));rintro e w' ⟨rfl,rfl⟩))
   rename_i hS
   clear hS;have BT:=Hd (BW1.out (nq+1) (.cells #[.int .i64 6,.int .i64 11,.int .i64 25] 3));generalize ((wr.drewN (nq+1)).alloc (.cells #[.int .i64 6,.int .i64 11,.int .i64 25] 3))=w7 at BT ⊢;have te:=t_eq v4 v5 v6 v7 kk wk;obtain ⟨tt,htt⟩:∃x,v7+bs1 v4+chW v4 v5 v6+kk+wk=x:=⟨_,rfl⟩;rw [htt] at te;rw [te];clear te hix;have BW2:=Hd (show ∀n,Below wr.heap.size wr (w7.drewN n) from fun n=>BT.out.trans ⟨rfl,rfl,rfl,Nat.le_refl _,fun _ _=>rfl⟩);have BW3:=Hd (show ∀n A,Below wr.heap.size wr ((w7.drewN n).alloc A) from fun n A=>(BW2.out n).alloc BT.out.size A);have BW4:=Hd (show ∀A,Below wr.heap.size wr (w7.drew.alloc A) from fun A=>BT.out.drew.alloc BT.out.size A);clear c1 c2 c5 c6 c7 cw;go_wp2_with fail
   go_region_held3 (fun w'=>w'.cell? ⟨b5,5,none⟩=some (.int .u32 ((v5.toNat:Nat):Int))∧w'.cell? ⟨b5,6,none⟩=some (.int .u32 ((v6.toNat:Nat):Int))∧w'.cell? ⟨b5,7,none⟩=some (.int .u32 ((v7.toNat:Nat):Int))∧w'.cell? ⟨b4,k,none⟩=some (.int .u32 ((wk.toNat:Nat):Int))∧w'.cell? ⟨b5,1,none⟩=some (.int .u32 ((v1.toNat:Nat):Int))∧w'.cell? ⟨b5,2,none⟩=some (.int .u32 ((v2.toNat:Nat):Int)))
    (first | (exact SB.out _ BT.out.drew) | (exact SB.out _ (BW2.out _)) | (exact SB.out _ (BW3.out _ _)) | (exact SB.out _ (BW4.out _)))
    (first
     | (go_at_call 180;(with_reducible refine (mixed_three v0 2 13 22 ?_ ?_ ?_ _ _ _ ?_ ?_ ?_).mono ?_);omega;omega;omega;(first | (exact cell_box _ _ _ _ _ rfl _ (by simp)) | (exact cell_up (cell_box _ _ _ _ _ rfl _ (by simp)) _));(first | (exact cell_box _ _ _ _ _ rfl _ (by simp)) | (exact cell_up (cell_box _ _ _ _ _ rfl _ (by simp)) _));(first | (exact cell_box _ _ _ _ _ rfl _ (by simp)) | (exact cell_up (cell_box _ _ _ _ _ rfl _ (by simp)) _));rintro e w' ⟨rfl,rfl⟩))
   rename_i hS
   clear hS;have BU:=Hd (show Below wr.heap.size wr (w7.alloc (.cells #[.int .i64 2,.int .i64 13,.int .i64 22] 3)).drew from (BT.out.alloc BT.out.size _).drew);generalize (w7.alloc (.cells #[.int .i64 2,.int .i64 13,.int .i64 22] 3)).drew=w8 at BU ⊢;have ue:=u_eq v0 v1 v2;obtain ⟨uu,huu⟩:∃x,bs0 v0+majW v0 v1 v2=x:=⟨_,rfl⟩;rw [huu] at ue;rw [ue];have STEP2:=Hd (show roundsW ws hs (k+1) = [tt+uu,v0,v1,v2,v3+tt,v4,v5,v6] from by rw [STEP.out,←htt,←huu];rfl);have K8:=Hd (show K2 172 w b5 (rowW 8 [v0,v1,v2,v3,v4,v5,v6,v7]) w8 from ⟨(BU.out.block b5 hb5l).trans K6.out.blk,K6.out.low.trans (BU.out.mono K6.out.low.size),K6.out.ge⟩);have B8:=Hd ((BU.out.block b4 (Nat.lt_trans hlt45 hb5l)).trans B4.out);clear ue c0 c3 c4 BT BW0 BW1 BW2 BW3 BW4 SB STEP htt huu BU B4 K6 hb5l;go_wp2_with fail
   go_region_law (first | (refine step_copy_splice (by rfl) (.tmp 69) (.tmp 70) 181 181 (by rfl) 170 Tryz.underlying181 (by kernel_rfl) (some ⟨b5,1,none⟩) (some ⟨b5,0,none⟩) 7 7 7 8 ?_ ?_ b5 1 ([v0,v1,v2,v3,v4,v5,v6,v7].map eW) 172 ?_ ([v0,v1,v2,v3,v4,v5,v6].map eW) (by rfl) ?_ ?_ ?_ b5 w8 ?_ ?_ ?_;(simp [Act.eval,Act.put]);(simp [Act.eval,Act.put]);(exact K8.out.drew.blk);(exact fun _=>⟨rfl,_,rfl,copy_src K8.out.drew⟩);(simp);(exact copy_one _);(exact (Below.refl _ _).drew);(exact Nat.le_refl _);intro w9 hg9 hb9;have K9:=Hd (show K2 172 w b5 (rowW 8 [v0,v0,v1,v2,v3,v4,v5,v6]) w9 from ⟨hg9.out,(K8.out.low.trans (hb9.mono (by have:=K8.out.ge;omega))),K8.out.ge⟩);have B9:=Hd ((hb9.block b4 hlt45).trans B8.out);clear hg9 hb9))
   have d0:=K9.out.cell (i:=0) (v:=eW v0) rfl;have d4:=K9.out.cell (i:=4) (v:=eW v3) rfl;unfold eW at d0 d4;have f0:=K9.out.frz 0;have f4:=K9.out.frz 4;go_wp2_with fail
   have a1:(((tt.toNat:Nat):Int)+((uu.toNat:Nat):Int)) % (4294967296:Int)=(((tt+uu).toNat:Nat):Int):=by have:=wrap_addW tt uu;rw [IntKind.wrap_u32] at this;exact this
   have a2:(((v3.toNat:Nat):Int)+((tt.toNat:Nat):Int)) % (4294967296:Int)=(((v3+tt).toNat:Nat):Int):=by have:=wrap_addW v3 tt;rw [IntKind.wrap_u32] at this;exact this
   rw [a1,a2];refine ⟨⟨k+1,by omega,by go_num,?_,?_⟩,by simp [intOf];omega⟩
   ·rw [heap_setCell_other _ _ _ _ (by show b4≠b5;omega),heap_setCell_other _ _ _ _ (by show b4≠b5;omega)];exact B9.out
   rw [STEP2.out];exact (K9.out.set 0 (eW (tt+uu))).set 4 (eW (v3+tt))
  have hk64:k=64:=by omega
  have k5:=K5.out;rw [hk64] at k5;have K6:=Hd k5;have hvl:=roundsW_len ws hs HH.out 64;obtain ⟨vs,hvs⟩:∃v,roundsW ws hs 64=v:=⟨_,rfl⟩;rw [hvs] at K6 BW hvl;have VL:=Hd hvl;have nk:¬(k:Int)<64:=by omega
  have HB6:=Hd ((K6.out.low.block hb HLB.out).trans HB.out);obtain ⟨wo,rfl⟩:∃wo:World,wo=wr:=⟨_,rfl⟩;clear k5 hk64 hvl hvs K5 hlt hk;go_wp2_with fail
  go_loopw [82] (fun i wr=>∃j:Nat,j≤8∧i = .int .i64 (j:Int)∧wr.heap[hb]?=some (.cells (rowW 8 (hAdd hs vs j)) 172 (0,0))∧wr.heap[b5]?=some (.cells (rowW 8 vs) 172 (0,0))∧Chg (fun k=>k=hb) w wr) (fun i _=>8 - (intOf i).toNat)
  case atStart=>exact ⟨0,by omega,rfl,by rw [hAdd_zero HH.out];exact HB6.out,K6.out.blk,⟨K6.out.low.os,K6.out.low.tape,K6.out.low.output,K6.out.low.size,fun k hk _=>K6.out.low.block k hk⟩⟩
  case round=>
   obtain ⟨j,hj,rfl,hh1,hv1,hc1⟩:=hrel;have H1:=Hd hh1;have V1:=Hd hv1;have C1:=Hd hc1;clear hh1 hv1 hc1;have j0:(0:Int)≤(j:Int):=by omega
   have hne:hb≠b5:=by have:=HLB.out;omega
   have HNE:=Hd hne;clear hne;by_cases hlt:j<8
   ·have j1:(j:Int)<8:=by omega
    have ch:=cell_of_row wr hb j _ _ _ H1.out;rw [rowW_get (x:=hs.getD j 0) (by rw [hAdd_get _ _ _ hlt,if_neg (by omega)])] at ch;have cv:=cell_of_row wr b5 j _ _ _ V1.out;rw [rowW_get (x:=vs.getD j 0) (by rw [List.getD_eq_getElem?_getD,List.getElem?_eq_getElem (by rw [VL.out];exact hlt)];rfl)] at cv;have fh:=frozen_of_row wr hb j _ _ H1.out;have SET:=Hd (hAdd_set hs vs hlt);have N1:=Hd (show ∀v w',w'=(wr.setCell ⟨hb,j,none⟩ v).drew→v=eW (hs.getD j 0+vs.getD j 0)→w'.heap[hb]?=some (.cells (rowW 8 (hAdd hs vs (j+1))) 172 (0,0))∧w'.heap[b5]?=some (.cells (rowW 8 vs) 172 (0,0))∧Chg (fun k=>k=hb) w w' from fun v w' e1 e2=>by
     subst e1;subst e2;refine ⟨?_,?_,?_⟩
     ·have:=heap_setCell_same wr hb j _ _ (eW (hs.getD j 0+vs.getD j 0)) H1.out;rw [SET.out] at this;exact this
     ·exact (heap_setCell_other wr ⟨hb,j,none⟩ b5 _ (fun e=>HNE.out e.symm)).trans V1.out
     have:=(only_set wr hb j (eW (hs.getD j 0+vs.getD j 0))).chg C1.out (.inl rfl);exact ⟨this.os,this.tape,this.output,this.size,this.block⟩)
    obtain ⟨x,hx⟩:∃x,hs.getD j 0=x:=⟨_,rfl⟩;obtain ⟨y,hy⟩:∃x,vs.getD j 0=x:=⟨_,rfl⟩;rw [hx] at ch N1;rw [hy] at cv N1;unfold eW at ch cv;clear hx hy hlt;go_wp2_with fail
    go_still_tail 11,(by kernel_rfl)
    change wpList _ _ _ _ _ wr.drew
    go_wp2_with fail
    have a1:(((x.toNat:Nat):Int)+((y.toNat:Nat):Int)) % (4294967296:Int)=(((x+y).toNat:Nat):Int):=by have:=wrap_addW x y;rw [IntKind.wrap_u32] at this;exact this
    rw [a1];obtain ⟨n1,n2,n3⟩:=N1 _ _ rfl rfl;exact ⟨⟨j+1,by omega,by go_num,n1,n2,n3⟩,by simp [intOf];omega⟩
   have hj8:j=8:=by omega
   have H8:=H1.out;rw [hj8,hAdd_all,←BW.out] at H8;have HF:=Hd H8;clear H8 hj8;go_wp2_with fail
   go_end0
   exact ⟨rfl,HF.out,C1.out⟩
end
section
open Go.RowKit
def strB (l:List Nat):ByteArray:=⟨(l.map UInt8.ofNat).toArray⟩
theorem strOfNums_cast (l:List Nat):strOfNums (l.map fun (n:Nat)=>(n:Int))=strB l:=by
 unfold strOfNums strB;rw [List.map_map];congr 2
theorem strB_size (l:List Nat):(strB l).size=l.length:=by simp [strB,ByteArray.size]
def rowB (n:Nat) (l:List Nat):Array Value:=(l.map (fun (x:Nat)=>Value.int .u8 (x:Int)) ++ List.replicate (n - l.length) (Value.int .u8 0)).toArray
theorem rowB_size {n:Nat} {l:List Nat} (h:l.length≤n):(rowB n l).size=n:=by unfold rowB;simp;omega
theorem rowB_get {n:Nat} {l:List Nat} {i:Nat} {x:Nat} (h:l[i]?=some x):(rowB n l)[i]?=some (.int .u8 (x:Int)):=by
 have hi:i<l.length:=(List.getElem?_eq_some_iff.1 h).1;unfold rowB;rw [List.getElem?_toArray,List.getElem?_append_left (by simpa using hi),List.getElem?_map,h];rfl
theorem rowB_zero {n:Nat} {l:List Nat} {i:Nat} (h1:l.length≤i) (h:i<n):(rowB n l)[i]?=some (.int .u8 0):=by
 unfold rowB;rw [List.getElem?_toArray,List.getElem?_append_right (by simpa using h1),List.getElem?_replicate,if_pos (by simp;omega)]
theorem rowB_set {n:Nat} {l:List Nat} (h:l.length<n) (x:Nat):(rowB n l).setIfInBounds l.length (.int .u8 (x:Int))=rowB n (l ++ [x]):=by
 unfold rowB;rw [List.setIfInBounds_toArray];congr 1
 rw [List.set_append_right _ _ (by simp)];have:n - l.length=(n - (l ++ [x]).length)+1:=by simp;omega
 rw [this,List.replicate_succ];simp
theorem wordBytes_at (x:Wd) (j:Nat) (hj:j<4):(wordBytes x)[j]?=some ((x >>> (24 - 8 * j)).toNat % 256):=by
 rcases j with _ | _ | _ | _ | j
 ·rfl
 ·rfl
 ·rfl
 ·show some _=some _;simp
 omega
theorem wrap_byte (x:Wd) (m:Nat):((x.toNat:Nat):Int) / 2 ^ m % 256=(((x >>> m).toNat % 256:Nat):Int):=by
 rw [shrW];omega
theorem digest_any (hs:List Wd) (w:World) (hh:hs.length=8) :
  Calls Tryz.prog 131 #[.agg (rowW 8 hs)] w fun e w'=>e = .returned (.string (strB (hs.flatMap wordBytes)))∧Below w.heap.size w w':=by
 have HH:=Hd hh;have HI8:=Hd (show (Tryz.prog.info? 172).map (·.size)=some (rowW 8 hs).size from by rw [rowW_size (by omega)];kernel_rfl);have IX:=Hd (fun (k:Nat) (hk:k<8) (W:World)=>run_index_arr (P:=Tryz.prog) 172 170 8 (rowW 8 hs) k (eW (hs.getD k 0)) W Tryz.underlying172 (by kernel_rfl) hk (rowW_get (by rw [List.getD_eq_getElem?_getD,List.getElem?_eq_getElem (show k<hs.length by omega)];rfl)) (by kernel_rfl));have FL:=Hd (show (hs.flatMap wordBytes).length=32 from by rw [flat_four,hh]);clear hh;obtain ⟨KK,hKK⟩:∃K,rowW 8 hs=K:=⟨_,rfl⟩;rw [hKK] at IX HI8 ⊢;clear hKK;go_enter Tryz.func131,Tryz.ntmps131
 go_wp2_with (first
  | (refine wpList_load_row rfl 172 (.tmp 1) rfl w.heap.size rfl 172 KK (0,0) _ (heap_alloc2_old _ _ _) Tryz.underlying172 rfl HI8.out ?_))
 go_loopw [4,5,6,8,12] (fun _ _ _ i _ wr=>∃k:Nat,k≤8∧i = .int .i64 (k:Int)∧wr.heap[w.heap.size+1]?=some (.cells (rowB 32 ((hs.take k).flatMap wordBytes)) 236 (0,0))∧Below w.heap.size w wr) (fun _ _ _ i _ _=>8 - (intOf i).toNat)
 case atStart=>exact ⟨0,by omega,rfl,heap_alloc2_new _ _ _,((Below.refl _ w).alloc (Nat.le_refl _) _).alloc (by simp) _⟩
 case round=>
  obtain ⟨k,hk,rfl,hb,hbl⟩:=hrel;have HB:=Hd hb;have HBL:=Hd hbl;clear hb hbl;have k0:(0:Int)≤(k:Int):=by omega
  by_cases hlt:k<8
  ·have k1:(k:Int)<8:=by omega
   have hix:=IX.out k hlt;have NXT:=Hd (show (hs.take (k+1)).flatMap wordBytes=(hs.take k).flatMap wordBytes ++ wordBytes (hs.getD k 0) from by
    rw [List.take_succ_eq_append_getElem (by rw [HH.out];exact hlt),List.flatMap_append,List.getD_eq_getElem?_getD,List.getElem?_eq_getElem (by rw [HH.out];exact hlt)];simp)
   have LEN:=Hd (show ((hs.take k).flatMap wordBytes).length=4 * k from by rw [flat_four,List.length_take,HH.out];omega);obtain ⟨x,hx⟩:∃x,hs.getD k 0=x:=⟨_,rfl⟩;rw [hx] at hix NXT;unfold eW at hix;obtain ⟨pre,hpre⟩:∃p,(hs.take k).flatMap wordBytes=p:=⟨_,rfl⟩;rw [hpre] at NXT LEN HB;clear hx hpre;obtain ⟨wo,rfl⟩:∃wo:World,wo=wr:=⟨_,rfl⟩;go_wp2_with fail
   go_loopw [6,12] (fun _ i wr=>∃j:Nat,j≤4∧i = .int .i64 (j:Int)∧wr.heap[w.heap.size+1]?=some (.cells (rowB 32 (pre ++ (wordBytes x).take j)) 236 (0,0))∧Below w.heap.size w wr) (fun _ i _=>4 - (intOf i).toNat)
   case atStart=>exact ⟨0,by omega,rfl,by simpa using HB.out,HBL.out⟩
   case round=>
    obtain ⟨j,hj,rfl,hb,hbl⟩:=hrel;have HB:=Hd hb;have HBL:=Hd hbl;clear hb hbl;have j0:(0:Int)≤(j:Int):=by omega
    by_cases hlt2:j<4
    ·have j1:(j:Int)<4:=by omega
     obtain ⟨m,hm⟩:∃m,24 - 8 * j=m:=⟨_,rfl⟩;have WB:=Hd (wordBytes_at x j hlt2);rw [hm] at WB;have e1:(24:Int) - 8 * (j:Int)=(m:Int):=by omega
     have nn:¬(m:Int)<0:=by omega
     have m0:(0:Int)≤(m:Int):=by omega
     have m1:(m:Int)≤24:=by omega
     have i0:(0:Int)≤4 * (k:Int)+(j:Int):=by omega
     have i1:4 * (k:Int)+(j:Int)<32:=by omega
     have t0:(4 * (k:Int)+(j:Int)).toNat=4 * k+j:=by omega
     have SET:=Hd (show (rowB 32 (pre ++ (wordBytes x).take j)).setIfInBounds (4 * k+j) (.int .u8 (((x >>> m).toNat % 256:Nat):Int))=rowB 32 (pre ++ (wordBytes x).take (j+1)) from by
      have hl:(pre ++ (wordBytes x).take j).length=4 * k+j:=by rw [List.length_append,LEN.out,List.length_take];simp [wordBytes];omega
      have:=rowB_set (n:=32) (l:=pre ++ (wordBytes x).take j) (by omega) ((x >>> m).toNat % 256);rw [hl] at this;rw [this,List.append_assoc];congr 2
      have hjl:j<(wordBytes x).length:=by simp [wordBytes];omega
      rw [List.take_succ_eq_append_getElem hjl];congr 2
      have:=WB.out;rw [List.getElem?_eq_getElem hjl] at this;injection this with this;exact this.symm)
     have cz:wr.cell? ⟨w.heap.size+1,4 * k+j,none⟩=some (.int .u8 0):=by
      rw [cell_of_row wr (w.heap.size+1) (4 * k+j) _ _ _ HB.out];exact rowB_zero (by rw [List.length_append,LEN.out,List.length_take];omega) (by omega)
     have fz:=frozen_of_row wr (w.heap.size+1) (4 * k+j) _ _ HB.out;have WBY:=Hd (wrap_byte x m);clear hm hlt2;go_wp2_with fail
     rw [WBY.out];refine ⟨⟨j+1,by omega,by go_num,?_,HBL.out.setCell (Nat.le_succ _) _⟩,by simp [intOf];omega⟩;rw [←SET.out];exact heap_setCell_same _ _ _ _ _ _ HB.out
    have hj4:j=4:=by omega
    have hb4:=HB.out;rw [hj4,show (wordBytes x).take 4=wordBytes x from rfl,←NXT.out] at hb4;have HB4:=Hd hb4;have j4:¬(j:Int)<4:=by omega
    clear hb4 hj4 hlt2 hj HB;go_wp2_with fail
    exact ⟨⟨k+1,by omega,by go_num,HB4.out,HBL.out⟩,by simp [intOf];omega⟩
  have hk8:k=8:=by omega
  have hb8:=HB.out;rw [hk8,List.take_of_length_le (by rw [HH.out];exact Nat.le_refl _)] at hb8;have HB8:=Hd hb8;have k8:¬(k:Int)<8:=by omega
  clear hb8 hk8 hlt hk HB;obtain ⟨xs,hxs⟩:∃xs,hs.flatMap wordBytes=xs:=⟨_,rfl⟩;rw [hxs] at HB8 FL;have cv:=run_convert_bytes_arg (P:=Tryz.prog) wr 135 5 Tryz.underlying135 Tryz.underlying5 (w.heap.size+1) 0 32 32 (xs.map fun (n:Nat)=>(n:Int)) (by rw [List.length_map];exact FL.out) (fun i hi=>by
   rw [cell_of_row wr (w.heap.size+1) (0+i) _ _ _ HB8.out,Nat.zero_add];have hix:i<xs.length:=by rw [FL.out];exact hi
   rw [rowB_get (x:=xs[i]) (by rw [List.getElem?_eq_getElem hix])];rw [List.getD_eq_getElem?_getD,List.getElem?_map,List.getElem?_eq_getElem hix];rfl) 9 Tryz.underlying9
  rw [strOfNums_cast] at cv;have HXS:=Hd hxs;clear hxs;go_wp2_with fail
  go_ret;exact ⟨by rw [HXS.out];rfl,HBL.out⟩
end
section
open Go.RowKit
def eB (n:Nat):Value:=.int .u8 (n:Int)
def OwnB (w:World) (base:Nat) (v:Value) (l:List Nat):Prop:=
 ∃g cap cur fz,v = .slice (some ⟨g,0,none⟩) l.length cap∧base≤g∧w.heap[g]?=some (.cells cur 5 fz)∧(∀i,i<cap→¬(fz.1≤i∧i<fz.2)) ∧
  l.length≤cap∧cap≤maxLen∧cur.size=cap∧cur.toList.take l.length=l.map eB
theorem Tryz.infoB:(Tryz.prog.info? 5).map (fun i=>(i.zero,i.size,i.bytes))=some (some (.int .u8 0),1,1):=by kernel_rfl
theorem add_off (g j:Nat):(⟨g,0,none⟩:Addr).add j=⟨g,j,none⟩:=by unfold Addr.add;split <;> simp_all
theorem OwnB.cell {w:World} {base:Nat} {v:Value} {l:List Nat} (h:OwnB w base v l):∃g cap,v = .slice (some ⟨g,0,none⟩) l.length cap∧base≤g∧g<w.heap.size∧l.length≤cap∧cap≤maxLen∧∀i n,l[i]?=some n→w.cell? ⟨g,i,none⟩=some (eB n):=by
 obtain ⟨g,cap,cur,fz,hv,hb,hg,_,hn,hm,_,ht⟩:=h;refine ⟨g,cap,hv,hb,(gE hg).1,hn,hm,fun i n hi=>?_⟩;have hil:=(List.getElem?_eq_some_iff.1 hi).1;have h2:(l.map eB)[i]?=some (eB n):=by rw [List.getElem?_map,hi];rfl
 rw [←ht,List.getElem?_take_of_lt hil,Array.getElem?_toList] at h2;rw [cell_of_row w g i cur _ _ hg];exact h2
theorem OwnB.row {w:World} {base:Nat} {v:Value} {l:List Nat} (h:OwnB w base v l):∃g cap,v = .slice (some ⟨g,0,none⟩) l.length cap∧base≤g∧l.length≤cap∧cap≤maxLen∧RowK 1 encB w (some ⟨g,0,none⟩) l:=by
 obtain ⟨g,cap,hv,hb,hg,hn,hm,hc⟩:=h.cell;refine ⟨g,cap,hv,hb,hn,hm,fun i n hi=>⟨g,0,rfl,hg,fun j u hu=>?_⟩⟩;have hj:j=0:=by
  have:=(List.getElem?_eq_some_iff.1 hu).1;simp [encB] at this;omega
 subst hj;simp [encB] at hu;subst hu;have:=hc i n hi;simpa [eB] using this
theorem OwnB.kept {w w':World} {base:Nat} {v:Value} {l:List Nat} (h:OwnB w base v l) (hk:∀k,base≤k→k<w.heap.size→w'.heap[k]?=w.heap[k]?):OwnB w' base v l:=by
 obtain ⟨g,cap,cur,fz,hv,hb,hg,r⟩:=h;exact ⟨g,cap,cur,fz,hv,hb,(hk g hb (gE hg).1).trans hg,r⟩
theorem OwnB.later {w w':World} {base:Nat} {v:Value} {l:List Nat} (h:OwnB w base v l) (hk:Below w.heap.size w w'):OwnB w' base v l:=h.kept fun k _ hl=>hk.block k hl
theorem oneB (n:Nat):(eB n).oneCell'=true:=rfl
theorem run_append_byte (w:World) (ty:TypeId) (base:Nat) (v:Value) (l:List Nat) (h:OwnB w base v l) (g2 c2 b:Nat) (hc:w.cell? ⟨g2,0,none⟩=some (eB b)) (hl:l.length≤1099511627776) (hb:base≤w.heap.size) :
  ∃v' w',(Builtin.append_ #[135,135] ty #[v,.slice (some ⟨g2,0,none⟩) 1 c2]).run Tryz.prog w = .ok v' w'∧OwnB w' base v' (l ++ [b])∧Below base w w':=by
 obtain ⟨i,hi,hz,hs,hby⟩:=info_parts Tryz.infoB;obtain ⟨g,cap,cur,fz,rfl,hbg,hg,hfz,hn,hm,hcs,ht⟩:=h;have hnews:∀j u,([eB b]:List Value)[j]?=some u→w.cell? ((⟨g2,0,none⟩:Addr).add j)=some u:=fun j u hu=>by
  rcases j with _ | j
  ·simp at hu;subst hu;rw [add_off];exact hc
  simp at hu
 by_cases hroom:l.length+1≤cap
 ·have hf:=run_firstCells_some (P:=Tryz.prog) w i.size 1 ⟨g2,0,none⟩ 1 c2 [eB b] (by rw [hs];rfl) hnews;have hlt:l.length<cur.size:=by omega
  have hcell:w.cell? ⟨g,l.length,none⟩=some cur[l.length]:=by simp [World.cell?,hg,hlt]
  have hfro:w.frozen? ⟨g,l.length,none⟩=false:=by
   have:=hfz l.length (by omega);obtain ⟨lo,hi'⟩:=fz;simp only [World.frozen?,hg,Bool.and_eq_false_iff,decide_eq_false_iff_not];simp only at this;omega
  have hst:(store (⟨g,l.length,none⟩:Addr) (eB b)).run Tryz.prog w = .ok () (w.setRow g (cur.setIfInBounds l.length (eB b))):=by
   rw [run_store Tryz.prog w _ (eB b) _ (oneB b),hcell];simp [hfro,setCell_eq_setRow w g l.length cur 5 fz (eB b) hg]
  have hst2:(storeCells (⟨g,l.length,none⟩:Addr) [eB b]).run Tryz.prog w = .ok () (w.setRow g (cur.setIfInBounds l.length (eB b))):=by
   have e0:(⟨g,l.length,none⟩:Addr).add 0=⟨g,l.length,none⟩:=by unfold Addr.add;split <;> simp_all
   simp only [storeCells,Sem.run_bind,e0,hst,Result.andThen_ok];rfl
  refine ⟨.slice (some ⟨g,0,none⟩) (l.length+1) cap,w.setRow g (cur.setIfInBounds l.length (eB b)),?_,⟨g,cap,cur.setIfInBounds l.length (eB b),fz,by rw [List.length_append];rfl,hbg,setRow_heap w g cur _ _ fz hg,hfz,by rw [List.length_append];exact hroom,hm,by rw [Array.size_setIfInBounds];exact hcs,?_⟩,
   ⟨rfl,rfl,rfl,by simp,fun k hk=>setRow_other w g k _ (by omega)⟩⟩
  ·simp [Builtin.append_,run_underlying Tryz.underlying135,sizeOf,typeInfo,hi,hs,Builtin.lenOf,hroom,hs ▸ hf,add_off,hst2]
  rw [List.length_append,Array.toList_setIfInBounds,List.map_append,←ht];simp only [List.length_cons,List.length_nil,Nat.zero_add,List.map_cons,List.map_nil];rw [List.take_succ_eq_append_getElem (by simp;omega),List.take_set_of_le (by omega)];simp
 have holds:∀j u,(l.map eB)[j]?=some u→w.cell? ((⟨g,0,none⟩:Addr).add j)=some u:=fun j u hu=>by
  rw [add_off,cell_of_row w g j cur _ _ hg];rw [←ht] at hu;have hj:=(List.getElem?_eq_some_iff.1 hu).1;rw [List.length_take] at hj;rw [List.getElem?_take_of_lt (by omega)] at hu;simpa using hu
 have hbytes:(l.length+1) * i.bytes≤140737488355328:=by rw [hby];omega
 have hr:=run_append_grow (P:=Tryz.prog) w 135 ty 5 i (.int .u8 0) Tryz.underlying135 hi hz ⟨g,0,none⟩ l.length cap (l.map eB) (by rw [hs];simp) holds ⟨g2,0,none⟩ 1 c2 [eB b] (by rw [hs];rfl) hnews (by omega) (by omega) (growslice_fits (by omega) hbytes);have hge:=grownCap_ge w (l.length+1) cap 5;have hcm2:grownCap w (l.length+1) cap 5≤maxLen:=grownCap_le_maxLen w (l.length+1) cap 5 (by unfold maxLen;omega);refine ⟨_,_,hr,⟨w.heap.size,_,_,(0,0),by rw [List.length_append];rfl,hb,heap_alloc_new w.drew _,(fun j _=>by simp),by rw [List.length_append];exact hge,hcm2,?_,?_⟩,((Below.refl base w).drew).alloc hb _⟩
 ·have hz1:(Value.int IntKind.u8 0).cells.size=1:=rfl;simp only [Array.size_append,List.size_toArray,size_zeroCells,hz1,List.length_map,List.length_cons,List.length_nil];omega
 rw [List.length_append,List.map_append];simp only [Array.toList_append,List.append_assoc,List.length_cons,List.length_nil];rw [←List.append_assoc];exact List.take_left' (by simp)
theorem wpList_append_byte {w:World} {ops:Array Oper} {rest:List Oper} {o:Oper} {a:Act} {Q:Exit→Act→World→Prop} (hgd:o.guard=none) (s x:Operand)
  (ho:o.op = .call {callee:=.builtin .append,args:=#[s,x],argTypes:=#[135,135]})
  (base:Nat) (v:Value) (l:List Nat) (hs:a.eval s=v) (h:OwnB w base v l) (g2 c2 b:Nat) (hx:a.eval x = .slice (some ⟨g2,0,none⟩) 1 c2) (hc:w.cell? ⟨g2,0,none⟩=some (eB b)) (hl:l.length≤1099511627776) (hb:base≤w.heap.size)
  (hK:∀v' w',OwnB w' base v' (l ++ [b])→Below base w w'→wpList Tryz.prog ops Q rest (a.put o.dst v') w'):wpList Tryz.prog ops Q (o :: rest) a w:=by
 refine wpList_plain hgd fun K hK'=>?_;obtain ⟨v',w',hr,h2,h3⟩:=run_append_byte w o.type base v l h g2 c2 b hc hl hb;unfold Oper.wp execOp;simp only [ho,resolve,invoke,builtin,Sem.run_bind,Sem.run_pure,Result.andThen_ok,List.map_toArray,List.map_cons,List.map_nil,hs,hx,hr];exact hK' _ _ (hK v' w' h2 h3)
theorem wpListIn_append_byte {F:Fence} {n:Nat} {w:World} {ops:Array Oper} {rest:List Oper} {o:Oper} {a:Act} {Q:Exit→Act→World→Prop} (hgd:o.guard=none) (s x:Operand)
  (ho:o.op = .call {callee:=.builtin .append,args:=#[s,x],argTypes:=#[135,135]})
  (base:Nat) (v:Value) (l:List Nat) (hs:a.eval s=v) (h:OwnB w base v l) (g2 c2 b:Nat) (hx:a.eval x = .slice (some ⟨g2,0,none⟩) 1 c2) (hc:w.cell? ⟨g2,0,none⟩=some (eB b)) (hl:l.length≤1099511627776) (hb:base≤w.heap.size)
  (hK:∀v' w',OwnB w' base v' (l ++ [b])→Below base w w'→wpListIn F n Tryz.prog ops Q rest (a.put o.dst v') w'):wpListIn F n Tryz.prog ops Q (o :: rest) a w:=by
 refine wpListIn_plain hgd fun K hK'=>?_;obtain ⟨v',w',hr,h2,h3⟩:=run_append_byte w o.type base v l h g2 c2 b hc hl hb;unfold Oper.wpIn;refine ⟨?_,?_⟩
 ·simp [Oper.about,ho,resolve,Target.leads,Sem.run_pure]
 rw [Oper.semAt_plain F _ _ (by rw [ho];intro c hc';cases hc')];simp [execOp,ho,resolve,invoke,builtin,hs,hx,hr,Result.andThen];exact hK' _ _ (hK v' w' h2 h3)
def bytesN (s:ByteArray):List Nat:=s.data.toList.map UInt8.toNat
theorem bytesN_len (s:ByteArray):(bytesN s).length=s.size:=by unfold bytesN;rw [List.length_map];rfl
theorem bytesN_lt (s:ByteArray):∀n∈bytesN s,n<256:=fun n hn=>by
 obtain ⟨x,_,rfl⟩:=List.mem_map.1 hn;exact x.toNat_lt
theorem bytesN_strB {l:List Nat} (h:∀n∈l,n<256):bytesN (strB l)=l:=by
 unfold bytesN strB;rw [List.map_map];conv=>rhs;rw [←List.map_id l]
 exact List.map_congr_left fun x hx=>by
  have:=h x hx;show (UInt8.ofNat x).toNat=x;rw [UInt8.toNat_ofNat'];omega
theorem bytes_take (s:ByteArray) (r:Array Value):((s.data.map fun b=>Value.int .u8 b.toNat) ++ r).toList.take s.size=(bytesN s).map eB:=by
 have hl:s.data.size=s.size:=rfl;rw [Array.toList_append,List.take_left' (by simp [hl])];unfold bytesN;simp [eB]
theorem ownB_bytes (w:World) (s:ByteArray) (hs:s.size≤1099511627776):OwnB (Lib.bytesWorld w 5 s) w.heap.size (.slice (some ⟨w.heap.size,0,none⟩) s.size (grownCap w s.size 0 5)) (bytesN s):=by
 have hge:=grownCap_ge w s.size 0 5;have hsz:(Lib.bytesCells w 5 s).size=grownCap w s.size 0 5:=by
  unfold Lib.bytesCells;have:s.data.size=s.size:=rfl;simp [this];omega
 refine ⟨w.heap.size,_,_,_,by rw [bytesN_len],Nat.le_refl _,Lib.bytesWorld_at_new w 5 s,?_,by rw [bytesN_len];exact hge,grownCap_le_maxLen w s.size 0 5 (by unfold maxLen;omega),hsz,?_⟩
 ·intro i hi;simp only;omega
 rw [bytesN_len];exact bytes_take s _
theorem bytes_below (w:World) (s:ByteArray):Below w.heap.size w (Lib.bytesWorld w 5 s):=by
 refine ⟨?_,?_,?_,by rw [Lib.bytesWorld_size];omega,fun k hk=>Lib.bytesWorld_at_old w 5 s k hk⟩ <;> (unfold Lib.bytesWorld World.freeze;split <;> rfl)
theorem wpListIn_bytes {F:Fence} {n:Nat} {w:World} {ops:Array Oper} {rest:List Oper} {o:Oper} {a:Act} {Q:Exit→Act→World→Prop} (hgd:o.guard=none) (x:Operand)
  (ho:o.op = .convert 9 135 x) (s:ByteArray) (hx:a.eval x = .string s) (hs:s.size≤1099511627776)
  (hK:∀v' w',OwnB w' w.heap.size v' (bytesN s)→Below w.heap.size w w'→wpListIn F n Tryz.prog ops Q rest (a.put o.dst v') w'):wpListIn F n Tryz.prog ops Q (o :: rest) a w:=by
 refine wpListIn_plain hgd fun K hK'=>?_;have hr:=Lib.run_convert_string_bytes (P:=Tryz.prog) w _ _ _ s Tryz.underlying9 Tryz.underlying135 Tryz.underlying5;unfold Oper.wpIn;refine ⟨?_,?_⟩
 ·simp [Oper.about,ho]
 rw [Oper.semAt_plain F _ _ (by rw [ho];intro c hc';cases hc')];simp [execOp,ho,hx,hr,Result.andThen];exact hK' _ _ (hK _ _ (ownB_bytes w s hs) (bytes_below w s))
theorem wpListIn_load_row {F:Fence} {n:Nat} {P:Program} {ops:Array Oper} {rest:List Oper} {o:Oper} {a:Act} {w:World} {Q:Exit→Act→World→Prop} (hgd:o.guard=none) (ty:TypeId) (x:Operand) (ho:o.op = .load ty x)
  (g:Nat) (hx:a.eval x = .pointer (some ⟨g,0,none⟩)) (t:TypeId) (cs:Array Value) (fr:Nat×Nat) (d:TypeDesc) (hg:w.heap[g]?=some (.cells cs t fr))
  (hu:P.underlying ty=some d) (hd:(match d with | .struct _ | .array _ _=>true | _=>false)=true) (hi:(P.info? ty).map (·.size)=some cs.size)
  (h:wpListIn F n P ops Q rest (a.put o.dst (.agg cs)) w):wpListIn F n P ops Q (o :: rest) a w:=by
 refine wpListIn_plain hgd fun K hK=>?_;have hr:=run_loadVar_row (P:=P) w g t ty cs fr d hg hu hd hi;unfold Oper.wpIn;refine ⟨?_,?_⟩
 ·simp [Oper.about,ho]
 rw [Oper.semAt_plain F _ _ (by rw [ho];intro c hc';cases hc')];simp [execOp,ho,hx,Instr.loadAt,Instr.sureAddr,hr,Result.andThen];exact hK _ _ h
theorem RowK.cut {w:World} {g:Nat} {l:List Nat} (h:RowK 1 encB w (some ⟨g,0,none⟩) l) (k:Nat):RowK 1 encB w (some ⟨g,64 * k,none⟩) ((l.drop (64 * k)).take 64):=fun i x hx=>by
 have hi:=(List.getElem?_eq_some_iff.1 hx).1;rw [List.getElem?_take_of_lt (by simp at hi;omega),List.getElem?_drop] at hx;obtain ⟨b,off,e,h1,h2⟩:=h _ x hx;cases e;exact ⟨g,64 * k,rfl,h1,fun j v hv=>by have:=h2 j v hv;rw [Nat.zero_add,Nat.mul_one] at this;rw [Nat.mul_one];exact this⟩
theorem RowK.chgB {w w':World} {g:Nat} {l:List Nat} {C:Nat→Prop} (h:RowK 1 encB w (some ⟨g,0,none⟩) l) (hc:Chg C w w') (hn:¬C g):RowK 1 encB w' (some ⟨g,0,none⟩) l:=fun i x hx=>by
 obtain ⟨b,off,e,h1,h2⟩:=h i x hx;cases e;exact ⟨g,0,rfl,Nat.lt_of_lt_of_le h1 hc.size,fun j v hv=>hc.cell (h2 j v hv) hn⟩
end
end Go.Proofs.YtifcdjmcoibblaaGreatDoor
