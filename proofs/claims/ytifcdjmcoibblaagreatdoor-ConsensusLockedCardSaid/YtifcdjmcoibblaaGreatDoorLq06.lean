/- Key Row Range -/
import Derived.Test.YtifcdjmcoibblaaGreatDoorLq05
import Derived.Test.YtifcdjmcoibblaaGreatDoorProg
import Derived.Laws.StructEq
import Derived.KernelRfl
import Derived.OwnWalk
import Derived.Laws.AppendOwnNone
import Derived.Maps.AppendAt
import Derived.WalkLawsBesides
import Derived.WalkSpells
import Derived.Test.YtifcdjmcoibblaaGreatDoorLq01
import Derived.RangeFuncNested
import Derived.RangeFuncLeaves
import Derived.Shelf.Abstract
import Derived.WalkKit
import Derived.OwnWalkIn
import Derived.TacticsInMore
import Derived.LoopNIn
import Derived.LoopIn
import Derived.Maps.OwnIn
import Derived.Lib.Hide
set_option linter.unusedVariables false
set_option linter.unusedSimpArgs false
set_option linter.unusedSectionVars false
set_option maxRecDepth 100000
set_option maxHeartbeats 80000000
namespace Go.Proofs.YtifcdjmcoibblaaGreatDoor
def goodI (w:World) (x:Value):Prop:=∃n:Int,x = .int .i64 n
def good2 (w:World) (x:Value):Prop:=∃a b:Int,x = .agg #[.int .i64 a,.int .i64 b]
def good4 (w:World) (x:Value):Prop:=∃a b c d:Int,x = .agg #[.int .i64 a,.int .i64 b,.int .i64 c,.int .i64 d]
theorem findNow_int (x:Int):∀(es:List MapEntry) (i:Nat),(∀e∈es,∃n:Int,e.key = .int .i64 n)→Instr.findNow (.int .i64) (.int .i64 x) es i=some (findE (.int .i64 x) es i)
 | [],i,_=>rfl
 | e :: es,i,h=>by
  obtain ⟨s,hs⟩:=h e (by simp);have ih:=findNow_int x es (i+1) (fun e he=>h e (by simp [he]));unfold Instr.findNow findE;rw [hs];by_cases hx:x=s
  ·subst hx;simp [Instr.sameNow]
  have hne:¬s=x:=fun h=>hx h.symm;have hb:(x == s)=false:=by simpa using hx
  simp [Instr.sameNow,hb,hne,ih]
theorem rawInt {P:Program} {K:TypeId} (hK:P.underlying K=some (.int .i64)):RawKey P K goodI where
 find:=fun w x es ⟨s,hs⟩ h=>by
  subst hs;simp [Instr.findKey,run_underlying hK,findNow_int s es 0 h]
 check:=fun w em x ⟨s,hs⟩=>by
  subst hs;show (Instr.checkKey em (9999+1) K _).run P w=_;unfold Instr.checkKey;simp only [Sem.run_bind,run_underlying hK,Result.andThen];rfl
 stays:=fun w x ⟨s,hs⟩=>by
  subst hs;simp [Instr.keyThatStays,Instr.sameBits]
theorem rawAgg {P:Program} {K:TypeId} {fs:Array Field} {good:World→Value→Prop} (hK:P.underlying K=some (.struct fs)) (hagg:∀w x,good w x→∃cs,x = .agg cs)
  (heq:∀w x y,good w x→good w y→∃r,(Op.equal K x y).run P w = .ok r w∧(r=true↔x=y)) (hchk:∀w em x,good w x→(Instr.checkKey em 10000 K x).run P w = .ok () w) (hst:∀w x,good w x→Instr.sameBits 10000 x x=true):RawKey P K good where
 find:=fun w x es hx h=>by
  obtain ⟨cs,rfl⟩:=hagg w x hx;have key:∀(es:List MapEntry) (i:Nat),(∀e∈es,good w e.key)→(Instr.findAsking K (.agg cs) es i).run P w = .ok (findE (.agg cs) es i) w:=by
   intro es;induction es with
   | nil=>intro i _;simp [Instr.findAsking,findE]
   | cons e es ih=>
    intro i he;obtain ⟨r,hq,hr⟩:=heq w (.agg cs) e.key hx (he e (by simp));unfold Instr.findAsking findE;simp only [Sem.run_bind,hq,Result.andThen_ok];by_cases e1:Value.agg cs=e.key
    ·have e2:e.key = .agg cs:=e1.symm;have e3:r=true:=hr.2 e1;simp [e2,e3]
    have e2:¬e.key = .agg cs:=fun q=>e1 q.symm;have e3:r=false:=by rcases r with _ | _;rfl;exact absurd (hr.1 rfl) e1
    simp [e2,e3,ih (i+1) (fun e he'=>he e (by simp [he']))]
  rcases es with _ | ⟨e,es⟩
  ·simp [Instr.findKey,run_underlying hK,Instr.findNow,findE]
  obtain ⟨ds,hd⟩:=hagg w e.key (h e (by simp));have hn:Instr.findNow (.struct fs) (.agg cs) (e :: es) 0=none:=by
   unfold Instr.findNow;rw [hd];simp [Instr.sameNow]
  simp only [Instr.findKey,Sem.run_bind,run_underlying hK,Result.andThen_ok,hn];exact key (e :: es) 0 h
 check:=hchk
 stays:=fun w x hx=>by simp [Instr.keyThatStays,hst w x hx]
theorem Tryz.infoI:(Tryz.prog.info? 3).map (fun i=>(i.zero,i.size,i.bytes))=some (some (.int .i64 0),1,8):=by kernel_rfl
def IntF (f:Field) (o:Nat):Prop:=f.name ≠ "_"∧f.type=3∧f.offset=o
theorem part_int {cs:Array Value} {o:Nat} {a:Int} (w:World) (h:cs[o]?=some (.int .i64 a)):(part 3 cs o).run Tryz.prog w = .ok (.int .i64 a) w:=by
 obtain ⟨i0,hi,hz0,hz1,hz2⟩:=info_parts Tryz.infoI;have hg:(isAgg 3).run Tryz.prog w = .ok false w:=by kernel_rfl
 simp [part,hg,sizeOf,typeInfo,hi,hz1,h]
theorem eqF_cons {xs ys:Array Value} {f:Field} {fs:List Field} {o:Nat} {a b:Int} {r:Bool} (w:World) (hf:IntF f o) (hx:xs[o]?=some (.int .i64 a)) (hy:ys[o]?=some (.int .i64 b)) (h:(Op.eqFields 9999 xs ys fs).run Tryz.prog w = .ok r w) :
  (Op.eqFields 9999 xs ys (f :: fs)).run Tryz.prog w = .ok ((a == b) && r) w:=by
 obtain ⟨n0,t0,o0⟩:=hf;have he:(Op.equalIn 9999 3 (.int .i64 a) (.int .i64 b)).run Tryz.prog w = .ok (a == b) w:=run_equalIn_int w 9998 3 .i64 .i64 a b Tryz.underlying3;unfold Op.eqFields;rw [if_pos n0,t0,o0];simp only [Sem.run_bind,part_int w hx,part_int w hy,Result.andThen_ok,he];by_cases q:a=b
 ·subst q;simp [h]
 have:(a == b)=false:=by simpa using q
 simp [this]
theorem chk_int (em:Bool) (a:Int) (w:World):(Instr.checkKey em 9999 3 (.int .i64 a)).run Tryz.prog w = .ok () w:=by
 show (Instr.checkKey em (9998+1) _ _).run Tryz.prog w=_;unfold Instr.checkKey;simp only [Sem.run_bind,run_underlying Tryz.underlying3,Result.andThen];rfl
theorem key2 {K:TypeId} {f0 f1:Field} (hK:Tryz.prog.underlying K=some (.struct #[f0,f1])) (h0:IntF f0 0) (h1:IntF f1 1) (hp:Tryz.prog.stoodInHeld K=false):RawKey Tryz.prog K good2:=by
 have hfo:Tryz.prog.fieldsOf K = #[f0,f1]:=by unfold Program.fieldsOf;rw [hK]
 refine rawAgg hK (fun w x ⟨a,b,h⟩=>⟨_,h⟩) ?_ ?_ ?_
 ·rintro w x y ⟨a,b,rfl⟩ ⟨c,d,rfl⟩;refine ⟨(a == c) && ((b == d) && true),?_,by simp⟩;show (Op.equalIn (9999+1) _ _ _).run Tryz.prog w=_;rw [run_equalIn_struct w 9999 _ _ _ (by rw [hfo];exact hK) hp,hfo];exact eqF_cons w h0 rfl rfl (eqF_cons w h1 rfl rfl rfl)
 ·rintro w em x ⟨a,b,rfl⟩;show (Instr.checkKey em (9999+1) K _).run Tryz.prog w=_;unfold Instr.checkKey;simp only [Sem.run_bind,run_underlying hK,Result.andThen_ok];rw [←Array.forIn_toList];simp only [List.forIn_cons,List.forIn_nil,h0.1,h1.1,h0.2.1,h1.2.1,h0.2.2,h1.2.2,ne_eq,not_false_eq_true,if_true,Sem.run_bind,part_int w (show (#[Value.int .i64 a,.int .i64 b]:Array Value)[0]?=some _ from rfl),part_int w (show (#[Value.int .i64 a,.int .i64 b]:Array Value)[1]?=some _ from rfl),Result.andThen_ok,chk_int,Sem.run_pure]
 rintro w x ⟨a,b,rfl⟩;simp [Instr.sameBits]
theorem key4 {K:TypeId} {f0 f1 f2 f3:Field} (hK:Tryz.prog.underlying K=some (.struct #[f0,f1,f2,f3])) (h0:IntF f0 0) (h1:IntF f1 1) (h2:IntF f2 2) (h3:IntF f3 3) (hp:Tryz.prog.stoodInHeld K=false):RawKey Tryz.prog K good4:=by
 have hfo:Tryz.prog.fieldsOf K = #[f0,f1,f2,f3]:=by unfold Program.fieldsOf;rw [hK]
 refine rawAgg hK (fun w x ⟨a,b,c,d,h⟩=>⟨_,h⟩) ?_ ?_ ?_
 ·rintro w x y ⟨a,b,c,d,rfl⟩ ⟨a',b',c',d',rfl⟩;refine ⟨(a == a') && ((b == b') && ((c == c') && ((d == d') && true))),?_,by simp [and_assoc]⟩;show (Op.equalIn (9999+1) _ _ _).run Tryz.prog w=_;rw [run_equalIn_struct w 9999 _ _ _ (by rw [hfo];exact hK) hp,hfo];exact eqF_cons w h0 rfl rfl (eqF_cons w h1 rfl rfl (eqF_cons w h2 rfl rfl (eqF_cons w h3 rfl rfl rfl)))
 ·rintro w em x ⟨a,b,c,d,rfl⟩;show (Instr.checkKey em (9999+1) K _).run Tryz.prog w=_;unfold Instr.checkKey;simp only [Sem.run_bind,run_underlying hK,Result.andThen_ok];rw [←Array.forIn_toList];simp only [List.forIn_cons,List.forIn_nil,h0.1,h1.1,h2.1,h3.1,h0.2.1,h1.2.1,h2.2.1,h3.2.1,h0.2.2,h1.2.2,h2.2.2,h3.2.2,ne_eq,not_false_eq_true,if_true,Sem.run_bind,part_int w (show (#[Value.int .i64 a,.int .i64 b,.int .i64 c,.int .i64 d]:Array Value)[0]?=some _ from rfl),part_int w (show (#[Value.int .i64 a,.int .i64 b,.int .i64 c,.int .i64 d]:Array Value)[1]?=some _ from rfl),part_int w (show (#[Value.int .i64 a,.int .i64 b,.int .i64 c,.int .i64 d]:Array Value)[2]?=some _ from rfl),part_int w (show (#[Value.int .i64 a,.int .i64 b,.int .i64 c,.int .i64 d]:Array Value)[3]?=some _ from rfl),Result.andThen_ok,chk_int,Sem.run_pure]
 rintro w x ⟨a,b,c,d,rfl⟩;simp [Instr.sameBits]
theorem keyI:RawKey Tryz.prog 3 goodI:=rawInt Tryz.underlying3
theorem keyS:RawKey Tryz.prog 9 goodS:=rawString Tryz.underlying9
theorem keyPlace:RawKey Tryz.prog 218 good2:=key2 Tryz.underlying218 ⟨by decide,rfl,rfl⟩ ⟨by decide,rfl,rfl⟩ (by kernel_rfl)
theorem keyQuest:RawKey Tryz.prog 165 good2:=key2 Tryz.underlying165 ⟨by decide,rfl,rfl⟩ ⟨by decide,rfl,rfl⟩ (by kernel_rfl)
theorem keyBal:RawKey Tryz.prog 238 good4:=key4 Tryz.underlying238 ⟨by decide,rfl,rfl⟩ ⟨by decide,rfl,rfl⟩ ⟨by decide,rfl,rfl⟩ ⟨by decide,rfl,rfl⟩ (by kernel_rfl)
section
open Go.RowKit
def RowK {α:Type} (k:Nat) (enc:α→List Value) (w:World) (ao:Option Addr) (l:List α):Prop:=
 ∀i x,l[i]?=some x→∃b off,ao=some ⟨b,off,none⟩∧b<w.heap.size∧∀j v,(enc x)[j]?=some v→w.cell? ⟨b,off+i * k+j,none⟩=some v
theorem RowK.nil {α:Type} (k:Nat) (enc:α→List Value) (w:World) (ao:Option Addr):RowK k enc w ao []:=fun i x h=>by simp at h
theorem RowK.later {α:Type} {k:Nat} {enc:α→List Value} {w w':World} {ao:Option Addr} {l:List α} (h:RowK k enc w ao l) (hb:Below w.heap.size w w'):RowK k enc w' ao l:=fun i x hx=>by
 obtain ⟨b,off,e,h1,h2⟩:=h i x hx;exact ⟨b,off,e,Nat.lt_of_lt_of_le h1 hb.size,fun j v hv=>by rw [hb.cell (p:=⟨b,off+i * k+j,none⟩) h1];exact h2 j v hv⟩
theorem RowK.alloc {α:Type} {k:Nat} {enc:α→List Value} {w:World} {ao:Option Addr} {l:List α} (h:RowK k enc w ao l) (o:Obj):RowK k enc (w.alloc o) ao l:=h.later ((Below.refl _ _).alloc (Nat.le_refl _) o)
theorem flat_get {α:Type} {k:Nat} {enc:α→List Value} (hk:∀x,(enc x).length=k):∀(l:List α) (i:Nat) (x:α) (j:Nat) (v:Value),l[i]?=some x→(enc x)[j]?=some v→(l.flatMap enc)[i * k+j]?=some v
 | [],i,x,j,v,h,_=>by simp at h
 | y :: r,0,x,j,v,h,hv=>by
  simp at h;subst h;have hj:j<(enc y).length:=(List.getElem?_eq_some_iff.1 hv).1;rw [List.flatMap_cons,Nat.zero_mul,Nat.zero_add,List.getElem?_append_left hj];exact hv
 | y :: r,i+1,x,j,v,h,hv=>by
  have e:(i+1) * k+j=(enc y).length+(i * k+j):=by rw [hk y,Nat.succ_mul];omega
  rw [List.flatMap_cons,e,List.getElem?_append_right (by omega),Nat.add_sub_cancel_left];exact flat_get hk r i x j v (by simpa using h) hv
theorem flat_length {α:Type} {k:Nat} {enc:α→List Value} (hk:∀x,(enc x).length=k) (l:List α):(l.flatMap enc).length=l.length * k:=by
 induction l with
 | nil=>simp
 | cons a r ih=>rw [List.flatMap_cons,List.length_append,ih,hk a,List.length_cons,Nat.succ_mul];omega
theorem flat_snoc {α:Type} (enc:α→List Value) (l:List α) (x:α):(l ++ [x]).flatMap enc=l.flatMap enc ++ enc x:=by simp
theorem rowK_of_owns {α:Type} {k:Nat} {enc:α→List Value} (hk:∀x,(enc x).length=k) (hk0:0<k) {w:World} {base e n:Nat} {v:Value} {l:List α} (h:w.ownsRow base e k v n (l.flatMap enc)) :
  ∃ao cap,v = .slice ao l.length cap∧((ao=none→cap=0)∧l.length≤cap)∧RowK k enc w ao l:=by
 obtain ⟨hlen,h | ⟨g,cap,cur,hv,_,hb,hcap,_,_,ht⟩⟩:=h
 ·obtain ⟨rfl,rfl⟩:=h;rw [flat_length hk] at hlen;have:l = []:=by
   rcases l with _ | ⟨a,r⟩
   ·rfl
   simp [Nat.succ_mul] at hlen;omega
  subst this;exact ⟨none,0,rfl,⟨fun _=>rfl,Nat.le_refl _⟩,RowK.nil _ _ _ _⟩
 rw [flat_length hk] at hlen;have hn:l.length=n:=Nat.eq_of_mul_eq_mul_right hk0 hlen;refine ⟨some ⟨g,0,none⟩,cap,by rw [hv,hn],⟨(fun h=>by cases h),by omega⟩,fun i x hx=>⟨g,0,rfl,?_,fun j v hv=>?_⟩⟩
 ·rcases Nat.lt_or_ge g w.heap.size with h | h
  ·exact h
  rw [Array.getElem?_eq_none h] at hb;cases hb
 rw [Nat.zero_add];have h1:=flat_get hk l i x j v hx hv;rw [←ht] at h1;have h2:i * k+j<n * k:=by
  have:=(List.getElem?_eq_some_iff.1 h1).1;rw [List.length_take] at this;omega
 rw [List.getElem?_take_of_lt h2,Array.getElem?_toList] at h1;simp [World.cell?,hb,h1]
def SlcK {α:Type} (k:Nat) (enc:α→List Value) (w:World) (l:List α) (e:Ending) (w':World):Prop:=
 ∃(ao:Option Addr) (cap:Nat),e = .returned (.slice ao l.length cap)∧((ao=none→cap=0)∧l.length≤cap)∧RowK k enc w' ao l∧Below w.heap.size w w'
theorem cells_new (W:World) (cs:List Value) (t:TypeId):∀j u,cs[j]?=some u→(W.alloc (.cells cs.toArray t)).cell? ((⟨W.heap.size,0,none⟩:Addr).add j)=some u:=by
 intro j u hu;have e:(Addr.add ⟨W.heap.size,0,none⟩ j)=⟨W.heap.size,j,none⟩:=by unfold Addr.add;split <;> simp_all
 rw [e];unfold World.cell?;rw [show (⟨W.heap.size,j,none⟩:Addr).block=W.heap.size from rfl,heap_alloc_new W];simpa using hu
theorem cells_at (W:World) (cs:List Value) (t:TypeId) (a:Nat) (ha:W.heap.size=a):∀j u,cs[j]?=some u→(W.alloc (.cells cs.toArray t)).cell? ((⟨a,0,none⟩:Addr).add j)=some u:=by
 subst ha;exact cells_new W cs t
theorem owns_ne {w:World} {base e k n:Nat} {v:Value} {xs:List Value} (h:w.ownsRow base e k v n xs) (g:Nat) (hg:w.heap.size≤g):v.ownBlock≠some g:=by
 obtain ⟨_,h | ⟨g',cap,cur,rfl,h1,hb,_⟩⟩:=h
 ·rw [h.1];simp [Value.ownBlock]
 have:=(gE hb).1;simp [Value.ownBlock];omega
theorem keep_cell {X w1:World} {v:Value} {g o:Nat} {u:Value} (gr:X.grownBy w1 v.ownBlock) (hc:X.cell? ⟨g,o,none⟩=some u) (hne:v.ownBlock≠some g):w1.cell? ⟨g,o,none⟩=some u:=by
 have hl:=World.block_lt_of_cell? _ _ hc;rw [World.cell?_of_block (w:=X) (gr.block g hl (fun h=>hne h.symm))];exact hc
theorem cell_box (W:World) (cs:Array Value) (t:TypeId) (o:Nat) (u:Value) (hu:cs[o]?=some u) (a:Nat) (ha:W.heap.size=a):(W.alloc (.cells cs t)).cell? ⟨a,o,none⟩=some u:=by
 subst ha;unfold World.cell?;rw [show (⟨W.heap.size,o,none⟩:Addr).block=W.heap.size from rfl,heap_alloc_new W];simpa using hu
theorem cell_up {W:World} {g o:Nat} {u:Value} (h:W.cell? ⟨g,o,none⟩=some u) (ob:Obj):(W.alloc ob).cell? ⟨g,o,none⟩=some u:=by
 rw [World.cell?_of_block (w:=W) (Below.heap_alloc W ob g (World.block_lt_of_cell? _ _ h))];exact h
theorem grown_own {B:Nat} {w X w1:World} {e k:Nat} {v:Value} {n:Nat} {xs:List Value} (hX:Below B w X) (hB:B≤w.heap.size) (ho:X.ownsRow B e k v n xs) (gr:X.grownBy w1 v.ownBlock):Below B w w1:=
 hX.grown gr (Nat.le_trans hB hX.size) (fun j hj=>by
  obtain ⟨_,h | ⟨g,cap,cur,rfl,h1,_⟩⟩:=ho
  ·rw [h.1] at hj;simp [Value.ownBlock] at hj
  simp [Value.ownBlock] at hj;omega)
theorem flat_of {α:Type} {k:Nat} {enc:α→List Value} (hk:∀x,(enc x).length=k) (hk0:0<k):∀(l:List α) (j:Nat) (u:Value),(l.flatMap enc)[j]?=some u→∃i x r,l[i]?=some x∧(enc x)[r]?=some u∧j=i * k+r
 | [],j,u,h=>by simp at h
 | y :: t,j,u,h=>by
  rw [List.flatMap_cons] at h;rcases Nat.lt_or_ge j k with hj | hj
  ·rw [List.getElem?_append_left (by rw [hk];exact hj)] at h;exact ⟨0,y,j,rfl,h,by omega⟩
  rw [List.getElem?_append_right (by rw [hk];exact hj),hk] at h;obtain ⟨i,x,r,h1,h2,h3⟩:=flat_of hk hk0 t _ u h;exact ⟨i+1,x,r,by simpa using h1,h2,by rw [Nat.succ_mul];omega⟩
theorem RowK.news {α:Type} {k:Nat} {enc:α→List Value} (hk:∀x,(enc x).length=k) (hk0:0<k) {w:World} {ad:Addr} {l:List α} (h:RowK k enc w (some ad) l):∀j u,(l.flatMap enc)[j]?=some u→w.cell? (ad.add j)=some u:=by
 intro j u hu;obtain ⟨i,x,r,h1,h2,rfl⟩:=flat_of hk hk0 l j u hu;obtain ⟨b,off,e,_,hc⟩:=h i x h1;simp only [Option.some.injEq] at e;subst e;have e:(Addr.add ⟨b,off,none⟩ (i * k+r))=⟨b,off+i * k+r,none⟩:=by unfold Addr.add;split <;> simp_all [Nat.add_assoc]
 rw [e];exact hc r u h2
theorem flat_one {α:Type} {enc:α→List Value} (h:∀x,∀u∈enc x,u.oneCell'=true) (l:List α):∀u∈l.flatMap enc,u.oneCell'=true:=by
 intro u hu;rw [List.mem_flatMap] at hu;obtain ⟨x,_,hx⟩:=hu;exact h x u hx
theorem owns_emptyK {α:Type} (enc:α→List Value) (k:Nat) (w:World) (e:TypeId):(w.alloc (.cells #[] e)).ownsRow w.heap.size e k (.slice (some ⟨w.heap.size,0,none⟩) 0 0) 0 (([]:List α).flatMap enc):=
 ⟨by simp,.inr ⟨w.heap.size,0,#[],rfl,Nat.le_refl _,heap_alloc_new w _,Nat.le_refl _,by unfold maxLen;omega,by simp,by simp⟩⟩
theorem wpList_append_row {α:Type} {P:Program} {w:World} {ops:Array Oper} {rest:List Oper} {o:Oper} {a:Act} {Q:Exit→Act→World→Prop} (hgd:o.guard=none) (s x:Operand) (t:TypeId)
  (ho:o.op = .call {callee:=.builtin .append,args:=#[s,x],argTypes:=#[t,t]})
  (base:Nat) (e:TypeId) (i:TypeInfo) (z:Value) (size bytes:Nat) (ht:P.underlying t=some (.slice e)) (hi:P.info? e=some i) (hz:i.zero=some z)
  (hsize:i.size=size) (hby:i.bytes=bytes) (hzs:z.cells.size=size) (hsz:0<size)
  (v:Value) (n:Nat) (xs:List Value) (hs:a.eval s=v) (hown:w.ownsRow base e size v n xs)
  (enc:α→List Value) (hk:∀x,(enc x).length=size) (h1:∀x,∀u∈enc x,u.oneCell'=true) (bo:Option Addr) (m c:Nat) (l:List α) (hx:a.eval x = .slice bo m c) (hl:l.length=m) (hc:(bo=none→c=0)∧m≤c) (hrow:RowK size enc w bo l)
  (h63:n+m≤maxLen) (hbytes:(n+m) * bytes≤140737488355328) (hbase:base≤w.heap.size)
  (h:∀v' w',w'.ownsRow base e size v' (n+m) (xs ++ l.flatMap enc)→w.grownBy w' v.ownBlock→wpList P ops Q rest (a.put o.dst v') w'):wpList P ops Q (o :: rest) a w:=by
 rcases bo with _ | ad
 ·obtain rfl:=hc.1 rfl;obtain rfl:m=0:=by omega
  obtain rfl:l = []:=List.eq_nil_of_length_eq_zero hl;exact wpList_append_own_none hgd s x t ho base e i size ht hi v n xs hs hown hx (h v w (by simpa using hown) (World.grownBy.refl _ _))
 exact wpList_append_own w hgd s x t ho base e i z size bytes ht hi hz hsize hby hzs hsz v n xs hs hown ad m c (l.flatMap enc) hx (by rw [flat_length hk,hl]) (hrow.news hk hsz) (flat_one h1 l) h63 hbytes hbase (fun v' w' h2 h3 _=>h v' w' h2 h3)
def encT (s:ByteArray):List Value:=[.string s]
theorem encT_len (x:ByteArray):(encT x).length=1:=rfl
theorem encT_one (x:ByteArray):∀u∈encT x,u.oneCell'=true:=by intro u hu;simp [encT] at hu;subst hu;rfl
theorem Tryz.infoStr:(Tryz.prog.info? 9).map (fun i=>(i.zero,i.size,i.bytes))=some (some (.string (ByteArray.mk #[])),1,16):=by kernel_rfl
theorem RowK.str {w:World} {ao:Option Addr} {l:List ByteArray} (h:RowK 1 encT w ao l) {i:Nat} (hi:i<l.length):∃b off,ao=some ⟨b,off,none⟩∧b<w.heap.size∧w.cell? ⟨b,off+i,none⟩=some (.string l[i]):=by
 obtain ⟨b,off,e,h1,h2⟩:=h i l[i] (List.getElem?_eq_getElem hi);exact ⟨b,off,e,h1,by simpa using h2 0 _ rfl⟩
theorem fin_T {w w1:World} {v:Value} {n e:Nat} {l:List ByteArray} (ho:w1.ownsRow w.heap.size e 1 v n (l.flatMap encT)) (hb:Below w.heap.size w w1):SlcK 1 encT w l (.returned v) w1:=by
 obtain ⟨ao,cap,rfl,h1,h2⟩:=rowK_of_owns encT_len (by decide) ho;exact ⟨ao,cap,rfl,h1,h2,hb⟩
end
section
open Go.RowKit
structure Chg (C:Nat→Prop) (W W':World):Prop where
 os:W'.os=W.os
 tape:W'.tape=W.tape
 output:W'.output=W.output
 size:W.heap.size≤W'.heap.size
 block:∀k,k<W.heap.size→¬C k→W'.heap[k]?=W.heap[k]?
theorem Chg.refl (C:Nat→Prop) (W:World):Chg C W W:=⟨rfl,rfl,rfl,Nat.le_refl _,fun _ _ _=>rfl⟩
theorem Chg.mono {C C':Nat→Prop} {W W':World} (h:Chg C W W') (hc:∀k,k<W.heap.size→C k→C' k):Chg C' W W':=⟨h.os,h.tape,h.output,h.size,fun k hk hn=>h.block k hk (fun c=>hn (hc k hk c))⟩
theorem Chg.trans {C:Nat→Prop} {X Y Z:World} (h:Chg C X Y) (h2:Chg (fun k=>C k∨X.heap.size≤k) Y Z):Chg C X Z:=
 ⟨h2.os.trans h.os,h2.tape.trans h.tape,h2.output.trans h.output,Nat.le_trans h.size h2.size,fun k hk hn=>(h2.block k (Nat.lt_of_lt_of_le hk h.size) (fun c=>by rcases c with c | c;exact hn c;omega)).trans (h.block k hk hn)⟩
theorem Chg.alloc (C:Nat→Prop) (W:World) (o:Obj):Chg C W (W.alloc o):=⟨rfl,rfl,rfl,by simp,fun k hk _=>Below.heap_alloc W o k hk⟩
theorem Chg.drew (C:Nat→Prop) (W:World):Chg C W W.drew:=⟨rfl,rfl,rfl,Nat.le_refl _,fun _ _ _=>rfl⟩
theorem Chg.grown {C:Nat→Prop} {W W':World} {row:Option Nat} (h:W.grownBy W' row) (hc:∀k,row=some k→C k):Chg C W W':=⟨h.os,h.tape,h.output,h.size,fun k hk hn=>h.block k hk (fun e=>hn (hc k e.symm))⟩
theorem Chg.of_below {C:Nat→Prop} {B:Nat} {W W':World} (h:Below B W W') (hc:∀k,B≤k→k<W.heap.size→C k):Chg C W W':=
 ⟨h.os,h.tape,h.output,h.size,fun k hk hn=>h.block k (by rcases Nat.lt_or_ge k B with h1 | h1;exact h1;exact absurd (hc k h1 hk) hn)⟩
theorem Chg.below {C:Nat→Prop} {B:Nat} {W W':World} (h:Chg C W W') (hB:B≤W.heap.size) (hc:∀k,C k→B≤k):Below B W W':=
 ⟨h.os,h.tape,h.output,h.size,fun k hk=>h.block k (by omega) (fun c=>by have:=hc k c;omega)⟩
theorem Chg.put {C:Nat→Prop} (W:World) (l:Nat) (o:Obj) (hc:C l):Chg C W (W.putObj l o):=Chg.grown (grownBy_putObj' W l o) (fun k e=>by cases e;exact hc)
theorem Chg.cell {C:Nat→Prop} {W W':World} (h:Chg C W W') {p:Addr} {v:Value} (hv:W.cell? p=some v) (hn:¬C p.block):W'.cell? p=some v:=by
 rw [World.cell?_of_block (w:=W) (h.block p.block (World.block_lt_of_cell? _ _ hv) hn)];exact hv
theorem wide_call {n:Nat} {P:Program} {f:FuncId} {args:Array Value} {w:World} {R R':Ending→World→Prop} (h:Calls P f args w R) (hR:∀e w',R e w'→R' e w'):Fence.wide.fn f∧(Fence.wide.depth.isSome=true→1≤n)∧CallsIn Fence.wide (n - 1) P f args w R':=
 ⟨trivial,fun h=>absurd h (by simp [Fence.wide]),(callsIn_wide.2 h).mono hR⟩
theorem wide_callR {l n:Nat} {P:Program} {f:FuncId} {args:Array Value} {w:World} {R R':Ending→World→Prop} (h:Calls P f args w R) (hR:∀e w',R e w'→R' e w'):(Fence.wide.inRound l).fn f∧((Fence.wide.inRound l).depth.isSome=true→1≤n)∧CallsIn (Fence.wide.inRound l) (n - 1) P f args w R':=
 ⟨trivial,fun h=>absurd h (by simp [Fence.wide,Fence.inRound]),((callsIn_wide.2 h).inRound l).mono hR⟩
def SeqAll {α:Type} (n:Nat) (P:Program) (g:Nat) (lb:Array Value) (encs:α→Array Value) (X:Nat→Prop) (xs:List α) (w:World):Prop:=
 ∀(l:Nat) (J:List α→(Nat→Prop)→World→Prop) (O:Nat→Prop) (W:World),Below w.heap.size w W→(∀k,O k→k<w.heap.size∧¬X k) →
  (∀s O A B C,J s O A→Chg C A B→(∀k,C k→W.heap.size≤k∧¬O k)→J s O B) →
  (∀pre x rest O1 W1,xs=pre ++ x :: rest→J pre O1 W1→YieldAt Fence.wide (n - 1) P l (encs x) W1 fun e W'=>
   e = .returned (.bool true)∧∃O2,J (pre ++ [x]) O2 W'∧Chg O1 W1 W'∧∀k,O2 k→O1 k∨W1.heap.size≤k) →
  J [] O W →
  CallsIn Fence.wide n P g (#[.func (.yield l) #[] #[]] ++ lb) W fun e W'=>(∃v,e = .returned v)∧∃O',J xs O' W'
def roundEnd {α:Type} (I:List α→(Nat→Prop)→World→Prop) (xs:List α) (O:Nat→Prop) (W:World):Exit→Act→World→Prop
 | .normal,_,W'=>∃O',I xs O' W'∧Chg O W W'∧∀k,O' k→O k∨W.heap.size≤k
 | _,_,_=>False
theorem wpIn_range_all {α:Type} {n:Nat} {P:Program} {g:Operand} {ps:Array Tmp} {assign body:Code} {Q:Exit→Act→World→Prop} {a:Act} {w:World}
  {gf:Nat} {lb:Array Value} (hg:a.eval g = .func (.func gf) #[] lb) (eg:∀args w,(callFunc gf args).run P w = .ok (.enter gf args) w)
  {encs:α→Array Value} {X:Nat→Prop} {xs:List α} (hseq:SeqAll (n - 1) P gf lb encs X xs w) (hps:∀x,(encs x).size=ps.size)
  (I:List α→(Nat→Prop)→World→Prop) (O0:Nat→Prop) (hO0:∀k,O0 k→k<w.heap.size∧¬X k)
  (hI:∀s O A B C,I s O A→Chg C A B→(∀k,C k→w.heap.size≤k∧¬O k)→I s O B) (h0:I [] O0 w)
  (M:List α→α→Act→(Nat→Prop)→World→Prop) (hM:∀s x a' O A B C,M s x a' O A→Chg C A B→(∀k,C k→w.heap.size≤k∧¬O k)→M s x a' O B)
  (hassign:∀(l:Nat) (pre:List α) (x:α) (rest:List α) (O:Nat→Prop) (W:World) (K:Act→World→Prop),xs=pre ++ x :: rest→I pre O W→(∀a' O' W',M pre x a' O' W'→Chg O W W'→(∀k,O' k→O k∨W.heap.size≤k)→K a' W') →
   assign.wpIn (Fence.wide.inRound l) (n - 1 - 1) P (Exit.then K (fun _ _ _=>False)) {tmps:=(ps.zip (encs x)).foldl (fun t (p,v)=>t.setIfInBounds p v) a.tmps,defers:=[]} W)
  (hbody:∀(l:Nat) (pre:List α) (x:α) (rest:List α) (a':Act) (O:Nat→Prop) (W:World),xs=pre ++ x :: rest→M pre x a' O W→body.wpIn (Fence.wide.inRound l) (n - 1 - 1) P (roundEnd I (pre ++ [x]) O W) a' W)
  (hdone:∀(D:Nat) (O:Nat→Prop) (W:World),w.heap.size≤D→¬O D→I xs O W→W.heap[D]?=some (.deferred (some []))→Q .normal {a with defers:={target:=.collected D,args:=#[]} :: a.defers} W) :
  (Code.rangeFunc g ps assign body).wpIn Fence.wide n P Q a w:=by
 refine wpIn_rangeFunc ?_;intro fn hfn;rw [show Fence.wide.round=none from rfl];obtain ⟨rc,hrc⟩:∃rc:LoopState→Loop,rc=fun st=>{state:=st,pending:=none,fn,tmps:=a.tmps,params:=ps,assign,body,defers:=w.heap.size}:=⟨_,rfl⟩;obtain ⟨V,hV⟩:∃V,(w.alloc (.deferred (some []))).alloc (.loop (rc .ready))=V:=⟨_,rfl⟩;have hVs:V.heap.size=w.heap.size+2:=by rw [←hV];simp
 have hVl:V.heap[w.heap.size+1]?=some (.loop (rc .ready)):=by
  rw [←hV];have:=World.alloc_heap_new (w.alloc (.deferred (some []))) (.loop (rc .ready));rwa [World.size_alloc] at this
 have hVd:V.heap[w.heap.size]?=some (.deferred (some [])):=by
  rw [←hV,Below.heap_alloc _ _ _ (by simp)];exact World.alloc_heap_new w _
 have hcV:Chg (fun _=>False) w V:=by rw [←hV];exact (Chg.alloc _ _ _).trans (Chg.alloc _ _ _)
 have hIV:I [] O0 V:=hI _ _ _ _ _ h0 hcV (fun k h=>h.elim);refine ⟨w.heap.size+1,[{target:=.collected w.heap.size,args:=#[]}],V,{target:=.fn (.func gf) lb,args:=#[.func (.yield (w.heap.size+1)) #[] #[]]},V,gf,
  #[.func (.yield (w.heap.size+1)) #[] #[]] ++ lb,V,?_,?_,fun _ _=>trivial,?_,fun h=>by simp [Fence.wide] at h,?_⟩
 ·rw [←hV,hrc];exact run_enterLoop_outer _ _ _ _ _
 ·simp only [resolve,hg];simp [go_sem]
 ·simp [invoke,go_sem,eg]
 refine (hseq (w.heap.size+1)
  (fun pre O W=>I pre O W∧W.heap[w.heap.size+1]?=some (.loop (rc .ready))∧W.heap[w.heap.size]?=some (.deferred (some []))∧¬O (w.heap.size+1)∧¬O w.heap.size)
  O0 V (hcV.below (Nat.le_refl _) (fun k h=>h.elim)) hO0 ?_ ?_ ⟨hIV,hVl,hVd,fun h=>by have:=(hO0 _ h).1;omega,fun h=>by have:=(hO0 _ h).1;omega⟩).mono ?_
 ·rintro s O A B C ⟨h1,h2,h3,h4,h5⟩ hc hC;refine ⟨hI _ _ _ _ _ h1 hc (fun k hk=>⟨by have:=(hC k hk).1;omega,(hC k hk).2⟩),?_,?_,h4,h5⟩
  ·rw [hc.block _ (gE h2).1 (fun h=>by have:=(hC _ h).1;omega)];exact h2
  rw [hc.block _ (gE h3).1 (fun h=>by have:=(hC _ h).1;omega)];exact h3
 ·rintro pre x rest O W hxs ⟨hi,hl,hd,nl,nd⟩;have hlt:w.heap.size+1<W.heap.size:=(gE hl).1;have hy:=run_yield (P:=P) (args:=encs x) hl (by rw [hrc];exact hps x);rw [hrc] at hy;refine ⟨fn,_,assign,body,hy,roundIn_of_wpIn hfn (hassign _ pre x rest O W _ hxs hi ?_)⟩;intro a' Oa Wa hm hca hoa;have hla:Wa.heap[w.heap.size+1]?=some (.loop (rc .ready)):=by rw [hca.block _ hlt nl];exact hl
  have hda:Wa.heap[w.heap.size]?=some (.deferred (some [])):=by rw [hca.block _ (by omega) nd];exact hd
  have hlta:=(gE hla).1;have nla:¬Oa (w.heap.size+1):=fun h=>by rcases hoa _ h with h | h;exact nl h;omega
  have nda:¬Oa w.heap.size:=fun h=>by rcases hoa _ h with h | h;exact nd h;omega
  refine ⟨_,run_beginRound hla (by rw [hrc]),?_⟩;obtain ⟨V2,hV2⟩:∃V2,Wa.putObj (w.heap.size+1) (.loop {rc .ready with state:=.busy})=V2:=⟨_,rfl⟩;have hl2:V2.heap[w.heap.size+1]?=some (.loop (rc .busy)):=by rw [←hV2,World.putObj_heap_same hlta,hrc]
  have hd2:V2.heap[w.heap.size]?=some (.deferred (some [])):=by rw [←hV2,World.putObj_heap_other (by omega)];exact hda
  have hc2:Chg (fun k=>k=w.heap.size+1) Wa V2:=by rw [←hV2];exact Chg.put _ _ _ rfl
  have hs2:V2.heap.size=Wa.heap.size:=by rw [←hV2];simp
  rw [hV2];have hm2:=hM _ _ _ _ _ _ _ hm hc2 (fun k hk=>by subst hk;exact ⟨by omega,nla⟩);refine wpIn_mono (hbody _ pre x rest a' Oa V2 hxs hm2) ?_;rintro e a3 W3 hp;have hsa:=hca.size;cases e with
  | normal=>
   obtain ⟨O',hi3,hc3,ho3⟩:=hp;have hl3:W3.heap[w.heap.size+1]?=some (.loop (rc .busy)):=by rw [hc3.block _ (by omega) nla];exact hl2
   have hd3:W3.heap[w.heap.size]?=some (.deferred (some [])):=by rw [hc3.block _ (by omega) nda];exact hd2
   have hlt3:=(gE hl3).1;have nl':¬O' (w.heap.size+1):=fun h=>by rcases ho3 _ h with h | h;exact nla h;omega
   have nd':¬O' w.heap.size:=fun h=>by rcases ho3 _ h with h | h;exact nda h;omega
   have her:({rc .busy with state:=if (none:Option Code).isNone then .ready else .done,pending:=none}:Loop)=rc .ready:=by rw [hrc];rfl
   have hre:=run_endRound (P:=P) none hl3;rw [her] at hre;refine ⟨_,_,hre,rfl,O',⟨hI _ _ _ _ (fun k=>k=w.heap.size+1) hi3 (Chg.put _ _ _ rfl) (fun k hk=>by subst hk;exact ⟨by omega,nl'⟩),World.putObj_heap_same hlt3,by rw [World.putObj_heap_other (by omega)];exact hd3,nl',nd'⟩,?_,fun k hk=>?_⟩
   ·refine ⟨hc3.os.trans (hc2.os.trans hca.os),hc3.tape.trans (hc2.tape.trans hca.tape),hc3.output.trans (hc2.output.trans hca.output),by rw [World.putObj_size];have:=hc3.size;omega,fun k hk hn=>?_⟩;by_cases e:k=w.heap.size+1
    ·subst e;rw [World.putObj_heap_same hlt3];exact hl.symm
    rw [World.putObj_heap_other e,hc3.block k (by omega) (fun h=>by rcases hoa k h with h | h;exact hn h;omega),hc2.block k (by omega) e,hca.block k hk hn]
   ·rcases ho3 k hk with h | h
    ·exact hoa k h
    ·exact .inr (by omega)
  | ret=>exact hp.elim
  | exit id=>exact hp.elim
  | goto t=>exact hp.elim
  | panic ch=>exact hp.elim
  | outgrown=>exact hp.elim
 rintro e W2 ⟨⟨v,rfl⟩,O',hi,hl,hd,nl,nd⟩;have hre:=run_endLoop (P:=P) hl (by rw [hrc];simp);rw [show (rc .ready).pending=none by rw [hrc]] at hre;refine ⟨none,_,hre,hdone _ O' _ (Nat.le_refl _) nd (hI _ _ _ _ (fun k=>k=w.heap.size+1) hi (Chg.put _ _ _ rfl) (fun k hk=>by subst hk;exact ⟨by omega,nl⟩)) ?_⟩;rw [World.putObj_heap_other (by omega)];exact hd
end
end Go.Proofs.YtifcdjmcoibblaaGreatDoor
