/- EMpI EVfy EVld EFeq EOps EVlw -/
import Derived.Test.YtifcdjmcoibblaaGreatDoorFq03
import Derived.Test.YtifcdjmcoibblaaGreatDoorFq11
import Derived.Test.YtifcdjmcoibblaaGreatDoorFq12
import Derived.Test.YtifcdjmcoibblaaGreatDoorFq01
import Derived.Laws.StructEq
import Derived.Shelf.Abstract
import Derived.Deep.DeepCutAuto
import Derived.Shelf.SlSortCmp.QuietGrown
import Derived.Shelf.SlSortCmp.KitK
import Derived.Laws.EntriesVeiled
import Derived.Deep.QuietTactic
set_option linter.unusedVariables false
set_option linter.unusedSimpArgs false
set_option linter.unusedSectionVars false
set_option maxRecDepth 100000
set_option maxHeartbeats 80000000
namespace Go.Proofs.YtifcdjmcoibblaaGreatDoor
section
namespace Fk
open Go.RowKit
def goodI (w:World) (x:Value):Prop:=∃n:Int,x = .int .i64 n
theorem findNow_int (x:Int):∀(es:List MapEntry) (i:Nat),(∀e∈es,∃n:Int,e.key = .int .i64 n)→Instr.findNow (.int .i64) (.int .i64 x) es i=some (findE (.int .i64 x) es i)
 | [],i,_=>rfl
 | e :: es,i,h=>by
  obtain ⟨s,hs⟩:=h e (by simp);have ih:=findNow_int x es (i+1) (fun e he=>h e (by simp [he]));unfold Instr.findNow findE;rw [hs];by_cases hx:x=s
  ·subst hx;simp [Instr.sameNow]
  have hne:¬s=x:=fun h=>hx h.symm;have hb:(x == s)=false:=by simpa using hx
  simp [Instr.sameNow,hb,hne,ih]
theorem rawInt {P:Program} {K:TypeId} (hK:P.underlying K=some (.int .i64)):RawKey P K goodI where
 find:=fun w x es ⟨s,hs⟩ h=>by
  subst hs;simp [Instr.findKey,run_underlying hK,findNow_int s es 0 h]
 check:=fun w em x ⟨s,hs⟩=>by
  subst hs;show (Instr.checkKey em (9999+1) K _).run P w=_;unfold Instr.checkKey;simp only [Sem.run_bind,run_underlying hK,Result.andThen];rfl
 stays:=fun w x ⟨s,hs⟩=>by
  subst hs;simp [Instr.keyThatStays,Instr.sameBits]
theorem keyI:RawKey Tryz.prog 3 goodI:=rawInt Tryz.underlying3
theorem getV_putV_ne {k k' v:Value} (h:k≠k'):∀(L:List (Value×Value)),getV k (putV k' v L)=getV k L
 | []=>by
  have e:¬k'=k:=fun q=>h q.symm;simp [putV,getV,e]
 | p :: L=>by
  unfold putV;split
  ·rename_i hp
   unfold getV;rw [if_neg (fun q=>h q.symm),hp,if_neg (fun q=>h q.symm)]
  rename_i hp
  unfold getV;split
  ·rfl
  exact getV_putV_ne h L
structure MapI (w:World) (b:Nat) (g:Int→Option Value):Prop where
 ex:∃L,RawMap w b L∧(∀p∈L,∃n:Int,p.1 = .int .i64 n)∧∀k,getV (.int .i64 k) L=g k
section
variable {w:World} {b:Nat} {g:Int→Option Value}
theorem MapI.kept {w':World} (h:MapI w b g) (hb:w'.heap[b]?=w.heap[b]?):MapI w' b g:=by
 obtain ⟨L,h1,h2,h3⟩:=h.ex;exact ⟨L,h1.kept hb,h2,h3⟩
theorem MapI.lt (h:MapI w b g):b<w.heap.size:=by
 obtain ⟨L,h1,_⟩:=h.ex;exact h1.lt
theorem MapI.later {w':World} (h:MapI w b g) (hb:Below w.heap.size w w'):MapI w' b g:=h.kept (hb.block b h.lt)
theorem MapI.made (w:World):MapI (w.alloc (.map #[] 0)) w.heap.size (fun _=>none):=⟨⟨[],RawMap.made w,fun p hp=>(by cases hp),fun _=>rfl⟩⟩
theorem MapI.lookup {T E:TypeId} (h:MapI w b g) (hT:Tryz.prog.underlying T=some (.map 3 E)) (k:Int) {z:Value} (hz:(zeroValue E).run Tryz.prog w = .ok z w) (ok:Bool) :
  (Instr.lookup T (.map (some b)) (.int .i64 k) ok).run Tryz.prog w = .ok (if ok then .tuple #[(g k).getD z,.bool (g k).isSome] else (g k).getD z) w:=by
 obtain ⟨L,h1,h2,h3⟩:=h.ex;have:=h1.lookup keyI hT (fun p hp=>h2 p hp) ⟨k,rfl⟩ hz ok;rw [h3 k] at this;exact this
theorem MapI.put (h:MapI w b g) {T E:TypeId} (hT:Tryz.prog.underlying T=some (.map 3 E)) (k:Int) (v:Value) :
  ∃o,(Instr.mapUpdate T (.map (some b)) (.int .i64 k) v).run Tryz.prog w = .ok () (w.putObj b o)∧MapI (w.putObj b o) b (fun j=>if j=k then some v else g j):=by
 obtain ⟨L,h1,h2,h3⟩:=h.ex;obtain ⟨o,hr,hk⟩:=h1.update keyI hT (fun p hp=>h2 p hp) ⟨k,rfl⟩ v;refine ⟨o,hr,⟨_,hk _ (World.putObj_heap_same h1.lt),fun p hp=>?_,fun j=>?_⟩⟩
 ·rcases mem_putV hp with rfl | hp
  ·exact ⟨k,rfl⟩
  exact h2 p hp
 by_cases e:j=k
 ·subst e;rw [getV_putV,if_pos rfl]
 rw [getV_putV_ne (fun q=>e (by injection q)),if_neg e,h3 j]
end
section
variable {w:World} {ops:Array Oper} {rest:List Oper} {o:Oper} {a:Act} {Q:Exit→Act→World→Prop}
theorem wpList_insert_int (hg:o.guard=none) (m x v:Operand) (t:TypeId) (hop:o.op=Op.insert t m x v) {E:TypeId} (ht:Tryz.prog.underlying t=some (.map 3 E)) (b:Nat) {g:Int→Option Value} (hm:a.eval m = .map (some b)) (h:MapI w b g)
  (k:Int) (val:Value) (hx:a.eval x = .int .i64 k) (hv:a.eval v=val)
  (hK:∀ob,MapI (w.putObj b ob) b (fun j=>if j=k then some val else g j)→wpList Tryz.prog ops Q rest (a.put o.dst undef) (w.putObj b ob)):wpList Tryz.prog ops Q (o :: rest) a w:=by
 refine wpList_plain hg fun K' hK'=>?_;obtain ⟨ob,hrun,hr⟩:=h.put ht k val;unfold Oper.wp;simp [execOp,hop,hm,hx,hv,hrun,Result.andThen];exact hK' _ _ (hK ob hr)
theorem wpList_update_int (hg:o.guard=none) (m x v:Operand) (t:TypeId) (hop:o.op=Op.mapUpdate t m x v) {E:TypeId} (ht:Tryz.prog.underlying t=some (.map 3 E)) (b:Nat) {g:Int→Option Value} (hm:a.eval m = .map (some b)) (h:MapI w b g)
  (k:Int) (val:Value) (hx:a.eval x = .int .i64 k) (hv:a.eval v=val)
  (hK:∀ob,MapI (w.putObj b ob) b (fun j=>if j=k then some val else g j)→wpList Tryz.prog ops Q rest (a.put o.dst undef) (w.putObj b ob)):wpList Tryz.prog ops Q (o :: rest) a w:=by
 refine wpList_plain hg fun K' hK'=>?_;obtain ⟨ob,hrun,hr⟩:=h.put ht k val;unfold Oper.wp;simp [execOp,hop,hm,hx,hv,hrun,Result.andThen];exact hK' _ _ (hK ob hr)
end
theorem Below.putNew {B b:Nat} {w w1:World} (h:Below B w w1) (hb:B≤b) (o:Obj):Below B w (w1.putObj b o):=⟨h.os,h.tape,h.output,by rw [World.putObj_size];exact h.size,fun i hi=>by rw [World.putObj_heap_other (by omega)];exact h.block i hi⟩
end Fk
end
section
namespace Fk
open Go.RowKit
theorem BelowD {B:Nat} {w w1:World} (h:Below B w w1) (n:Nat):Below B w (w1.drewN n):=⟨h.os,h.tape,h.output,h.size,h.block⟩
def inB (v lo hi:Int):Bool:=decide (lo≤v) && decide (v≤hi)
theorem within_any (b i:Nat) (lo hi v:Int) (w:World) (hc:w.cell? ⟨b,i,none⟩=some (.int .i64 v)) :
  Calls Tryz.prog 233 #[.agg #[.pointer (some ⟨b,i,none⟩),.int .i64 lo,.int .i64 hi]] w fun e w'=>e = .returned (.bool (inB v lo hi))∧Below w.heap.size w w':=by
 have hlt:=World.block_lt_of_cell? _ _ hc;have c0:=cell_up hc (.cells #[.pointer (some ⟨b,i,none⟩),.int .i64 lo,.int .i64 hi] 286);have B1:=Hd ((Below.refl w.heap.size w).alloc (Nat.le_refl _) (.cells #[.pointer (some ⟨b,i,none⟩),.int .i64 lo,.int .i64 hi] 286));by_cases h:lo≤v
 ·have HE:=Hd (show inB v lo hi=decide (v≤hi) from by unfold inB;rw [decide_eq_true h,Bool.true_and]);have hd:decide (lo≤v)=true:=decide_eq_true h;go_enter Tryz.func233,Tryz.ntmps233
  go_wp2_with fail
  go_quiet (fail)
  go_wp2_with fail
  go_ret;rw [HE.out];exact ⟨rfl,BelowD B1.out _⟩
 have HE:=Hd (show inB v lo hi=false from by unfold inB;rw [decide_eq_false h,Bool.false_and]);have hd:decide (lo≤v)=false:=decide_eq_false h;go_enter Tryz.func233,Tryz.ntmps233
 go_wp2_with fail
 go_quiet (fail)
 go_wp2_with fail
 go_ret;rw [HE.out];exact ⟨rfl,BelowD B1.out _⟩
def kindV (k:Int):Option Value:=
 if k=10 then some (.agg #[.func (.func 268) #[] #[],.bool false,.func (.func 269) #[] #[]])
 else if k=9 then some (.agg #[.func (.func 266) #[] #[],.bool true,.func (.func 267) #[] #[]])
 else if k=8 then some (.agg #[.func (.func 265) #[] #[],.bool false,.func (.func 257) #[] #[]])
 else if k=7 then some (.agg #[.func (.func 263) #[] #[],.bool false,.func (.func 264) #[] #[]])
 else if k=6 then some (.agg #[.func (.func 261) #[] #[],.bool false,.func (.func 262) #[] #[]])
 else if k=5 then some (.agg #[.func (.func 260) #[] #[],.bool false,.func (.func 257) #[] #[]])
 else if k=4 then some (.agg #[.func (.func 258) #[] #[],.bool true,.func (.func 259) #[] #[]])
 else if k=3 then some (.agg #[.func (.func 256) #[] #[],.bool false,.func (.func 257) #[] #[]])
 else if k=2 then some (.agg #[.func (.func 255) #[] #[],.bool false,.func (.func 254) #[] #[]])
 else if k=1 then some (.agg #[.func (.func 253) #[] #[],.bool false,.func (.func 254) #[] #[]])
 else none
theorem kinds_any (w:World):Calls Tryz.prog 232 #[] w fun e w'=>∃m,e = .returned (.map (some m))∧w.heap.size≤m∧MapI w' m kindV∧Below w.heap.size w w':=by
 have hmm:=@run_makeMap Tryz.prog;have MP:=Hd (MapI.made w);have BB:=Hd ((Below.refl w.heap.size w).alloc (Nat.le_refl _) (.map #[] 0));go_enter Tryz.func232,Tryz.ntmps232
 go_wp2_with (refine wpList_insert_int rfl _ _ _ _ rfl Tryz.underlying282 _ rfl MP.out _ _ rfl rfl ?_;intro ob mq;have BB:=Hd (Below.putNew BB.out (Nat.le_refl _) ob);have MP:=Hd mq;clear mq)
 go_ret;exact ⟨_,rfl,Nat.le_refl _,MP.out,BB.out⟩
end Fk
end
section
namespace Fk
open Go.RowKit
def updN (n:Nat→Int) (i:Nat):Nat→Int:=fun j=>if j=i then 0 else n j
def allIn (n:Nat→Int):List Fd→Bool
 | []=>true
 | x :: l=>inB (n x.i) x.lo x.hi && allIn (updN n x.i) l
def zeroN (n:Nat→Int):List Fd→Nat→Int
 | []=>n
 | x :: l=>zeroN (updN n x.i) l
def emptyN (n:Nat→Int) (t:ByteArray) (k v:Int):Bool:=(n 0 == k) && ((n 1 == 0) && ((n 2 == v) && ((n 3 == 0) && ((n 4 == 0) && ((n 5 == 0) && ((n 6 == 0) && ((n 7 == 0) && ((n 8 == 0) && ((n 9 == 0) && ((n 10 == 0) && ((n 11 == 0) && ((n 12 == 0) && ((n 13 == 0) && ((n 14 == 0) && ((n 15 == 0) && ((n 16 == 0) && ((t.toList == (⟨#[]⟩:ByteArray).toList) && true)))))))))))))))))
def headOk (f:PF):Bool:=decide (1≤f.n 2) && decide (f.n 2≤1000) && decide (f.t.size≤2000)
def validL (f:PF) (L:List Fd) (tx:Bool):Bool:=headOk f && (allIn f.n L && emptyN (zeroN f.n L) (if tx then ⟨#[]⟩ else f.t) (f.n 0) (f.n 2))
def validP (f:PF):Bool:=validL f playL false
def RecAt (w:World) (b:Nat) (n:Nat→Int) (t:ByteArray):Prop:=w.heap[b]?=some (.cells (encP ⟨n,t⟩).toArray 247 (0,0))
theorem RecAt.cell {w:World} {b:Nat} {n:Nat→Int} {t:ByteArray} (h:RecAt w b n t) {i:Nat} (hi:i<17):w.cell? ⟨b,i,none⟩=some (.int .i64 (n i)):=by
 have e:∀i:Nat,i<17→(encP ⟨n,t⟩).toArray[i]?=some (.int .i64 (n i)):=by
  intro i hi;match i,hi with
  | 0,_=>rfl | 1,_=>rfl | 2,_=>rfl | 3,_=>rfl | 4,_=>rfl | 5,_=>rfl | 6,_=>rfl | 7,_=>rfl | 8,_=>rfl
  | 9,_=>rfl | 10,_=>rfl | 11,_=>rfl | 12,_=>rfl | 13,_=>rfl | 14,_=>rfl | 15,_=>rfl | 16,_=>rfl
  | k+17,h=>omega
 unfold World.cell?;rw [show (⟨b,i,none⟩:Addr).block=b from rfl,h];exact e i hi
theorem RecAt.frozen {w:World} {b:Nat} {n:Nat→Int} {t:ByteArray} (h:RecAt w b n t) (i:Nat):w.frozen? ⟨b,i,none⟩=false:=by
 unfold World.frozen?;rw [show (⟨b,i,none⟩:Addr).block=b from rfl,h];simp
theorem RecAt.lt {w:World} {b:Nat} {n:Nat→Int} {t:ByteArray} (h:RecAt w b n t):b<w.heap.size:=(gE h).1
theorem RecAt.later {w w':World} {b:Nat} {n:Nat→Int} {t:ByteArray} (h:RecAt w b n t) (hb:Below w.heap.size w w'):RecAt w' b n t:=(hb.block b h.lt).trans h
theorem RecAt.zero {w:World} {b:Nat} {n:Nat→Int} {t:ByteArray} (h:RecAt w b n t) {i:Nat} (hi:i<17):RecAt (w.setCell ⟨b,i,none⟩ (.int .i64 0)) b (updN n i) t:=by
 unfold RecAt at *;have e:(encP ⟨n,t⟩).toArray.setIfInBounds i (.int .i64 0)=(encP ⟨updN n i,t⟩).toArray:=by
  match i,hi with
  | 0,_=>rfl | 1,_=>rfl | 2,_=>rfl | 3,_=>rfl | 4,_=>rfl | 5,_=>rfl | 6,_=>rfl | 7,_=>rfl | 8,_=>rfl
  | 9,_=>rfl | 10,_=>rfl | 11,_=>rfl | 12,_=>rfl | 13,_=>rfl | 14,_=>rfl | 15,_=>rfl | 16,_=>rfl
  | k+17,h=>omega
 simp [World.setCell,Array.getElem?_modify,h,←e]
structure KindOk (f:PF) (kf:Nat) (tx:Bool) (L:List Fd):Prop where
 enter:∀args w,(callFunc kf args).run Tryz.prog w = .ok (.enter kf args) w
 call:∀b w,RecAt w b f.n f.t→Calls Tryz.prog kf #[.pointer (some ⟨b,0,none⟩)] w (FieldsE w b L)
 lt:∀x∈L,x.i<17
 len:L.length≤8
 one:f.n 0=1→L=playL∧tx=false
theorem kind_ok (f:PF):(kindV (f.n 0)=none∧f.n 0≠1)∨∃kf tx kv L,kindV (f.n 0)=some (.agg #[.func (.func kf) #[] #[],.bool tx,.func (.func kv) #[] #[]])∧KindOk f kf tx L:=by
 unfold kindV;by_cases h10:f.n 0=10
 ·refine .inr ⟨268,_,_,methodL,by rw [h10];rfl,enters_of Tryz.func268 (by kernel_rfl) rfl,fun b w h=>method_any b w,by intro x hx;simp only [methodL,List.mem_cons,List.not_mem_nil,or_false] at hx;rcases hx with rfl | rfl | rfl <;> exact Nat.le_of_ble_eq_true rfl,Nat.le_of_ble_eq_true rfl,fun e=>by omega⟩
 by_cases h9:f.n 0=9
 ·refine .inr ⟨266,_,_,rulesL,by rw [h9];rfl,enters_of Tryz.func266 (by kernel_rfl) rfl,fun b w h=>rules_any b w,by intro x hx;simp only [rulesL,List.mem_cons,List.not_mem_nil,or_false] at hx;rcases hx with rfl <;> exact Nat.le_of_ble_eq_true rfl,Nat.le_of_ble_eq_true rfl,fun e=>by omega⟩
 by_cases h8:f.n 0=8
 ·refine .inr ⟨265,_,_,advanceL,by rw [h8];rfl,enters_of Tryz.func265 (by kernel_rfl) rfl,fun b w h=>advance_any b w,by intro x hx;simp only [advanceL,List.mem_cons,List.not_mem_nil,or_false] at hx;rcases hx with rfl | rfl | rfl | rfl <;> exact Nat.le_of_ble_eq_true rfl,Nat.le_of_ble_eq_true rfl,fun e=>by omega⟩
 by_cases h7:f.n 0=7
 ·refine .inr ⟨263,_,_,rateL,by rw [h7];rfl,enters_of Tryz.func263 (by kernel_rfl) rfl,fun b w h=>rate_any b w,by intro x hx;simp only [rateL,List.mem_cons,List.not_mem_nil,or_false] at hx;rcases hx with rfl | rfl | rfl <;> exact Nat.le_of_ble_eq_true rfl,Nat.le_of_ble_eq_true rfl,fun e=>by omega⟩
 by_cases h6:f.n 0=6
 ·refine .inr ⟨261,_,_,subscriptionL,by rw [h6];rfl,enters_of Tryz.func261 (by kernel_rfl) rfl,fun b w h=>subscription_any b w,by intro x hx;simp only [subscriptionL,List.mem_cons,List.not_mem_nil,or_false] at hx;rcases hx with rfl | rfl | rfl | rfl | rfl <;> exact Nat.le_of_ble_eq_true rfl,Nat.le_of_ble_eq_true rfl,fun e=>by omega⟩
 by_cases h5:f.n 0=5
 ·refine .inr ⟨260,_,_,revenueL,by rw [h5];rfl,enters_of Tryz.func260 (by kernel_rfl) rfl,fun b w h=>revenue_any b w,by intro x hx;simp only [revenueL,List.mem_cons,List.not_mem_nil,or_false] at hx;rcases hx with rfl | rfl | rfl | rfl | rfl <;> exact Nat.le_of_ble_eq_true rfl,Nat.le_of_ble_eq_true rfl,fun e=>by omega⟩
 by_cases h4:f.n 0=4
 ·refine .inr ⟨258,_,_,contractL,by rw [h4];rfl,enters_of Tryz.func258 (by kernel_rfl) rfl,fun b w h=>contract_any b w,by intro x hx;simp only [contractL,List.mem_cons,List.not_mem_nil,or_false] at hx;rcases hx with rfl | rfl <;> exact Nat.le_of_ble_eq_true rfl,Nat.le_of_ble_eq_true rfl,fun e=>by omega⟩
 by_cases h3:f.n 0=3
 ·refine .inr ⟨256,_,_,(claimL f),by rw [h3];rfl,enters_of Tryz.func256 (by kernel_rfl) rfl,fun b w h=>claim_any b f w (h.cell (by omega)),by intro x hx;simp only [claimL,List.mem_cons,List.not_mem_nil,or_false] at hx;rcases hx with rfl | rfl | rfl | rfl | rfl | rfl | rfl | rfl <;> exact Nat.le_of_ble_eq_true rfl,Nat.le_of_ble_eq_true rfl,fun e=>by omega⟩
 by_cases h2:f.n 0=2
 ·refine .inr ⟨255,_,_,markL,by rw [h2];rfl,enters_of Tryz.func255 (by kernel_rfl) rfl,fun b w h=>mark_any b w,by intro x hx;simp only [markL,List.mem_cons,List.not_mem_nil,or_false] at hx;rcases hx with rfl | rfl | rfl <;> exact Nat.le_of_ble_eq_true rfl,Nat.le_of_ble_eq_true rfl,fun e=>by omega⟩
 by_cases h1:f.n 0=1
 ·refine .inr ⟨253,_,_,playL,by rw [h1];rfl,enters_of Tryz.func253 (by kernel_rfl) rfl,fun b w h=>play_any b w,by intro x hx;simp only [playL,List.mem_cons,List.not_mem_nil,or_false] at hx;rcases hx with rfl | rfl | rfl | rfl | rfl | rfl | rfl | rfl <;> exact Nat.le_of_ble_eq_true rfl,Nat.le_of_ble_eq_true rfl,fun e=>⟨rfl,rfl⟩⟩
 rw [if_neg h10,if_neg h9,if_neg h8,if_neg h7,if_neg h6,if_neg h5,if_neg h4,if_neg h3,if_neg h2,if_neg h1];exact .inl ⟨rfl,h1⟩
end Fk
end
section
namespace Fk
open Go.RowKit
theorem Tryz.infoI:(Tryz.prog.info? 3).map (fun i=>(i.zero,i.size,i.bytes))=some (some (.int .i64 0),1,8):=by kernel_rfl
def IntF (f:Field) (o:Nat):Prop:=f.name ≠ "_"∧f.type=3∧f.offset=o
theorem part_int {cs:Array Value} {o:Nat} {a:Int} (w:World) (h:cs[o]?=some (.int .i64 a)):(part 3 cs o).run Tryz.prog w = .ok (.int .i64 a) w:=by
 obtain ⟨i0,hi,hz0,hz1,hz2⟩:=info_parts Tryz.infoI;have hg:(isAgg 3).run Tryz.prog w = .ok false w:=by kernel_rfl
 simp [part,hg,sizeOf,typeInfo,hi,hz1,h]
theorem eqF_cons {xs ys:Array Value} {f:Field} {fs:List Field} {o:Nat} {a b:Int} {r:Bool} (w:World) (hf:IntF f o) (hx:xs[o]?=some (.int .i64 a)) (hy:ys[o]?=some (.int .i64 b)) (h:(Op.eqFields 9999 xs ys fs).run Tryz.prog w = .ok r w) :
  (Op.eqFields 9999 xs ys (f :: fs)).run Tryz.prog w = .ok ((a == b) && r) w:=by
 obtain ⟨n0,t0,o0⟩:=hf;have he:(Op.equalIn 9999 3 (.int .i64 a) (.int .i64 b)).run Tryz.prog w = .ok (a == b) w:=run_equalIn_int w 9998 3 .i64 .i64 a b Tryz.underlying3;unfold Op.eqFields;rw [if_pos n0,t0,o0];simp only [Sem.run_bind,part_int w hx,part_int w hy,Result.andThen_ok,he];by_cases q:a=b
 ·subst q;simp [h]
 have:(a == b)=false:=by simpa using q
 simp [this]
theorem part_str {cs:Array Value} {o:Nat} {a:ByteArray} (w:World) (h:cs[o]?=some (.string a)):(part 9 cs o).run Tryz.prog w = .ok (.string a) w:=by
 obtain ⟨i0,hi,hz0,hz1,hz2⟩:=info_parts Tryz.infoStr;have hg:(isAgg 9).run Tryz.prog w = .ok false w:=by kernel_rfl
 simp [part,hg,sizeOf,typeInfo,hi,hz1,h]
theorem eqF_str {xs ys:Array Value} {f:Field} {fs:List Field} {o:Nat} {a b:ByteArray} {r:Bool} (w:World) (n0:f.name ≠ "_") (t0:f.type=9) (o0:f.offset=o) (hx:xs[o]?=some (.string a)) (hy:ys[o]?=some (.string b)) (h:(Op.eqFields 9999 xs ys fs).run Tryz.prog w = .ok r w) :
  (Op.eqFields 9999 xs ys (f :: fs)).run Tryz.prog w = .ok ((a.toList == b.toList) && r) w:=by
 have he:(Op.equalIn 9999 9 (.string a) (.string b)).run Tryz.prog w = .ok (a.toList == b.toList) w:=run_equalIn_string w 9998 9 a b Tryz.underlying9;unfold Op.eqFields;rw [if_pos n0,t0,o0];simp only [Sem.run_bind,part_str w hx,part_str w hy,Result.andThen_ok,he];rcases q:(a.toList == b.toList) with _ | _
 ·simp
 simp [h]
def bareN (k v:Int):Nat→Int:=fun i=>if i=0 then k else if i=2 then v else 0
theorem fact_eqf (w:World) (n:Nat→Int) (t:ByteArray) (k v:Int):(Op.eqFields 9999 (encP ⟨n,t⟩).toArray (encP ⟨bareN k v,⟨#[]⟩⟩).toArray (Tryz.prog.fieldsOf 71).toList).run Tryz.prog w = .ok (emptyN n t k v) w:=by
 have hfo:Tryz.prog.fieldsOf 71=(match Tryz.prog.underlying 71 with | some (.struct fs)=>fs | _=>#[]):=rfl;rw [hfo,Tryz.underlying71];unfold emptyN;refine eqF_cons w ⟨by decide,rfl,rfl⟩ rfl rfl ?_;refine eqF_cons w ⟨by decide,rfl,rfl⟩ rfl rfl ?_;refine eqF_cons w ⟨by decide,rfl,rfl⟩ rfl rfl ?_;refine eqF_cons w ⟨by decide,rfl,rfl⟩ rfl rfl ?_;refine eqF_cons w ⟨by decide,rfl,rfl⟩ rfl rfl ?_;refine eqF_cons w ⟨by decide,rfl,rfl⟩ rfl rfl ?_;refine eqF_cons w ⟨by decide,rfl,rfl⟩ rfl rfl ?_;refine eqF_cons w ⟨by decide,rfl,rfl⟩ rfl rfl ?_;refine eqF_cons w ⟨by decide,rfl,rfl⟩ rfl rfl ?_;refine eqF_cons w ⟨by decide,rfl,rfl⟩ rfl rfl ?_;refine eqF_cons w ⟨by decide,rfl,rfl⟩ rfl rfl ?_;refine eqF_cons w ⟨by decide,rfl,rfl⟩ rfl rfl ?_;refine eqF_cons w ⟨by decide,rfl,rfl⟩ rfl rfl ?_;refine eqF_cons w ⟨by decide,rfl,rfl⟩ rfl rfl ?_;refine eqF_cons w ⟨by decide,rfl,rfl⟩ rfl rfl ?_;refine eqF_cons w ⟨by decide,rfl,rfl⟩ rfl rfl ?_;refine eqF_cons w ⟨by decide,rfl,rfl⟩ rfl rfl ?_;exact eqF_str w (by decide) rfl rfl rfl rfl rfl
theorem fact_eq (w:World) (n:Nat→Int) (t:ByteArray) (k v:Int):(Op.equalIn 10000 71 (.agg (encP ⟨n,t⟩).toArray) (.agg (encP ⟨bareN k v,⟨#[]⟩⟩).toArray)).run Tryz.prog w = .ok (emptyN n t k v) w:=by
 show (Op.equalIn (9999+1) _ _ _).run Tryz.prog w=_;rw [run_equalIn_struct w 9999 _ _ _ (by unfold Program.fieldsOf;rw [Tryz.underlying71]) (by kernel_rfl)];exact fact_eqf w n t k v
end Fk
end
section
namespace Fk
open Go.RowKit Go.Lib Go.Sort
section
variable {P:Program} {ops:Array Oper} {Q:Exit→Act→World→Prop} {rest:List Oper} {o:Oper} {a:Act} {w w':World}
theorem wpList_loadV (hg:o.guard=none) {T:TypeId} {x:Operand} (hop:o.op = .load T x) {p v:Value} (hx:a.eval x=p) (hrun:(Instr.loadAt T p).run P w = .ok v w') (hK:wpList P ops Q rest (a.put o.dst v) w'):wpList P ops Q (o :: rest) a w:=by
 refine wpList_plain hg fun K' hK'=>?_;unfold Oper.wp;simp [execOp,hop,hx,hrun,Result.andThen];exact hK' _ _ hK
theorem wpList_boxV (hg:o.guard=none) {T:TypeId} {x:Operand} (hop:o.op = .box T x) {p v:Value} (hx:a.eval x=p) (hrun:(Instr.box T p).run P w = .ok v w') (hK:wpList P ops Q rest (a.put o.dst v) w'):wpList P ops Q (o :: rest) a w:=by
 refine wpList_plain hg fun K' hK'=>?_;unfold Oper.wp;simp [execOp,hop,hx,hrun,Result.andThen];exact hK' _ _ hK
theorem wpList_storeV (hg:o.guard=none) {T:TypeId} {x y:Operand} (hop:o.op = .store T x y) {p v:Value} (hx:a.eval x=p) (hy:a.eval y=v) (hrun:(Instr.storeAt T p v).run P w = .ok () w') (hK:wpList P ops Q rest (a.put o.dst undef) w'):wpList P ops Q (o :: rest) a w:=by
 refine wpList_plain hg fun K' hK'=>?_;unfold Oper.wp;simp [execOp,hop,hx,hy,hrun,Result.andThen];exact hK' _ _ hK
theorem wpList_build1V (hg:o.guard=none) {T:TypeId} {x:Operand} {i:Nat} (hop:o.op = .build T #[(i,x)]) {p v:Value} (hx:a.eval x=p) (hrun:(Instr.build T #[(i,p)]).run P w = .ok v w') (hK:wpList P ops Q rest (a.put o.dst v) w'):wpList P ops Q (o :: rest) a w:=by
 refine wpList_plain hg fun K' hK'=>?_;unfold Oper.wp;simp [execOp,hop,hx,hrun,Result.andThen];exact hK' _ _ hK
theorem wpQuiet_loadV {C:World→Prop} {R:Act→Prop} (hg:o.guard=none) {T:TypeId} {x:Operand} (hop:o.op = .load T x) {p v:Value} (hx:a.eval x=p) (hrun:∀w,C w→(Instr.loadAt T p).run P w = .ok v w) (hK:wpQuiet P ops C R rest (a.put o.dst v)):wpQuiet P ops C R (o :: rest) a:=by
 refine wpQuiet_step fun K hK'=>?_;simp only [Region.wanted,hg,if_true];refine ⟨v,fun w hw=>?_,hK' _ hK⟩;unfold Oper.quietAt Oper.quietUpon;simp [execOp,hop,hx,hrun w hw,Result.andThen]
theorem wpQuiet_build2V {C:World→Prop} {R:Act→Prop} (hg:o.guard=none) {T:TypeId} {x y:Operand} {i j:Nat} (hop:o.op = .build T #[(i,x),(j,y)]) {p q v:Value} (hx:a.eval x=p) (hy:a.eval y=q) (hrun:∀w,C w→(Instr.build T #[(i,p),(j,q)]).run P w = .ok v w) (hK:wpQuiet P ops C R rest (a.put o.dst v)):wpQuiet P ops C R (o :: rest) a:=by
 refine wpQuiet_step fun K hK'=>?_;simp only [Region.wanted,hg,if_true];refine ⟨v,fun w hw=>?_,hK' _ hK⟩;unfold Oper.quietAt Oper.quietUpon;simp [execOp,hop,hx,hy,hrun w hw,Result.andThen]
end
section
variable {P:Program} {ops:Array Oper} {Q:Exit→Act→World→Prop} {rest:List Oper} {a:Act} {w w':World} {dst:Option Tmp} {ty T:TypeId} {pos:String} {af:Array Edge} {x y:Operand} {p q v:Value}
theorem wpList_loadL (hx:a.eval x=p) (hrun:(Instr.loadAt T p).run P w = .ok v w') (hK:wpList P ops Q rest (a.put dst v) w'):wpList P ops Q ({dst:=dst,op:=.load T x,type:=ty,pos:=pos,after:=af,guard:=none} :: rest) a w:=wpList_loadV rfl rfl hx hrun hK
theorem wpList_boxL (hx:a.eval x=p) (hrun:(Instr.box T p).run P w = .ok v w') (hK:wpList P ops Q rest (a.put dst v) w'):wpList P ops Q ({dst:=dst,op:=.box T x,type:=ty,pos:=pos,after:=af,guard:=none} :: rest) a w:=wpList_boxV rfl rfl hx hrun hK
theorem wpList_build1L {i:Nat} (hx:a.eval x=p) (hrun:(Instr.build T #[(i,p)]).run P w = .ok v w') (hK:wpList P ops Q rest (a.put dst v) w'):wpList P ops Q ({dst:=dst,op:=.build T #[(i,x)],type:=ty,pos:=pos,after:=af,guard:=none} :: rest) a w:=wpList_build1V rfl rfl hx hrun hK
theorem wpList_storeL (hx:a.eval x=p) (hy:a.eval y=v) (hrun:(Instr.storeAt T p v).run P w = .ok () w') (hK:wpList P ops Q rest a w'):wpList P ops Q ({dst:=none,op:=.store T x y,type:=ty,pos:=pos,after:=af,guard:=none} :: rest) a w:=wpList_storeV rfl rfl hx hy hrun hK
theorem wpList_loadG {g:Option (Nat×Bool)} (hwt:Region.wanted {dst:=dst,op:=.load T x,type:=ty,pos:=pos,after:=af,guard:=g} (yielded ops a.tmps)=true) (hx:a.eval x=p) (hrun:(Instr.loadAt T p).run P w = .ok v w') (hK:wpList P ops Q rest (a.put dst v) w'):wpList P ops Q ({dst:=dst,op:=.load T x,type:=ty,pos:=pos,after:=af,guard:=g} :: rest) a w:=by
 refine wpList_step fun K hK'=>?_;rw [if_pos hwt];unfold Oper.wp;simp [execOp,hx,hrun,Result.andThen];exact hK' _ _ hK
theorem wpQuiet_loadL {C:World→Prop} {R:Act→Prop} (hx:a.eval x=p) (hrun:∀w,C w→(Instr.loadAt T p).run P w = .ok v w) (hK:wpQuiet P ops C R rest (a.put dst v)):wpQuiet P ops C R ({dst:=dst,op:=.load T x,type:=ty,pos:=pos,after:=af,guard:=none} :: rest) a:=wpQuiet_loadV rfl rfl hx hrun hK
theorem wpQuiet_build2L {C:World→Prop} {R:Act→Prop} {i j:Nat} (hx:a.eval x=p) (hy:a.eval y=q) (hrun:∀w,C w→(Instr.build T #[(i,p),(j,q)]).run P w = .ok v w) (hK:wpQuiet P ops C R rest (a.put dst v)):wpQuiet P ops C R ({dst:=dst,op:=.build T #[(i,x),(j,y)],type:=ty,pos:=pos,after:=af,guard:=none} :: rest) a:=wpQuiet_build2V rfl rfl hx hy hrun hK
theorem wpQuiet_eqlL {C:World→Prop} {R:Act→Prop} {U:TypeId} {cs ds:Array Value} {b:Bool} (hx:a.eval x = .agg cs) (hy:a.eval y = .agg ds) (hgt:P.eqGuardType P.depth T=false) (hrun:∀w,C w→(Op.equalIn 10000 T (.agg cs) (.agg ds)).run P w = .ok b w) (hK:wpQuiet P ops C R rest (a.put dst (.bool b))):wpQuiet P ops C R ({dst:=dst,op:=.binOp .eql T x y U,type:=ty,pos:=pos,after:=af,guard:=none} :: rest) a:=by
 refine wpQuiet_step fun K hK'=>?_;simp only [Region.wanted,if_true];refine ⟨.bool b,fun w hw=>?_,hK' _ hK⟩;have h:(Op.equalIn Op.maxDepth T (.agg cs) (.agg ds)).run P w = .ok b w:=hrun w hw;unfold Oper.quietAt Oper.quietUpon;simp [execOp,hx,hy,eqGuard,hgt,binOp,Op.equal,h,Result.andThen]
end
theorem below_grown (w:World) (n:Nat) (os:Array Obj):Below w.heap.size w (grow (w.drewN n) os):=
 ⟨rfl,rfl,rfl,by show w.heap.size≤(w.heap ++ os).size;rw [Array.size_append];omega,fun j hj=>by
  show (w.heap ++ os)[j]?=w.heap[j]?;rw [Array.getElem?_append_left hj]⟩
def FtAt (w:World) (ad:Addr) (f:PF):Prop:=∀j v,(encP f)[j]?=some v→w.cell? (ad.add j)=some v
theorem encP_one (f:PF):∀v∈encP f,v.oneCell'=true:=by
 intro v hv;unfold encP at hv;simp only [List.mem_cons,List.not_mem_nil,or_false] at hv;rcases hv with rfl | rfl | rfl | rfl | rfl | rfl | rfl | rfl | rfl | rfl | rfl | rfl | rfl | rfl | rfl | rfl | rfl | rfl <;> rfl
theorem ft_blk {w:World} {b:Nat} {t:TypeId} {f:PF} (h:w.heap[b]?=some (.cells (encP f).toArray t (0,0))):FtAt w ⟨b,0,none⟩ f:=fun j v hj=>by
 rw [show (Addr.add ⟨b,0,none⟩ j)=⟨b,j,none⟩ from by unfold Addr.add;split <;> simp_all];exact cell_blk h (by rw [List.getElem?_toArray];exact hj)
theorem ft_load {w:World} {ad:Addr} {f:PF} (h:FtAt w ad f):Sem.run Tryz.prog (loadCellsFrom ad 0 18 #[]) w = .ok (encP f).toArray w:=
 run_loadCellsFrom_list Tryz.prog w ad (encP f) 18 rfl h
theorem ft_loadC {w:World} {ad:Addr} {f:PF} (h:FtAt w ad f):Sem.run Tryz.prog (loadCells ad 18) w = .ok (encP f).toArray w:=ft_load h
theorem ld38 {w:World} {ad:Addr} {f:PF} (h:FtAt w ad f):(Instr.loadAt 71 (.pointer (some ad))).run Tryz.prog w = .ok (.agg (encP f).toArray) w:=by
 have:=ft_loadC h;simp [Instr.loadAt,Instr.sureAddr,loadVar,this,Result.andThen]
theorem box_agg (T:TypeId) (cs:Array Value) (w:World):(Instr.box T (.agg cs)).run Tryz.prog w = .ok (.pointer (some ⟨w.heap.size,0,none⟩)) (w.alloc (.cells cs T)):=by
 simp [Instr.box,newVar,newRow,newObj,Value.cells,Result.andThen];rfl
def setM (cs:Array Value):Nat→List Value→Array Value
 | _,[]=>cs
 | o,v :: r=>setM (cs.setIfInBounds o v) (o+1) r
theorem setCells_heap {t:TypeId} {fr:Nat×Nat} {b:Nat}:∀(vs:List Value) (o:Nat) (w:World) (cs:Array Value),w.heap[b]?=some (.cells cs t fr)→(w.setCells b o vs).heap[b]?=some (.cells (setM cs o vs) t fr)
 | [],_,_,_,h=>h
 | v :: r,o,w,cs,h=>by
  unfold World.setCells setM;exact setCells_heap r (o+1) _ _ (by simp [World.setCell,Array.getElem?_modify,h])
theorem setM_size:∀(vs:List Value) (o:Nat) (cs:Array Value),(setM cs o vs).size=cs.size
 | [],_,_=>rfl
 | v :: r,o,cs=>by
  unfold setM;rw [setM_size r];simp
theorem setM_low:∀(vs:List Value) (o:Nat) (cs:Array Value) (i:Nat),i<o→(setM cs o vs)[i]?=cs[i]?
 | [],_,_,_,_=>rfl
 | v :: r,o,cs,i,h=>by
  unfold setM;rw [setM_low r (o+1) _ i (by omega),Array.getElem?_setIfInBounds,if_neg (by omega)]
theorem setM_get:∀(vs:List Value) (o:Nat) (cs:Array Value) (i:Nat),o≤i→i<o+vs.length→i<cs.size→(setM cs o vs)[i]?=vs[i - o]?
 | [],o,cs,i,h1,h2,h3=>by simp at h2;omega
 | v :: r,o,cs,i,h1,h2,h3=>by
  unfold setM;simp only [List.length_cons] at h2;by_cases e:i=o
  ·subst e;rw [setM_low r _ _ _ (by omega),Array.getElem?_setIfInBounds,if_pos rfl,if_pos h3];simp
  rw [setM_get r (o+1) _ i (by omega) (by omega) (by simpa using h3),show i - o=(i - (o+1))+1 by omega,List.getElem?_cons_succ]
theorem setM_all {cs:Array Value} {vs:List Value} (h:cs.size=vs.length):setM cs 0 vs=vs.toArray:=by
 apply Array.ext_getElem?;intro i;by_cases hi:i<cs.size
 ·rw [setM_get vs 0 cs i (Nat.zero_le _) (by omega) hi];simp
 rw [Array.getElem?_eq_none (by rw [setM_size];omega),Array.getElem?_eq_none (by simp;omega)]
theorem st_run {w:World} {b:Nat} {t T:TypeId} {cs:Array Value} {f:PF} (hz:(Go.sizeOf T).run Tryz.prog w = .ok 18 w) (h:w.heap[b]?=some (.cells cs t (0,0))) (hs:cs.size=18) :
  (Instr.storeAt T (.pointer (some ⟨b,0,none⟩)) (.agg (encP f).toArray)).run Tryz.prog w = .ok () (w.setCells b 0 (encP f)):=by
 have hc:∀c,c<18→w.cell? ⟨b,0+c,none⟩=some (cs[c]!):=fun c hc=>cell_blk h (by rw [Nat.zero_add,Array.getElem?_eq_getElem (by omega)];simp [hs,hc]);have hf:∀c,w.frozen? ⟨b,c,none⟩=false:=fun c=>frz_blk h;have:=run_storeCells_cells (P:=Tryz.prog) b 0 (encP f) 0 w (fun c hc'=>by rw [Nat.add_zero,hc c (by have:(encP f).length=18:=rfl;omega)];rfl) (fun c _=>hf _) (encP_one f);simp [Instr.storeAt,Instr.sureAddr,storeVar,hz,Result.andThen,Value.cells,show (encP f).length=18 from rfl];exact this
theorem st_heap {w:World} {b:Nat} {t:TypeId} {cs:Array Value} {f:PF} (h:w.heap[b]?=some (.cells cs t (0,0))) (hs:cs.size=18):(w.setCells b 0 (encP f)).heap[b]?=some (.cells (encP f).toArray t (0,0)):=by
 rw [setCells_heap _ _ _ _ h,setM_all (by rw [hs];rfl)]
theorem st_below {w:World} {b B:Nat} {f:PF} (hb:B≤b):Below B w (w.setCells b 0 (encP f)):=by
 have:∀(vs:List Value) (o:Nat) (w:World),Below B w (w.setCells b o vs):=by
  intro vs;induction vs with
  | nil=>exact fun o w=>Below.refl B w
  | cons v r ih=>exact fun o w=>((Below.refl B w).setCell (p:=⟨b,o,none⟩) hb v).trans (ih _ _)
 exact this _ _ _
theorem bld71a (n:Nat→Int) (t:ByteArray):∀w,(Instr.build 247 #[(0,.agg #[.int .i64 (n 0),.int .i64 (n 1),.int .i64 (n 2),.int .i64 (n 3),.int .i64 (n 4),.int .i64 (n 5),.int .i64 (n 6),.int .i64 (n 7),.int .i64 (n 8),.int .i64 (n 9),.int .i64 (n 10),.int .i64 (n 11),.int .i64 (n 12),.int .i64 (n 13),.int .i64 (n 14),.int .i64 (n 15),.int .i64 (n 16),.string t])]).run Tryz.prog w = .ok (.agg #[.int .i64 (n 0),.int .i64 (n 1),.int .i64 (n 2),.int .i64 (n 3),.int .i64 (n 4),.int .i64 (n 5),.int .i64 (n 6),.int .i64 (n 7),.int .i64 (n 8),.int .i64 (n 9),.int .i64 (n 10),.int .i64 (n 11),.int .i64 (n 12),.int .i64 (n 13),.int .i64 (n 14),.int .i64 (n 15),.int .i64 (n 16),.string t]) w:=fun _=>by kernel_rfl
theorem bld71 (f:PF):∀w,(Instr.build 247 #[(0,.agg (encP f).toArray)]).run Tryz.prog w = .ok (.agg (encP f).toArray) w:=bld71a f.n f.t
theorem bldBare (k v:Int):∀w,(Instr.build 71 #[(0,.int .i64 k),(2,.int .i64 v)]).run Tryz.prog w = .ok (.agg #[.int .i64 k,.int .i64 0,.int .i64 v,.int .i64 0,.int .i64 0,.int .i64 0,.int .i64 0,.int .i64 0,.int .i64 0,.int .i64 0,.int .i64 0,.int .i64 0,.int .i64 0,.int .i64 0,.int .i64 0,.int .i64 0,.int .i64 0,.string ⟨#[]⟩]) w:=fun _=>by kernel_rfl
end Fk
end
section
namespace Fk
open Go.RowKit Go.Lib Go.Sort
def FacAt (w:World) (b:Nat) (f:PF):Prop:=w.heap[b]?=some (.cells (encP f).toArray 71 (0,0))
theorem FacAt.lt {w:World} {b:Nat} {f:PF} (h:FacAt w b f):b<w.heap.size:=(gE h).1
theorem FacAt.later {w w':World} {b:Nat} {f:PF} (h:FacAt w b f) (hb:Below w.heap.size w w'):FacAt w' b f:=(hb.block b h.lt).trans h
theorem FacAt.cell {w:World} {b:Nat} {f:PF} (h:FacAt w b f) {i:Nat} {v:Value} (hv:(encP f)[i]?=some v):w.cell? ⟨b,i,none⟩=some v:=by
 unfold World.cell?;rw [show (⟨b,i,none⟩:Addr).block=b from rfl,h,←hv];exact List.getElem?_toArray
theorem FacAt.new (w:World) (f:PF):FacAt (w.alloc (.cells (encP f).toArray 71)) w.heap.size f:=World.alloc_heap_new w _
theorem zeroK (w:World):(zeroValue 280).run Tryz.prog w = .ok (.agg #[.nilFunc,.bool false,.nilFunc]) w:=by kernel_rfl
theorem kind_look (f:PF):∃a0 tx a2 io kf L,(kindV (f.n 0)).getD (.agg #[.nilFunc,.bool false,.nilFunc]) = .agg #[a0,.bool tx,a2]∧(kindV (f.n 0)).isSome=io∧(io=false→f.n 0≠1)∧(io=true→a0 = .func (.func kf) #[] #[]∧KindOk f kf tx L)∧((a0 = .nilFunc∧a2 = .nilFunc)∨∃k0 k2,a0 = .func (.func k0) #[] #[]∧a2 = .func (.func k2) #[] #[]):=by
 rcases kind_ok f with ⟨h,h1⟩ | ⟨kf,tx,kv,L,h,hk⟩
 ·rw [h];exact ⟨_,_,_,false,0,[],rfl,rfl,fun _=>h1,fun q=>(by cases q),.inl ⟨rfl,rfl⟩⟩
 rw [h];exact ⟨_,_,_,true,kf,L,rfl,rfl,fun q=>(by cases q),fun _=>⟨rfl,hk⟩,.inr ⟨_,_,rfl,rfl⟩⟩
structure VS (f:PF) (w:World) (bx g rb gf:Nat) (a0:Value) (tx:Bool) (a2:Value) (L:List Fd) (j:Nat) (n:Nat→Int) (wr:World):Prop where
 rc:RecAt wr rb n f.t
 row:RowK 3 (encFd rb) wr (some ⟨gf,0,none⟩) L
 fc:FacAt wr bx f
 gc:wr.heap[g]?=some (.cells #[a0,.bool tx,a2] 280 (0,0))
 low:Below w.heap.size w wr
 own:w.heap.size≤rb
 n1:gf≠rb
 n2:bx≠rb
 n3:g≠rb
 val:validL f L tx=(allIn n (L.drop j) && emptyN (zeroN n (L.drop j)) (if tx then ⟨#[]⟩ else f.t) (f.n 0) (f.n 2))
section
variable {f:PF} {w wr:World} {bx g rb gf:Nat} {a0 a2:Value} {tx:Bool} {L:List Fd} {j:Nat} {n:Nat→Int}
theorem VS.later {wr':World} (h:VS f w bx g rb gf a0 tx a2 L j n wr) (hb:Below wr.heap.size wr wr'):VS f w bx g rb gf a0 tx a2 L j n wr':=
 ⟨h.rc.later hb,h.row.later hb,h.fc.later hb,(hb.block g (gE h.gc).1).trans h.gc,BelowN h.low hb (Nat.le_refl _),h.own,h.n1,h.n2,h.n3,h.val⟩
theorem VS.cell (h:VS f w bx g rb gf a0 tx a2 L j n wr) {x:Fd} (hx:L[j]?=some x) {k:Nat} {v:Value} (hv:(encFd rb x)[k]?=some v):wr.cell? ⟨gf,0+j * 3+k,none⟩=some v:=by
 obtain ⟨b,off,e,_,h2⟩:=h.row j x hx;cases e;exact h2 k v hv
theorem VS.cells (h:VS f w bx g rb gf a0 tx a2 L j n wr) {x:Fd} (hx:L[j]?=some x):wr.cell? ⟨gf,j * 3,none⟩=some (.pointer (some ⟨rb,x.i,none⟩))∧wr.cell? ⟨gf,j * 3+1,none⟩=some (.int .i64 x.lo)∧wr.cell? ⟨gf,j * 3+2,none⟩=some (.int .i64 x.hi):=by
 have h0:=h.cell hx (k:=0) rfl;have h1:=h.cell hx (k:=1) rfl;have h2:=h.cell hx (k:=2) rfl;rw [Nat.zero_add] at h0 h1 h2;exact ⟨h0,h1,h2⟩
theorem VS.store (h:VS f w bx g rb gf a0 tx a2 L j n wr) {x:Fd} (hx:L[j]?=some x) (hi:x.i<17) (hin:inB (n x.i) x.lo x.hi=true):VS f w bx g rb gf a0 tx a2 L (j+1) (updN n x.i) (wr.setCell ⟨rb,x.i,none⟩ (.int .i64 0)):=by
 have hk:∀k,k≠rb→(wr.setCell ⟨rb,x.i,none⟩ (.int .i64 0)).heap[k]?=wr.heap[k]?:=fun k hk=>Below.heap_setCell _ _ _ _ hk;have hs:(wr.setCell ⟨rb,x.i,none⟩ (.int .i64 0)).heap.size=wr.heap.size:=by simp [World.setCell]
 refine ⟨h.rc.zero hi,fun i y hy=>?_,(hk bx h.n2).trans h.fc,(hk g h.n3).trans h.gc,h.low.setCell (p:=⟨rb,x.i,none⟩) h.own _,h.own,h.n1,h.n2,h.n3,?_⟩
 ·obtain ⟨b,off,e,h1,h2⟩:=h.row i y hy;cases e;exact ⟨gf,0,rfl,by rw [hs];exact h1,fun q v hv=>by
   rw [World.cell?_of_block (w:=wr) (hk gf h.n1)];exact h2 q v hv⟩
 obtain ⟨hl,he⟩:=List.getElem?_eq_some_iff.1 hx;rw [h.val,List.drop_eq_getElem_cons hl,he];show ((inB (n x.i) x.lo x.hi && allIn (updN n x.i) (L.drop (j+1))) && emptyN (zeroN (updN n x.i) (L.drop (j+1))) _ _ _)=_;rw [hin,Bool.true_and]
theorem RecAt.notext {w:World} {b:Nat} {n:Nat→Int} {t:ByteArray} (h:RecAt w b n t):RecAt (w.setCell ⟨b,17,none⟩ (.string ⟨#[]⟩)) b n ⟨#[]⟩:=by
 unfold RecAt at *;have e:(encP ⟨n,t⟩).toArray.setIfInBounds 17 (.string ⟨#[]⟩)=(encP ⟨n,⟨#[]⟩⟩).toArray:=rfl;simp [World.setCell,Array.getElem?_modify,h,←e]
theorem VS.fails (h:VS f w bx g rb gf a0 tx a2 L j n wr) {x:Fd} (hx:L[j]?=some x) (hin:inB (n x.i) x.lo x.hi=false):validL f L tx=false:=by
 obtain ⟨hl,he⟩:=List.getElem?_eq_some_iff.1 hx;rw [h.val,List.drop_eq_getElem_cons hl,he];show ((inB (n x.i) x.lo x.hi && _) && _)=_;rw [hin];rfl
theorem VS.done (h:VS f w bx g rb gf a0 tx a2 L j n wr) (hj:L.length≤j):validL f L tx=emptyN n (if tx then ⟨#[]⟩ else f.t) (f.n 0) (f.n 2):=by
 rw [h.val,List.drop_eq_nil_of_le hj];rfl
end
def ValE (b:Bool) (w:World) (e:Ending) (w':World):Prop:=e = .returned (.bool b)∧Below w.heap.size w w'
theorem ValE.says {b b':Bool} {w w':World} (h:b'=b) (hb:Below w.heap.size w w'):ValE b w (.returned (.bool b')) w':=⟨by rw [h],hb⟩
theorem valid_at (f:PF):∃b,(f.n 0=1→b=validP f)∧∀w,Calls Tryz.prog 186 #[.agg (encP f).toArray] w (ValE b w):=by
 obtain ⟨a0,tx,a2,io,kf,L,hk1,hk2,hk3,hk4,hk5⟩:=kind_look f;refine ⟨io && validL f L tx,fun e=>?_,fun w=>?_⟩
 ·rcases io with _ | _
  ·exact absurd e (hk3 rfl)
  obtain ⟨e1,e2⟩:=(hk4 rfl).2.one e;rw [e1,e2];rfl
 have hmm:=@run_makeMap Tryz.prog;have F0:=Hd (FacAt.new w f);have B0:=Hd ((Below.refl w.heap.size w).alloc (Nat.le_refl _) (.cells (encP f).toArray 71));have HK3:=Hd hk3;have HK4:=Hd hk4;have HK5:=Hd hk5;have LK:=Hd (fun (W:World) (m:Nat) (h:MapI W m kindV)=>(show (Instr.lookup 282 (.map (some m)) (.int .i64 (f.n 0)) true).run Tryz.prog W = .ok (.tuple #[.agg #[a0,.bool tx,a2],.bool io]) W from by
  have:=h.lookup Tryz.underlying282 (f.n 0) (zeroK W) true;rw [hk1,hk2] at this;exact this))
 clear hk1 hk2 hk3 hk4 hk5;go_enter Tryz.func186,Tryz.ntmps186
 go_upto_region 1 with ((with_reducible refine wpList_boxL ?_ (box_agg _ _ _) ?_);focus rfl)
 obtain ⟨wa,hwa⟩:∃wa,wa=w.alloc (.cells (encP f).toArray 71):=⟨_,rfl⟩;obtain ⟨bx,hbx⟩:∃bx,bx=w.heap.size:=⟨_,rfl⟩;have HBX:=Hd hbx;rw [←hwa] at F0 B0 ⊢;rw [←HBX.out] at F0 ⊢;clear hwa hbx;have c0:=F0.out.cell (i:=0) rfl;have c0z:=cell_up c0 (.cells #[.nilFunc,.bool false,.nilFunc] 280);have BW:=Hd (show ∀W,Below wa.heap.size wa W→Below w.heap.size w W∧FacAt W bx f from fun W h=>⟨B0.out.trans (h.mono B0.out.size),F0.out.later h⟩);have BZ:=Hd (((Below.refl wa.heap.size wa).drew).alloc (Nat.le_refl _) (.cells #[.nilFunc,.bool false,.nilFunc] 280));go_cut [0,3,4] (fun t0 t3 t4 wc=>∃g,t3 = .pointer (some ⟨g,0,none⟩)∧t4 = .bool io∧wc.heap[g]?=some (.cells #[a0,.bool tx,a2] 280 (0,0))∧Below wa.heap.size wa wc)
 case first=>
  as_aux_lemma=>
   rcases HK5.out with ⟨rfl,rfl⟩ | ⟨k0f,k2f,rfl,rfl⟩
   all_goals (go_region_law (go_simp;go_at_call 232;refine (kinds_any _).mono ?_;rintro e w1 ⟨m,rfl,hm,mp,hb⟩;have HBK:=Hd hb;have l1:=LK.out w1 m mp;have l2:=LK.out (w1.alloc (.cells #[.nilFunc,.bool false,.nilFunc] 280)) m (mp.later ((Below.refl _ w1).alloc (Nat.le_refl _) _));have BK:=Hd (show Below wa.heap.size wa w1 from by first | exact BelowN (Below.refl wa.heap.size wa).drew hb (Nat.le_refl _) | exact BelowN BZ.out hb (Nat.le_refl _));have k0:=(BW.out w1 BK.out).2.cell (i:=0) rfl;have k0z:=cell_up k0 (.cells #[.nilFunc,.bool false,.nilFunc] 280);(first | (have hz:w1.heap[wa.heap.size]?=some (.cells #[.nilFunc,.bool false,.nilFunc] 280 (0,0)):=(hb.block wa.heap.size (by simp)).trans (World.alloc_heap_new wa.drew _);have z0:=cell_blk (o:=0) hz rfl;have z1:=cell_blk (o:=1) hz rfl;have z2:=cell_blk (o:=2) hz rfl;have y0:=frz_blk (o:=0) hz;have y1:=frz_blk (o:=1) hz;have y2:=frz_blk (o:=2) hz;have HZ:=Hd hz;clear hz) | skip);clear hm mp hb))
   all_goals go_wp2_with fail
   all_goals go_meet
   all_goals first
    | exact ⟨_,rfl,rfl,World.alloc_heap_new w1 _,BelowA BK.out (Nat.le_refl _) _⟩
    | exact ⟨_,rfl,rfl,by simp [World.setCell,Array.getElem?_modify,HZ.out],((BK.out.setCell (p:=⟨wa.heap.size,0,none⟩) (Nat.le_refl _) _).setCell (p:=⟨wa.heap.size,1,none⟩) (Nat.le_refl _) _).setCell (p:=⟨wa.heap.size,2,none⟩) (Nat.le_refl _) _⟩
 case rest=>
  obtain ⟨g,rfl,rfl,hg,hb⟩:=hcut;obtain ⟨wk,rfl⟩:∃wk:World,wk=wc:=⟨_,rfl⟩;obtain ⟨hbk,hfk⟩:=BW.out wk hb;have HG:=Hd hg;have BK:=Hd hbk;have FK:=Hd hfk;clear hg hb hbk hfk c0 c0z F0 B0 BW BZ LK hmm;obtain ⟨ok,hok⟩:∃ok,(io && headOk f)=ok:=⟨_,rfl⟩;have HOK:=Hd hok;clear hok;go_upto_region 2 with (fail)
  go_cut [32] (fun t wc=>t = .bool (!ok)∧wc=wk)
  case first=>
   as_aux_lemma=>
    have c2:=FK.out.cell (i:=2) rfl;have c17:=FK.out.cell (i:=17) rfl;rcases io with _ | _
    ·obtain rfl:ok=false:=HOK.out.symm;go_wp2_with fail
     go_meet;exact ⟨rfl,rfl⟩
    by_cases q2:f.n 2<1
    ·obtain rfl:ok=false:=by rw [←HOK.out];unfold headOk;rw [decide_eq_false (show ¬ 1≤f.n 2 by omega)];rfl
     go_wp2_with fail
     go_meet;exact ⟨rfl,rfl⟩
    by_cases q3:1000<f.n 2
    ·obtain rfl:ok=false:=by rw [←HOK.out];unfold headOk;rw [decide_eq_false (show ¬f.n 2≤1000 by omega),Bool.and_false];rfl
     go_wp2_with fail
     go_meet;exact ⟨rfl,rfl⟩
    by_cases q4:2000<f.t.size
    ·obtain rfl:ok=false:=by rw [←HOK.out];unfold headOk;rw [decide_eq_false (show ¬f.t.size≤2000 by omega),Bool.and_false];rfl
     have q5:(2000:Int)<(f.t.size:Int):=by omega
     go_wp2_with fail
     go_meet;exact ⟨rfl,rfl⟩
    obtain rfl:ok=true:=by rw [←HOK.out];unfold headOk;rw [decide_eq_true (show 1≤f.n 2 by omega),decide_eq_true (show f.n 2≤1000 by omega),decide_eq_true (show f.t.size≤2000 by omega)];rfl
    have q5:¬(2000:Int)<(f.t.size:Int):=by omega
    go_wp2_with fail
    go_meet;exact ⟨rfl,rfl⟩
  case rest=>
   obtain ⟨rfl,hwc⟩:=hcut;rw [hwc];clear hwc;rcases ok with _ | _
   ·have h1:false=(io && validL f L tx):=by
     unfold validL;rw [←Bool.and_assoc,HOK.out];rfl
    go_wp2_with fail
    go_ret;exact ValE.says h1 BK.out
   obtain ⟨rfl,hh⟩:io=true∧headOk f=true:=by simpa using HOK.out
   have HH:=Hd hh;clear hh;obtain ⟨rfl,hk⟩:=HK4.out rfl;have eg:=hk.enter;have HK:=Hd hk;clear hk HK3 HK4 HK5 HOK;go_upto_region 4 with (fail)
   go_cut [5] (fun t wc=>t = .pointer (some ⟨wk.heap.size,0,none⟩)∧RecAt wc wk.heap.size f.n f.t∧Below wk.heap.size wk wc)
   case first=>
    have LD:=Hd (ld38 (ft_blk FK.out));have BL:=Hd (bld71 f);have N1:=Hd (show RecAt (wk.alloc (.cells (encP f).toArray 247)) wk.heap.size f.n f.t∧Below wk.heap.size wk (wk.alloc (.cells (encP f).toArray 247)) from ⟨World.alloc_heap_new wk _,(Below.refl _ wk).alloc (Nat.le_refl _) _⟩);obtain ⟨ag,hag⟩:∃ag,ag=(encP f).toArray:=⟨_,rfl⟩;rw [←hag] at LD BL N1;clear hag;go_wp2_with (first
     | ((with_reducible refine wpList_loadL ?_ LD.out ?_);focus rfl)
     | ((with_reducible refine wpList_build1L ?_ (BL.out _) ?_);focus rfl)
     | ((with_reducible refine wpList_boxL ?_ (box_agg _ _ _) ?_);focus rfl))
    go_meet;exact ⟨rfl,N1.out⟩
   case rest=>
     obtain ⟨rfl,hrc,hbr⟩:=hcut;obtain ⟨wr,rfl⟩:∃wr:World,wr=wc:=⟨_,rfl⟩;have HRC:=Hd hrc;have BR:=Hd hbr;obtain ⟨rb,hrb⟩:∃rb,rb=wk.heap.size:=⟨_,rfl⟩;have HRB:=Hd hrb;rw [←HRB.out] at HRC ⊢;clear hrb hrc hbr;have FR:=Hd (FK.out.later BR.out);have GR:=Hd ((BR.out.block g (gE HG.out).1).trans HG.out);have BR2:=Hd (BelowN BK.out BR.out (Nat.le_refl _));have g0:wr.cell? ⟨g,0,none⟩=some (.func (.func kf) #[] #[]):=cell_blk (o:=0) GR.out rfl;have BWK:=Hd BK.out.size;have FKL:=Hd FK.out.lt;have GKL:=Hd (gE HG.out).1;clear FK HG BK;go_upto_region 6 with (go_at_fn kf;refine (HK.out.call rb _ HRC.out).mono ?_;rintro e w3 ⟨gf,rfl,h1,h2,h3⟩;have RW:=Hd h2;have B3:=Hd h3;have H1:=Hd h1;clear h1 h2 h3 g0)
     have B4:=Hd (BelowN BR2.out B3.out (Nat.le_refl _));have V0:=Hd (show VS f w bx g rb gf (.func (.func kf) #[] #[]) tx a2 L 0 f.n w3 from
      ⟨HRC.out.later B3.out,RW.out,FR.out.later B3.out,(B3.out.block g (gE GR.out).1).trans GR.out,B4.out,by rw [HRB.out];exact BWK.out,by have:=HRC.out.lt;have:=H1.out;omega,by have:=FKL.out;have:=HRB.out;omega,by have:=GKL.out;have:=HRB.out;omega,by unfold validL;rw [HH.out,Bool.true_and];rfl⟩)
     have HLT:=Hd HK.out.lt;have hl8:=HK.out.len;clear RW B3 H1 B4 BR2 HRC FR GR HK BR HRB BWK FKL GKL HH eg;go_loopw [41] (fun i wl=>∃(j:Nat) (n:Nat→Int),j≤L.length∧i = .int .i64 j∧VS f w bx g rb gf (.func (.func kf) #[] #[]) tx a2 L j n wl) (fun i _=>L.length - (intOf i).toNat)
     case atStart=>exact ⟨0,f.n,Nat.zero_le _,rfl,V0.out⟩
     case round=>
      obtain ⟨j,n,hj,rfl,hv⟩:=hrel;have V:=Hd hv;clear hv V0;rcases Nat.lt_or_ge j L.length with hlt | hge
      ·as_aux_lemma=>
       obtain ⟨x,hx⟩:∃x,L[j]?=some x:=⟨_,List.getElem?_eq_getElem hlt⟩;have d1:(j:Int)<(L.length:Int):=by omega
       have d2:(0:Int)≤(j:Int):=by omega
       obtain ⟨e0,e1,e2⟩:=V.out.cells hx;have hi17:=HLT.out x (List.mem_of_getElem? hx);have V8:=Hd (V.out.later ((Below.refl _ wr).alloc (Nat.le_refl _) (.cells (encFd rb x).toArray 286)));have HX:=Hd hx;have H17:=Hd hi17;unfold encFd at V8;clear hx;go_upto_region 8 with (fail)
       obtain ⟨w8,hw8⟩:∃w8,w8=wr.alloc (.cells #[.pointer (some ⟨rb,x.i,none⟩),.int .i64 x.lo,.int .i64 x.hi] 286):=⟨_,rfl⟩;have hb8:w8.heap[wr.heap.size]?=some (.cells #[.pointer (some ⟨rb,x.i,none⟩),.int .i64 x.lo,.int .i64 x.hi] 286 (0,0)):=by rw [hw8];exact World.alloc_heap_new wr _
       rw [←hw8] at V8 ⊢;obtain ⟨xb,hxb⟩:∃xb,xb=wr.heap.size:=⟨_,rfl⟩;rw [←hxb] at hb8 ⊢;have HB8:=Hd hb8;have k0:=cell_blk (o:=0) hb8 rfl;have k1:=cell_blk (o:=1) hb8 rfl;have k2:=cell_blk (o:=2) hb8 rfl;clear hw8 hxb hb8 e0 e1 e2 hi17;obtain ⟨ib,hib⟩:∃ib,inB (n x.i) x.lo x.hi=ib:=⟨_,rfl⟩;have WI:=Hd (within_any rb x.i x.lo x.hi (n x.i) w8 (V8.out.rc.cell H17.out));rw [hib] at WI;have HIB:=Hd hib;clear hib;rcases ib with _ | _
       ·have VF:=Hd (V.out.fails HX.out HIB.out);go_wp2_with (go_at_call 233;(with_reducible refine WI.out.mono ?_);rintro e w9 ⟨rfl,h9⟩;have B9:=Hd h9;clear h9)
        go_ret;exact ValE.says (by rw [VF.out];rfl) (V8.out.later B9.out).low
       go_upto_region 10 with (go_at_call 233;(with_reducible refine WI.out.mono ?_);rintro e w9 ⟨rfl,h9⟩;have B9:=Hd h9;clear h9 k0 k1 k2)
       have V9:=Hd (V8.out.later B9.out);have k0:=cell_blk (o:=0) ((B9.out.block xb (gE HB8.out).1).trans HB8.out) rfl;have kc:=V9.out.rc.cell H17.out;have kz:=V9.out.rc.frozen x.i;go_wp2_with fail
       go_roundw
       case rel=>exact ⟨j+1,_,by omega,by go_num,V9.out.store HX.out H17.out HIB.out⟩
       case measure=>simp [intOf];omega
      have hjl:j=L.length:=by omega
      have d1:¬(j:Int)<(L.length:Int):=by omega
      have VD:=Hd (V.out.done hge);have g1:wr.cell? ⟨g,1,none⟩=some (.bool tx):=cell_blk (o:=1) V.out.gc rfl;have b0:=V.out.fc.cell (i:=0) rfl;have b2:=V.out.fc.cell (i:=2) rfl;have c17:wr.cell? ⟨rb,17,none⟩=some (.string f.t):=cell_blk (o:=17) V.out.rc rfl;have y17:=V.out.rc.frozen 17;rcases tx with _ | _
      ·as_aux_lemma=>
       have VDO:=Hd (show emptyN n f.t (f.n 0) (f.n 2)=(true && validL f L false) from by rw [VD.out];rfl);have RC:=Hd V.out.rc;have FC:=Hd V.out.fc;have LO:=Hd V.out.low;go_upto_region 14 with (fail)
       have MIX:Hid (Tryz.prog.follows .mixedOrders=true):=by show _=_;kernel_rfl
       have LDQ:=Hd (show ∀w',(∃q:GrownBy,w'=grow (wr.drewN q.n) q.os)→(Instr.loadAt 71 (.pointer (some ⟨rb,0,none⟩))).run Tryz.prog w' = .ok (.agg (encP ⟨n,f.t⟩).toArray) w' from by
        rintro w' ⟨q,rfl⟩;exact ld38 (ft_blk (RC.out.later (below_grown _ q.n q.os))))
       have BLQ:=Hd (show ∀w',(∃q:GrownBy,w'=grow (wr.drewN q.n) q.os)→(Instr.build 71 #[(0,.int .i64 (f.n 0)),(2,.int .i64 (f.n 2))]).run Tryz.prog w' = .ok (.agg (encP ⟨bareN (f.n 0) (f.n 2),⟨#[]⟩⟩).toArray) w' from fun w' _=>bldBare (f.n 0) (f.n 2) w');have EQQ:=Hd (show ∀w',(∃q:GrownBy,w'=grow (wr.drewN q.n) q.os)→(Op.equalIn 10000 71 (.agg (encP ⟨n,f.t⟩).toArray) (.agg (encP ⟨bareN (f.n 0) (f.n 2),⟨#[]⟩⟩).toArray)).run Tryz.prog w' = .ok (emptyN n f.t (f.n 0) (f.n 2)) w' from fun w' _=>fact_eq w' n f.t (f.n 0) (f.n 2));have b0:=fun (q:Nat) (os:Array Obj)=>(FC.out.later (below_grown wr q os)).cell (i:=0) rfl;have b2:=fun (q:Nat) (os:Array Obj)=>(FC.out.later (below_grown wr q os)).cell (i:=2) rfl;obtain ⟨ag,hag⟩:∃ag,ag=(encP ⟨n,f.t⟩).toArray:=⟨_,rfl⟩;obtain ⟨bg,hbg⟩:∃bg,bg=(encP ⟨bareN (f.n 0) (f.n 2),⟨#[]⟩⟩).toArray:=⟨_,rfl⟩;rw [←hag] at LDQ EQQ;rw [←hbg] at BLQ EQQ;clear hag hbg;refine wp_region_quiet_grown MIX.out (by kernel_rfl) ?_;iterate 3 ((with_reducible refine wpQuiet_step ?_);intro K hK;go_simp;first | (refine hK _ ?_;clear hK K) | (apply Exists.intro;refine ⟨fun _=>?_,hK _ ?_⟩;(fail);clear hK K))
       with_reducible refine wpQuiet_loadL ?_ LDQ.out ?_
       focus rfl
       iterate 4 ((with_reducible refine wpQuiet_step ?_);intro K hK;go_simp;first | (refine hK _ ?_;clear hK K) | (apply Exists.intro;refine ⟨fun _=>?_,hK _ ?_⟩;(fail);clear hK K))
       with_reducible refine wpQuiet_build2L ?_ ?_ BLQ.out ?_
       focus rfl
       focus rfl
       with_reducible refine wpQuiet_eqlL ?_ ?_ (by kernel_rfl) EQQ.out ?_
       focus rfl
       focus rfl
       repeat ((with_reducible refine wpQuiet_step ?_);intro K hK;go_simp;first | (refine hK _ ?_;clear hK K) | (apply Exists.intro;refine ⟨fun _=>?_,hK _ ?_⟩;(fail);clear hK K))
       refine wpQuiet_nil ?_;rintro _ ⟨⟨nq,osq⟩,rfl⟩;go_wp2_with fail
       go_ret;exact ValE.says VDO.out (LO.out.trans ((below_grown wr nq osq).mono LO.out.size))
      as_aux_lemma=>
      have VT:=Hd (show RecAt (wr.setCell ⟨rb,17,none⟩ (.string ⟨#[]⟩)) rb n ⟨#[]⟩∧Below w.heap.size w (wr.setCell ⟨rb,17,none⟩ (.string ⟨#[]⟩))∧FacAt (wr.setCell ⟨rb,17,none⟩ (.string ⟨#[]⟩)) bx f from ⟨V.out.rc.notext,V.out.low.setCell (p:=⟨rb,17,none⟩) V.out.own _,(Below.heap_setCell _ _ _ _ V.out.n2).trans V.out.fc⟩);have VDO:=Hd (show emptyN n ⟨#[]⟩ (f.n 0) (f.n 2)=(true && validL f L true) from by rw [VD.out];rfl);go_upto_region 14 with (fail)
      obtain ⟨w14,hw14⟩:∃w14,w14=wr.setCell ⟨rb,17,none⟩ (.string ⟨#[]⟩):=⟨_,rfl⟩;rw [←hw14] at VT ⊢;clear hw14 b0 b2 c17 y17 g1;have RC:=Hd VT.out.1;have FC:=Hd VT.out.2.2;have LO:=Hd VT.out.2.1;have MIX:Hid (Tryz.prog.follows .mixedOrders=true):=by show _=_;kernel_rfl
      have LDQ:=Hd (show ∀w',(∃q:GrownBy,w'=grow (w14.drewN q.n) q.os)→(Instr.loadAt 71 (.pointer (some ⟨rb,0,none⟩))).run Tryz.prog w' = .ok (.agg (encP ⟨n,⟨#[]⟩⟩).toArray) w' from by
       rintro w' ⟨q,rfl⟩;exact ld38 (ft_blk (RC.out.later (below_grown _ q.n q.os))))
      have BLQ:=Hd (show ∀w',(∃q:GrownBy,w'=grow (w14.drewN q.n) q.os)→(Instr.build 71 #[(0,.int .i64 (f.n 0)),(2,.int .i64 (f.n 2))]).run Tryz.prog w' = .ok (.agg (encP ⟨bareN (f.n 0) (f.n 2),⟨#[]⟩⟩).toArray) w' from fun w' _=>bldBare (f.n 0) (f.n 2) w');have EQQ:=Hd (show ∀w',(∃q:GrownBy,w'=grow (w14.drewN q.n) q.os)→(Op.equalIn 10000 71 (.agg (encP ⟨n,⟨#[]⟩⟩).toArray) (.agg (encP ⟨bareN (f.n 0) (f.n 2),⟨#[]⟩⟩).toArray)).run Tryz.prog w' = .ok (emptyN n ⟨#[]⟩ (f.n 0) (f.n 2)) w' from fun w' _=>fact_eq w' n ⟨#[]⟩ (f.n 0) (f.n 2));have b0:=fun (q:Nat) (os:Array Obj)=>(FC.out.later (below_grown w14 q os)).cell (i:=0) rfl;have b2:=fun (q:Nat) (os:Array Obj)=>(FC.out.later (below_grown w14 q os)).cell (i:=2) rfl;obtain ⟨ag,hag⟩:∃ag,ag=(encP ⟨n,⟨#[]⟩⟩).toArray:=⟨_,rfl⟩;obtain ⟨bg,hbg⟩:∃bg,bg=(encP ⟨bareN (f.n 0) (f.n 2),⟨#[]⟩⟩).toArray:=⟨_,rfl⟩;rw [←hag] at LDQ EQQ;rw [←hbg] at BLQ EQQ;clear hag hbg;refine wp_region_quiet_grown MIX.out (by kernel_rfl) ?_;iterate 3 ((with_reducible refine wpQuiet_step ?_);intro K hK;go_simp;first | (refine hK _ ?_;clear hK K) | (apply Exists.intro;refine ⟨fun _=>?_,hK _ ?_⟩;(fail);clear hK K))
      with_reducible refine wpQuiet_loadL ?_ LDQ.out ?_
      focus rfl
      iterate 4 ((with_reducible refine wpQuiet_step ?_);intro K hK;go_simp;first | (refine hK _ ?_;clear hK K) | (apply Exists.intro;refine ⟨fun _=>?_,hK _ ?_⟩;(fail);clear hK K))
      with_reducible refine wpQuiet_build2L ?_ ?_ BLQ.out ?_
      focus rfl
      focus rfl
      with_reducible refine wpQuiet_eqlL ?_ ?_ (by kernel_rfl) EQQ.out ?_
      focus rfl
      focus rfl
      repeat ((with_reducible refine wpQuiet_step ?_);intro K hK;go_simp;first | (refine hK _ ?_;clear hK K) | (apply Exists.intro;refine ⟨fun _=>?_,hK _ ?_⟩;(fail);clear hK K))
      refine wpQuiet_nil ?_;rintro _ ⟨⟨nq,osq⟩,rfl⟩;go_wp2_with fail
      go_ret;exact ValE.says VDO.out (LO.out.trans ((below_grown w14 nq osq).mono LO.out.size))
end Fk
end
end Go.Proofs.YtifcdjmcoibblaaGreatDoor
