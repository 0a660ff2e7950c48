/- ConR San Raw -/
import Derived.Test.YtifcdjmcoibblaaGreatDoorAq04
import Derived.WalkKit
import Derived.LaidEqlPtr
import Derived.RangeFuncRecord
import Derived.Maps.RangeWalk
import Derived.Test.YtifcdjmcoibblaaGreatDoorAq01
set_option linter.unusedVariables false
set_option linter.unusedSimpArgs false
set_option linter.unusedSectionVars false
namespace Go.Proofs.YtifcdjmcoibblaaGreatDoor
section
variable {D L E M:Type} [Dg D] [Inhabited L] [Dg E] [Inhabited M]
end
instance dgQ {z:Nat}:Dg (Fin (z+1)):=⟨inferInstance,0,λa b=>decide (a.val<b.val)⟩
abbrev QZ (z:Nat):=Fin (z+1)
abbrev SZ (z:Nat):=NS (QZ z) (QZ z)
abbrev MZ (z:Nat):=Msg (QZ z) (QZ z)
section
variable {z:Nat}
structure OkQ (n:Int) (m:MZ z):Prop where
 frm:0<=m.frm∧m.frm<n
 to_:0<=m.to∧m.to<n
 ne:m.frm≠m.to
 height:0<=m.height∧m.height<1200
 round:0<=m.round∧m.round<100
 kind:m.kind=3∨m.kind=4∨m.kind=5∨m.kind=6
 prop:m.kind=3->m.list=m.dig∧m.dig≠0∧-1<=m.valid∧m.valid<m.round
 vote:m.kind≠3->m.valid=0∧m.list=0
end
abbrev S6:=SZ 5
abbrev M6:=MZ 5
def vq (kind frm:Int) (d:QZ 5):M6:=⟨kind,frm,0,0,0,0,d,0⟩
def o1:S6:=((Z42 0 1:S6).begin 0 true 4 4).1
def o2:S6:=o1.tick.1
def q1:S6:=((Z42 0 4:S6).begin 0 true 4 4).1
def q2:S6:=q1.tick.1
def q3:S6:=q2.receive (vq 4 1 4) true
def q4:S6:=q3.receive (vq 4 2 4) true
def q5:S6:=q4.tick.1
def q6:S6:=q5.receive (vq 6 1 4) true
def q7:S6:=q6.receive (vq 6 3 4) true
def q8:S6:=q7.tick.1
def q9:S6:=q8.receive (vq 5 2 4) true
def q10:S6:=q9.receive (vq 5 3 4) true
def q11:S6:=q10.tick.1
def q12:S6:=(q11.begin 0 true 4 4).1
def q13:S6:=(q12.begin 1 true 3 3).1
def isV (o:Option (Val (QZ 5) (QZ 5))) (r:Int) (l:QZ 5):Bool:=match o with | some v=>decide (v.round=r) && decide (v.list=l) | none=>false
theorem Zq8:((Z42 0 1:S6).begin 0 true 4 4).2=true∧o1.tick.2.length=0∧(match Z02 0 o2.decs with | some v=>decide (v.list=4) | none=>false)=true:=by decide +kernel
theorem Znn:((Z42 0 4:S6).begin 0 true 4 4).2=true∧q1.tick.2.length=6∧q4.tick.2.length=3∧q7.tick.2.length=3:=by decide +kernel
theorem Zq9:isV q8.lock 0 4=true∧(Z02 0 q9.decs).isNone=true∧(match Z02 0 q11.decs with | some v=>decide (v.list=4) | none=>false)=true:=by decide +kernel
theorem Zqa:(q11.begin 0 true 4 4).2=false∧(q12.begin 1 true 3 3).2=true∧q13.height=1:=by decide +kernel
theorem Zkp:o1.ticks=0∧q1.ticks=0∧q4.ticks=1∧q7.ticks=2∧q10.ticks=3:=by decide +kernel
set_option maxRecDepth 100000
set_option maxHeartbeats 80000000
section
open Go.MapKept (bytes_beq)
open Classical in
noncomputable def Z45 (x:Value):List MapEntry->Nat->Option (Nat×Value)
 | [],_=>none
 | e :: es,i=>if e.key=x then some (i,e.val) else Z45 x es (i+1)
structure Z3l (P:Program) (K:TypeId) (good:World->Value->Prop):Prop where
 find:∀w x es,good w x->(∀e∈es,good w e.key)->(Instr.findKey K x es).run P w = .ok (Z45 x es 0) w
 check:∀w em x,good w x->(Instr.checkKey em 10000 K x).run P w = .ok () w
 stays:∀w x,good w x->(Instr.keyThatStays x x).run P w = .ok x w
def Zkq (w:World) (x:Value):Prop:=∃s,x = .string s
theorem Z61 (x:ByteArray):∀(es:List MapEntry) (i:Nat),(∀e∈es,∃s,e.key = .string s)->Instr.findNow .string (.string x) es i=some (Z45 (.string x) es i)
 | [],i,_=>rfl
 | e :: es,i,h=>by
  obtain ⟨s,hs⟩:=h e (by simp);have ih:=Z61 x es (i+1) (λe he=>h e (by simp [he]));unfold Instr.findNow Z45;rw [hs];by_cases hx:x=s
  ·subst hx;have hb:(x == x)=true:=(bytes_beq x x).2 rfl;simp [Instr.sameNow,hb]
  have hne:¬s=x:=λh=>hx h.symm;have hb:(x == s)=false:=by rw [Bool.eq_false_iff];exact λh=>hx ((bytes_beq x s).1 h)
  simp [Instr.sameNow,hb,hne,ih]
theorem Zkr {P:Program} {K:TypeId} (hK:P.underlying K=some .string):Z3l P K Zkq where
 find:=λw x es ⟨s,hs⟩ h=>by
  subst hs;simp [Instr.findKey,run_underlying hK,Z61 s es 0 h]
 check:=λw em x ⟨s,hs⟩=>by
  subst hs;show (Instr.checkKey em (9999+1) K _).run P w=_;unfold Instr.checkKey;simp only [Sem.run_bind,run_underlying hK,Result.andThen];rfl
 stays:=λw x ⟨s,hs⟩=>by
  subst hs;have hb:(s == s)=true:=(bytes_beq s s).2 rfl;simp [Instr.keyThatStays,Instr.sameBits,hb]
def Z01 (w:World) (b:Nat) (L:List (Value×Value)):Prop:=
 ∃es clk,w.heap[b]?=some (.map es clk)∧es.toList.map (λe=>(e.key,e.val))=L∧(es.toList.map (·.born)).Pairwise (· < ·)∧∀e∈es.toList,e.born<clk
open Classical in
noncomputable def Zae (x:Value):List (Value×Value)->Option Value
 | []=>none
 | p :: l=>if p.1=x then some p.2 else Zae x l
open Classical in
noncomputable def Zav (x v:Value):List (Value×Value)->List (Value×Value)
 | []=>[(x,v)]
 | p :: l=>if p.1=x then (x,v) :: l else p :: Zav x v l
open Classical in
noncomputable def Zno (x:Value):List (Value×Value)->List (Value×Value)
 | []=>[]
 | p :: l=>if p.1=x then l else p :: Zno x l
theorem Zdn (x:Value):∀(es:List MapEntry) (i:Nat),(Z45 x es i).map (·.2)=Zae x (es.map λe=>(e.key,e.val))
 | [],i=>rfl
 | e :: es,i=>by
  unfold Z45;simp only [List.map_cons,Zae];split
  ·rfl
  exact Zdn x es (i+1)
theorem Z7p (x:Value):∀(es:List MapEntry) (i j:Nat) (v:Value),Z45 x es i=some (j,v)->∃(k:Nat) (e:MapEntry),j=i+k∧es[k]?=some e∧e.key=x∧e.val=v∧Zae x (es.map λe=>(e.key,e.val))=some v∧(∀nv,Zav x nv (es.map λe=>(e.key,e.val))=(es.modify k (λe=>{e with key:=x,val:=nv})).map λe=>(e.key,e.val))∧Zno x (es.map λe=>(e.key,e.val))=(es.eraseIdx k).map λe=>(e.key,e.val)
 | [],i,j,v,h=>by simp [Z45] at h
 | e :: es,i,j,v,h=>by
  unfold Z45 at h;split at h
  ·rename_i hk
   simp only [Option.some.injEq,Prod.mk.injEq] at h;obtain ⟨rfl,rfl⟩:=h;exact ⟨0,e,rfl,rfl,hk,rfl,by simp [Zae,hk],λnv=>by simp [Zav,hk],by simp [Zno,hk]⟩
  rename_i hk
  obtain ⟨k,e',h1,h2,h3,h4,h5,h6,h7⟩:=Z7p x es (i+1) j v h;exact ⟨k+1,e',by omega,by simpa using h2,h3,h4,by simpa [Zae,hk] using h5,λnv=>by simpa [Zav,hk] using h6 nv,by simpa [Zno,hk] using h7⟩
theorem Z7q (x:Value):∀(es:List MapEntry) (i:Nat),Z45 x es i=none->Zae x (es.map λe=>(e.key,e.val))=none∧(∀nv,Zav x nv (es.map λe=>(e.key,e.val))=(es.map λe=>(e.key,e.val)) ++ [(x,nv)])∧Zno x (es.map λe=>(e.key,e.val))=es.map λe=>(e.key,e.val)
 | [],i,_=>⟨rfl,λ_=>rfl,rfl⟩
 | e :: es,i,h=>by
  unfold Z45 at h;split at h
  ·cases h
  rename_i hk
  obtain ⟨h1,h2,h3⟩:=Z7q x es (i+1) h;exact ⟨by simpa [Zae,hk] using h1,λnv=>by simpa [Zav,hk] using h2 nv,by simpa [Zno,hk] using h3⟩
def Z1v (good:World->Value->Prop) (w:World) (L:List (Value×Value)):Prop:=∀p∈L,good w p.1
theorem Z1v.es {good:World->Value->Prop} {w:World} {es:Array MapEntry} (h:Z1v good w (es.toList.map λe=>(e.key,e.val))):∀e∈es.toList,good w e.key:=λe he=>h (e.key,e.val) (List.mem_map.2 ⟨e,he,rfl⟩)
theorem Z01.lookup {P:Program} {T K E:TypeId} {good:World->Value->Prop} (R:Z3l P K good) (hT:P.underlying T=some (.map K E)) {w:World} {b:Nat} {L:List (Value×Value)} (h:Z01 w b L) (hg:Z1v good w L) {x:Value} (hx:good w x) {z:Value} (hz:(zeroValue E).run P w = .ok z w) (ok:Bool) :
  (Instr.lookup T (.map (some b)) x ok).run P w = .ok (if ok then .tuple #[(Zae x L).getD z,.bool (Zae x L).isSome] else (Zae x L).getD z) w:=by
 obtain ⟨es,clk,hb,rfl,_,_⟩:=h;have h1:=R.find w x es.toList hx hg.es;have h2:=Zdn x es.toList 0;rcases hf:Z45 x es.toList 0 with _ | ⟨j,v⟩
 ·rw [hf] at h1 h2;simp only [Option.map_none] at h2;simp [Instr.lookup,run_underlying hT,MapKept.run_getObj_map hb,R.check w _ x hx,h1,hz,<-h2]
 rw [hf] at h1 h2;simp only [Option.map_some] at h2;simp [Instr.lookup,run_underlying hT,MapKept.run_getObj_map hb,R.check w _ x hx,h1,<-h2]
theorem Z4w {es:List MapEntry} {k:Nat} {f:MapEntry->MapEntry} (hf:∀e,(f e).born=e.born):(es.modify k f).map (·.born)=es.map (·.born):=by
 induction es generalizing k with
 | nil=>simp
 | cons e es ih=>
  rcases k with _ | k
  ·simp [hf]
  simp [ih]
theorem Z01.update {P:Program} {T K E:TypeId} {good:World->Value->Prop} (R:Z3l P K good) (hT:P.underlying T=some (.map K E)) {w:World} {b:Nat} {L:List (Value×Value)} (h:Z01 w b L) (hg:Z1v good w L) {x:Value} (hx:good w x) (v:Value) :
  ∃o,(Instr.mapUpdate T (.map (some b)) x v).run P w = .ok () (w.putObj b o)∧∀W:World,W.heap[b]?=some o->Z01 W b (Zav x v L):=by
 obtain ⟨es,clk,hb,rfl,hp,hc⟩:=h;have h1:=R.find w x es.toList hx hg.es;rcases hf:Z45 x es.toList 0 with _ | ⟨j,v0⟩
 ·rw [hf] at h1;obtain ⟨_,h3,_⟩:=Z7q x es.toList 0 hf;refine ⟨.map (es.push {key:=x,val:=v,born:=clk}) (clk+1),?_,λW hW=>⟨_,_,hW,?_,?_,?_⟩⟩
  ·simp [Instr.mapUpdate,run_underlying hT,MapKept.run_getObj_map hb,R.check w _ x hx,h1,MapKept.run_setObj_map _ hb,World.putObj]
  ·rw [h3];simp
  ·simp only [Array.toList_push,List.map_append,List.map_cons,List.map_nil];rw [List.pairwise_append];refine ⟨hp,by simp,λa ha c hc'=>?_⟩;obtain ⟨e,he,rfl⟩:=List.mem_map.1 ha;simp at hc';subst hc';exact hc e he
  intro e he;simp only [Array.toList_push,List.mem_append,List.mem_singleton] at he;rcases he with he | rfl
  ·have:=hc e he;omega
  show clk<clk+1;omega
 rw [hf] at h1;obtain ⟨k,e,hj,hk,h3,h4,_,h6,_⟩:=Z7p x es.toList 0 j v0 hf;rw [Nat.zero_add] at hj;subst hj;have hk':es[j]?=some e:=by simpa using hk
 refine ⟨.map (es.modify j λe=>{e with key:=x,val:=v}) clk,?_,λW hW=>⟨_,_,hW,?_,?_,?_⟩⟩
 ·simp [Instr.mapUpdate,run_underlying hT,MapKept.run_getObj_map hb,R.check w _ x hx,h1,hk',h3,R.stays w x hx,MapKept.run_setObj_map _ hb,World.putObj]
 ·rw [h6 v,Array.toList_modify]
 ·rw [Array.toList_modify,Z4w (f:=λe=>{e with key:=x,val:=v}) (λ_=>rfl)];exact hp
 intro e' he';rw [Array.toList_modify] at he';have:e'.born∈(es.toList.modify j λe=>{e with key:=x,val:=v}).map (·.born):=List.mem_map.2 ⟨e',he',rfl⟩;rw [Z4w (f:=λe=>{e with key:=x,val:=v}) (λ_=>rfl)] at this;obtain ⟨e2,h2,h5⟩:=List.mem_map.1 this;rw [<-h5];exact hc e2 h2
theorem Z01.delete {P:Program} {T K E:TypeId} {good:World->Value->Prop} (R:Z3l P K good) (hT:P.underlying T=some (.map K E)) {w:World} {b:Nat} {L:List (Value×Value)} (h:Z01 w b L) (hg:Z1v good w L) {x:Value} (hx:good w x) (t:TypeId) (ts:Array TypeId) (hts:ts[0]?=some T) :
  ∃o,(Builtin.delete_ ts t #[.map (some b),x]).run P w = .ok (.tuple #[]) (w.putObj b o)∧∀W:World,W.heap[b]?=some o->Z01 W b (Zno x L):=by
 obtain ⟨es,clk,hb,rfl,hp,hc⟩:=h;have h1:=R.find w x es.toList hx hg.es;rcases hf:Z45 x es.toList 0 with _ | ⟨j,v0⟩
 ·rw [hf] at h1;obtain ⟨_,_,h3⟩:=Z7q x es.toList 0 hf;refine ⟨.map es clk,?_,λW hW=>⟨es,clk,hW,h3.symm,hp,hc⟩⟩;simp [Builtin.delete_,hts,run_underlying hT,MapKept.run_getObj_map hb,R.check w _ x hx,h1,MapKept.run_setObj_map _ hb,World.putObj]
 rw [hf] at h1;obtain ⟨k,e,hj,hk,h3,h4,_,_,h7⟩:=Z7p x es.toList 0 j v0 hf;rw [Nat.zero_add] at hj;subst hj;have hlt:j<es.size:=by simpa using (List.getElem?_eq_some_iff.1 hk).1
 have he:(es.eraseIdxIfInBounds j).toList=es.toList.eraseIdx j:=by
  simp [Array.eraseIdxIfInBounds,hlt]
 refine ⟨.map (es.eraseIdxIfInBounds j) clk,?_,λW hW=>⟨_,_,hW,?_,?_,?_⟩⟩
 ·simp [Builtin.delete_,hts,run_underlying hT,MapKept.run_getObj_map hb,R.check w _ x hx,h1,MapKept.run_setObj_map _ hb,World.putObj]
 ·rw [he,h7]
 ·rw [he];exact List.Pairwise.sublist ((List.eraseIdx_sublist _ _).map _) hp
 intro e' he';rw [he] at he';exact hc e' (List.mem_of_mem_eraseIdx he')
def Z0f (w:World) (b r:Nat) (L left:List (Value×Value)):Prop:=
 ∃es clk since seen c0,w.heap[b]?=some (.map es clk)∧es.toList.map (λe=>(e.key,e.val))=L∧(es.toList.map (·.born)).Pairwise (· < ·)∧(∀e∈es.toList,e.born<clk) ∧
  w.heap[r]?=some (.mapIter (some b) since seen c0)∧(∀x∈es.toList,x.born<since)∧since<=c0∧since<=clk∧(es.toList.filter (λe=>!seen.contains e.born)).map (λe=>(e.key,e.val))=left
theorem Z0f.map {w:World} {b r:Nat} {L left:List (Value×Value)} (h:Z0f w b r L left):Z01 w b L:=by
 obtain ⟨es,clk,since,seen,c0,h1,h2,h3,h4,_⟩:=h;exact ⟨es,clk,h1,h2,h3,h4⟩
theorem Z0f.ne {w:World} {b r:Nat} {L left:List (Value×Value)} (h:Z0f w b r L left):r≠b:=by
 obtain ⟨es,clk,since,seen,c0,h1,_,_,_,h5,_⟩:=h;intro e;subst e;rw [h1] at h5;cases h5
theorem Z0f.kept {w w':World} {b r:Nat} {L left:List (Value×Value)} (h:Z0f w b r L left) (hb:w'.heap[b]?=w.heap[b]?) (hr:w'.heap[r]?=w.heap[r]?):Z0f w' b r L left:=by
 obtain ⟨es,clk,since,seen,c0,h1,h2,h3,h4,h5,h6⟩:=h;exact ⟨es,clk,since,seen,c0,hb.trans h1,h2,h3,h4,hr.trans h5,h6⟩
theorem Z01.kept {w w':World} {b:Nat} {L:List (Value×Value)} (h:Z01 w b L) (hb:w'.heap[b]?=w.heap[b]?):Z01 w' b L:=by
 obtain ⟨es,clk,h1,h2⟩:=h;exact ⟨es,clk,hb.trans h1,h2⟩
theorem Z01.lt {w:World} {b:Nat} {L:List (Value×Value)} (h:Z01 w b L):b<w.heap.size:=by
 obtain ⟨es,clk,h1,_⟩:=h;exact (gE h1).1
theorem Z01.made (w:World):Z01 (w.alloc (.map #[] 0)) w.heap.size []:=⟨#[],0,World.alloc_heap_new w _,rfl,List.Pairwise.nil,by simp⟩
theorem Z01.range {P:Program} {T K E:TypeId} (hT:P.underlying T=some (.map K E)) {w:World} {b:Nat} {L:List (Value×Value)} (h:Z01 w b L) :
  ∃o,(Instr.range T (.map (some b))).run P w = .ok (.pointer (some ⟨w.heap.size,0,none⟩)) (w.alloc o)∧Z0f (w.alloc o) b w.heap.size L L:=by
 have hlt:=h.lt;obtain ⟨es,clk,hb,rfl,hp,hc⟩:=h;refine ⟨.mapIter (some b) clk #[] clk,run_range_map w T K E b es clk hT hb,es,clk,clk,#[],clk,((MapKept.heap_alloc w _).2 b hlt).trans hb,rfl,hp,hc,World.alloc_heap_new w _,hc,Nat.le_refl _,Nat.le_refl _,?_⟩;congr 1
 exact List.filter_eq_self.2 (λe _=>by simp)
theorem Zks {w:World} {r:Nat} {o o':Obj} (h:w.heap[r]?=some o):(ChangeMaps.setBlock w r o').heap[r]?=some o'∧∀i,i≠r->(ChangeMaps.setBlock w r o').heap[i]?=w.heap[i]?:=by
 have hlt:=(gE h).1;refine ⟨by simp [ChangeMaps.setBlock,hlt],λi hi=>?_⟩;simp [ChangeMaps.setBlock,Array.getElem?_setIfInBounds_ne (Ne.symm hi)]
theorem Z90 {l:List Nat} (h:l.Pairwise (· < ·)):l.Nodup:=h.imp (λh=>Nat.ne_of_lt h)
theorem Zft {es:List MapEntry} (hn:(es.map (·.born)).Nodup) {seen:Array Nat} {e:MapEntry} (he:e∈es) (hs:seen.contains e.born=false) :
  ∃pre post,es.filter (λx=>!seen.contains x.born)=pre ++ e :: post∧es.filter (λx=>!(seen.push e.born).contains x.born)=pre ++ post:=by
 have hc:∀x:MapEntry,(!(seen.push e.born).contains x.born)=((!seen.contains x.born) && (x.born != e.born)):=λx=>by
  rw [Bool.eq_iff_iff];simp [Array.mem_push,not_or]
 obtain ⟨l1,l2,rfl⟩:=List.append_of_mem he;have hn':=hn;rw [List.map_append,List.map_cons,List.nodup_append] at hn';obtain ⟨_,h2,h3⟩:=hn';rw [List.nodup_cons] at h2;refine ⟨l1.filter (λx=>!seen.contains x.born),l2.filter (λx=>!seen.contains x.born),?_,?_⟩
 ·rw [List.filter_append,List.filter_cons,hs];simp
 rw [List.filter_append,List.filter_cons];have e0:(!(seen.push e.born).contains e.born)=false:=by simp
 rw [e0];have f:∀l:List MapEntry,(∀x∈l,x.born≠e.born)->l.filter (λx=>!(seen.push e.born).contains x.born)=l.filter (λx=>!seen.contains x.born):=λl hl=>by
  refine List.filter_congr λx hx=>?_;rw [hc x];have:=hl x hx;simp [this]
 rw [f l1 (λx hx h=>h3 x.born (List.mem_map.2 ⟨x,hx,rfl⟩) e.born (by simp) h),f l2 (λx hx h=>h2.1 (h ▸ List.mem_map.2 ⟨x,hx,rfl⟩))];simp
theorem Z0f.next {P:Program} {w:World} {b r:Nat} {L left:List (Value×Value)} (h:Z0f w b r L left) (ty:TypeId) :
  (left = []∧(Instr.next (.pointer (some ⟨r,0,none⟩)) false ty).run P w = .ok (.tuple #[.bool false]) w) ∨
  ∃k v pre post w',left=pre ++ (k,v) :: post∧(k,v)∈L∧(Instr.next (.pointer (some ⟨r,0,none⟩)) false ty).run P w = .ok (.tuple #[.bool true,k,v]) w'∧Z0f w' b r L (pre ++ post)∧w.grownBy w' (some r)∧w'.heap.size=w.heap.size ∧
   (Instr.entry (.pointer (some ⟨r,0,none⟩))).run P w' = .ok (.tuple #[k,v]) w':=by
 have hne:=h.ne;obtain ⟨es,clk,since,seen,c0,hb,rfl,hp,hc,hr,hold,hsc,hsk,rfl⟩:=h;have hleft:(leftOf es seen).toList=es.toList.filter (λe=>!seen.contains e.born):=by unfold leftOf;simp
 rcases run_next_at (P:=P) w ty r b since c0 seen es clk hr hb hold hsc with ⟨h0,hrun⟩ | ⟨e,he,w1,hal,hrun⟩
 ·refine .inl ⟨?_,hrun⟩;have h1:(leftOf es seen).toList = []:=List.eq_nil_of_length_eq_zero (by simpa using h0);rw [<-hleft,h1];rfl
 rw [hleft] at he;obtain ⟨hem,hes⟩:=List.mem_filter.1 he;have hes':seen.contains e.born=false:=by simpa using hes
 obtain ⟨pre,post,f1,f2⟩:=Zft (Z90 hp) hem hes';have hr1:w1.heap[r]?=some (.mapIter (some b) since seen c0):=by rcases hal with rfl | rfl <;> exact hr
 have hb1:w1.heap[b]?=some (.map es clk):=by rcases hal with rfl | rfl <;> exact hb
 have hset:=Zks (o':=.mapIter (some b) since (seen.push e.born) clk) hr1;have hb':(ChangeMaps.setBlock w1 r (.mapIter (some b) since (seen.push e.born) clk)).heap[b]?=some (.map es clk):=(hset.2 b (λe1=>hne e1.symm)).trans hb1;refine .inr ⟨e.key,e.val,pre.map (λe=>(e.key,e.val)),post.map (λe=>(e.key,e.val)),_,by rw [f1];simp,List.mem_map.2 ⟨e,hem,rfl⟩,hrun,⟨es,clk,since,seen.push e.born,clk,hb',rfl,hp,hc,hset.1,hold,hsk,hsk,by rw [f2];simp⟩,?_,?_,
  run_entry_at _ r b since seen es clk e hset.1 hb' hem (Z90 hp)⟩
 ·rcases hal with rfl | rfl <;> exact ⟨rfl,rfl,rfl,by simp [ChangeMaps.setBlock],λi _ hi=>hset.2 i (λe1=>hi (by rw [e1]))⟩
 rcases hal with rfl | rfl <;> simp [ChangeMaps.setBlock]
theorem Z2a {P:Program} (w:World) {ops:Array Oper} {rest:List Oper} {o:Oper} {a:Act} {Q:Exit->Act->World->Prop} (hg:o.guard=none) (it:Operand) (hop:o.op=Op.next it false) (b r:Nat) (L left:List (Value×Value))
  (hit:a.eval it = .pointer (some ⟨r,0,none⟩)) (h:Z0f w b r L left)
  (hDone:left = []->wpList P ops Q rest (a.put o.dst (.tuple #[.bool false])) w)
  (hMore:∀k v pre post w',left=pre ++ (k,v) :: post->(k,v)∈L->Z0f w' b r L (pre ++ post)->w.grownBy w' (some r)->w'.heap.size=w.heap.size->(Instr.entry (.pointer (some ⟨r,0,none⟩))).run P w' = .ok (.tuple #[k,v]) w'->wpList P ops Q rest (a.put o.dst (.tuple #[.bool true,k,v])) w') :
  wpList P ops Q (o :: rest) a w:=by
 refine wpList_plain hg λK' hK'=>?_;unfold Oper.wp;rcases h.next (P:=P) o.type with ⟨h0,hrun⟩ | ⟨k,v,pre,post,w',hl,hm,hrun,hrg,hgr,hsz,hen⟩
 ·simp [execOp,hop,hit,hrun,Result.andThen];exact hK' _ _ (hDone h0)
 simp [execOp,hop,hit,hrun,Result.andThen];exact hK' _ _ (hMore k v pre post w' hl hm hrg hgr hsz hen)
section
variable {P:Program} (w:World) {ops:Array Oper} {rest:List Oper} {o:Oper} {a:Act} {Q:Exit->Act->World->Prop}
theorem Z14 (hg:o.guard=none) (m x v:Operand) (t:TypeId) (hop:o.op=Op.mapUpdate t m x v) (k e:TypeId) (ht:P.underlying t=some (.map k e)) {good:World->Value->Prop} (R:Z3l P k good) (b:Nat) (L:List (Value×Value)) (hm:a.eval m = .map (some b)) (h:Z01 w b L) (hgd:Z1v good w L)
  (key val:Value) (hx:a.eval x=key) (hv:a.eval v=val) (hkey:good w key)
  (hK:∀ob,Z01 (w.putObj b ob) b (Zav key val L)->wpList P ops Q rest (a.put o.dst undef) (w.putObj b ob)):wpList P ops Q (o :: rest) a w:=by
 refine wpList_plain hg λK' hK'=>?_;obtain ⟨ob,hrun,hr⟩:=h.update R ht hgd hkey val;unfold Oper.wp;simp [execOp,hop,hm,hx,hv,hrun,Result.andThen];exact hK' _ _ (hK ob (hr _ (World.putObj_heap_same h.lt)))
theorem Z26 (hg:o.guard=none) (m:Operand) (t:TypeId) (hop:o.op=Op.range t m) (k e:TypeId) (ht:P.underlying t=some (.map k e)) (b:Nat) (L:List (Value×Value)) (hm:a.eval m = .map (some b)) (h:Z01 w b L)
  (hK:∀ob,Z0f (w.alloc ob) b w.heap.size L L->wpList P ops Q rest (a.put o.dst (.pointer (some ⟨w.heap.size,0,none⟩))) (w.alloc ob)):wpList P ops Q (o :: rest) a w:=by
 refine wpList_plain hg λK' hK'=>?_;obtain ⟨ob,hrun,hr⟩:=h.range (P:=P) ht;unfold Oper.wp;simp [execOp,hop,hm,hrun,Result.andThen];exact hK' _ _ (hK ob hr)
end
end
end Go.Proofs.YtifcdjmcoibblaaGreatDoor
