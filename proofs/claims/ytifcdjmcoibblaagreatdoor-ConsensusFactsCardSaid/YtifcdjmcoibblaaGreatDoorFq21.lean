/- RBlk -/
import Derived.Test.YtifcdjmcoibblaaGreatDoorFq17
import Derived.Deep.QuietTactic
import Derived.Deep.RegionLaw
import Derived.Test.YtifcdjmcoibblaaGreatDoorFq01
set_option linter.unusedVariables false
set_option linter.unusedSimpArgs false
set_option linter.unusedSectionVars false
set_option maxRecDepth 100000
set_option maxHeartbeats 80000000
namespace Go.Proofs.YtifcdjmcoibblaaGreatDoor
section
open Go.RowKit
def encW (x:Wd):List Value:=[eW x]
theorem encW_len (x:Wd):(encW x).length=1:=rfl
theorem encW_one (x:Wd):∀u∈encW x,u.oneCell'=true:=by intro u hu;simp [encW] at hu;subst hu;rfl
theorem Tryz.infoW:(Tryz.prog.info? 170).map (fun i=>(i.zero,i.size,i.bytes))=some (some (.int .u32 0),1,4):=by kernel_rfl
def OwnW (w:World) (base:Nat) (v:Value) (l:List Wd):Prop:=w.ownsRow base 170 1 v l.length (l.flatMap encW)
theorem OwnW.nil (w:World) (base:Nat):OwnW w base (.slice none 0 0) []:=World.ownsRow_nil _ _ _ _
theorem OwnW.kept {w w':World} {base:Nat} {v:Value} {l:List Wd} (h:OwnW w base v l) (hk:∀k,base≤k→k<w.heap.size→w'.heap[k]?=w.heap[k]?):OwnW w' base v l:=by
 obtain ⟨h1,h | ⟨g,cap,cur,rfl,h2,h3,h4⟩⟩:=h
 ·exact ⟨h1,.inl h⟩
 exact ⟨h1,.inr ⟨g,cap,cur,rfl,h2,(hk g h2 (gE h3).1).trans h3,h4⟩⟩
theorem OwnW.later {w w':World} {base:Nat} {v:Value} {l:List Wd} (h:OwnW w base v l) (hk:Below w.heap.size w w'):OwnW w' base v l:=h.kept fun k _ hl=>hk.block k hl
theorem OwnW.alloc {w:World} {base:Nat} {v:Value} {l:List Wd} (h:OwnW w base v l) (o:Obj):OwnW (w.alloc o) base v l:=h.later ((Below.refl _ _).alloc (Nat.le_refl _) o)
theorem OwnW.drew {w:World} {base:Nat} {v:Value} {l:List Wd} (h:OwnW w base v l):OwnW w.drew base v l:=h.kept fun k _ hl=>rfl
theorem OwnW.drewN {w:World} {base:Nat} {v:Value} {l:List Wd} (h:OwnW w base v l) (n:Nat):OwnW (w.drewN n) base v l:=h.kept fun k _ hl=>rfl
theorem OwnW.row {w:World} {base:Nat} {v:Value} {l:List Wd} (h:OwnW w base v l):∃ao cap,v = .slice ao l.length cap∧((ao=none→cap=0)∧l.length≤cap)∧RowK 1 encW w ao l:=rowK_of_owns encW_len (by decide) h
theorem RowK.word {w:World} {ao:Option Addr} {l:List Wd} (h:RowK 1 encW w ao l) {i:Nat} (hi:i<l.length):∃b off,ao=some ⟨b,off,none⟩∧b<w.heap.size∧w.cell? ⟨b,off+i,none⟩=some (.int .u32 (((l.getD i 0).toNat:Nat):Int)):=by
 obtain ⟨b,off,e,h1,h2⟩:=h i l[i] (List.getElem?_eq_getElem hi);exact ⟨b,off,e,h1,by have:=h2 0 _ rfl;rw [List.getD_eq_getElem?_getD,List.getElem?_eq_getElem hi];simpa [eW] using this⟩
theorem OwnW.word {w:World} {base:Nat} {v:Value} {l:List Wd} (h:OwnW w base v l) (hl:0<l.length):∃g cap,v = .slice (some ⟨g,0,none⟩) l.length cap∧base≤g∧g<w.heap.size∧l.length≤cap∧cap≤maxLen∧∀i x,l[i]?=some x→w.cell? ⟨g,i,none⟩=some (.int .u32 ((x.toNat:Nat):Int)):=by
 have h0:=h;obtain ⟨h1,⟨_,h⟩ | ⟨g,cap,cur,rfl,h2,h3,h4,h5,h6,h7⟩⟩:=h
 ·omega
 refine ⟨g,cap,rfl,h2,(gE h3).1,h4,h5,fun i x hx=>?_⟩;have hil:=(List.getElem?_eq_some_iff.1 hx).1;have e:(l.flatMap encW)[i * 1+0]?=some (eW x):=flat_get encW_len l i x 0 _ hx rfl;rw [Nat.mul_one,Nat.add_zero] at e;rw [←h7,List.getElem?_take_of_lt (by omega),Array.getElem?_toList] at e;rw [cell_of_row w g i cur _ _ h3];exact e
theorem wpList_append_word {w:World} {ops:Array Oper} {rest:List Oper} {o:Oper} {a:Act} {Q:Exit→Act→World→Prop} (hgd:o.guard=none) (s x:Operand)
  (ho:o.op = .call {callee:=.builtin .append,args:=#[s,x],argTypes:=#[181,181]})
  (base:Nat) (v:Value) (l:List Wd) (hs:a.eval s=v) (h:OwnW w base v l) (g2 c2:Nat) (b:Wd) (hx:a.eval x = .slice (some ⟨g2,0,none⟩) 1 c2) (hc:w.cell? ⟨g2,0,none⟩=some (eW b)) (hl:l.length≤1099511627776) (hb:base≤w.heap.size)
  (hK:∀v' w',OwnW w' base v' (l ++ [b])→Below base w w'→wpList Tryz.prog ops Q rest (a.put o.dst v') w'):wpList Tryz.prog ops Q (o :: rest) a w:=by
 obtain ⟨i,hi,hz0,hz1,hz2⟩:=info_parts Tryz.infoW;refine wpList_append_own w hgd s x 181 ho base 170 i (.int .u32 0) 1 4 Tryz.underlying181 hi hz0 hz1 hz2 rfl (by decide) v l.length (l.flatMap encW) hs h ⟨g2,0,none⟩ 1 c2 (encW b) hx rfl (fun j u hu=>?_) (encW_one b) (by unfold maxLen;omega) (by omega) hb (fun v' w' h1 h2 _=>hK v' w' ?_ ?_)
 ·rcases j with _ | j
  ·simp [encW] at hu;subst hu;rw [add_off];exact hc
  simp [encW] at hu
 ·unfold OwnW;rw [List.length_append,List.flatMap_append];simpa using h1
 refine ⟨h2.os,h2.tape,h2.output,h2.size,fun k hk=>h2.block k (by omega) (fun e=>?_)⟩;obtain ⟨_,⟨q,_⟩ | ⟨g,cap,cur,rfl,q2,_⟩⟩:=h
 ·rw [q] at e;simp [Value.ownBlock] at e
 simp [Value.ownBlock] at e;omega
theorem run_append_word (w:World) (ty:TypeId) (base:Nat) (v:Value) (l:List Wd) (h:OwnW w base v l) (g2 c2:Nat) (b:Wd) (hc:w.cell? ⟨g2,0,none⟩=some (eW b)) (hl:l.length≤1099511627776) (hb:base≤w.heap.size) :
  ∃v' w',(Builtin.append_ #[181,181] ty #[v,.slice (some ⟨g2,0,none⟩) 1 c2]).run Tryz.prog w = .ok v' w'∧OwnW w' base v' (l ++ [b])∧Below base w w' ∧
   ∀g i u,v.ownBlock=some g→i<l.length→w.cell? ⟨g,i,none⟩=some u→w'.cell? ⟨g,i,none⟩=some u:=by
 obtain ⟨i0,hi,hz,hs,hby⟩:=info_parts Tryz.infoW;have hnews:∀j u,([eW b]:List Value)[j]?=some u→w.cell? ((⟨g2,0,none⟩:Addr).add j)=some u:=fun j u hu=>by
  rcases j with _ | j
  ·simp at hu;subst hu;rw [add_off];exact hc
  simp at hu
 have h1:∀u∈([eW b]:List Value),u.oneCell'=true:=encW_one b;by_cases hp:∃g cap,v = .slice (some ⟨g,0,none⟩) l.length cap∧l.length+1≤cap
 ·obtain ⟨g,cap,rfl,hroom⟩:=hp;obtain ⟨hx,⟨q,_⟩ | ⟨g',cap',cur,e,h2,h3,h4,h5,h6,h7⟩⟩:=h
  ·cases q
  cases e;have hcs:cur.size=cap:=by omega
  have hr:=run_append_room (P:=Tryz.prog) w 181 ty 170 i0 Tryz.underlying181 hi g l.length cap cur h3 ⟨g2,0,none⟩ 1 c2 [eW b] (by rw [hs];rfl) hnews h1 hroom (by rw [hs,Nat.mul_one];simp;omega);rw [hs,Nat.mul_one] at hr;refine ⟨_,_,hr,⟨flat_length encW_len _,.inr ⟨g,cap,_,by rw [List.length_append];rfl,h2,setRow_heap w g cur _ _ _ h3,by rw [List.length_append];exact hroom,h5,?_,?_⟩⟩,⟨rfl,rfl,rfl,by simp,fun k hk=>setRow_other w g k _ (by omega)⟩,fun g'' i u hg hi2 hcu=>?_⟩
  ·simp only [List.size_toArray,List.length_append,List.length_take,List.length_drop,Array.length_toList,List.length_cons,List.length_nil];omega
  ·rw [Nat.mul_one] at h7;simp only [List.length_append,List.length_cons,List.length_nil,Nat.mul_one,Nat.zero_add,h7];rw [List.flatMap_append,List.take_left' (by rw [List.length_append,flat_length encW_len];simp)];rfl
  simp [Value.ownBlock] at hg;subst hg;rw [cell_of_row _ g i _ _ _ (setRow_heap w g cur _ _ _ h3)];rw [cell_of_row w g i cur _ _ h3] at hcu;rw [List.getElem?_toArray,List.append_assoc,List.getElem?_append_left (by simp;omega),List.getElem?_take_of_lt hi2,Array.getElem?_toList];exact hcu
 have hz1:(Value.int IntKind.u32 0).cells.size=1:=rfl;obtain ⟨hx,⟨q,q2⟩ | ⟨g',cap',cur,rfl,h2,h3,h4,h5,h6,h7⟩⟩:=h
 ·have hl0:l = []:=List.eq_nil_of_length_eq_zero q2;subst hl0;subst q;have hr:=run_append_nil (P:=Tryz.prog) w 181 ty 170 i0 (.int .u32 0) Tryz.underlying181 hi hz ⟨g2,0,none⟩ 1 c2 [eW b] (by rw [hs];rfl) hnews (by omega) (by omega) (by rw [hby];omega);have hge:=grownCap_ge w 1 0 170;refine ⟨_,_,hr,⟨rfl,.inr ⟨w.heap.size,_,_,rfl,hb,heap_alloc_new w.drew _,hge,grownCap_le_maxLen w 1 0 170 (by unfold maxLen;omega),?_,?_⟩⟩,((Below.refl base w).drew).alloc hb _,fun g i u hgb hi2 _=>by simp at hi2⟩
  ·simp only [Array.size_append,List.size_toArray,size_zeroCells,hz1,List.length_cons,List.length_nil];omega
  simp only [Array.toList_append,List.nil_append,List.length_cons,List.length_nil];exact List.take_left' rfl
 have hnr:¬l.length+1≤cap':=fun q=>hp ⟨g',cap',rfl,q⟩;have hfl:=flat_length encW_len l;have holds:∀j u,(l.flatMap encW)[j]?=some u→w.cell? ((⟨g',0,none⟩:Addr).add j)=some u:=fun j u hu=>by
  rw [add_off,cell_of_row w g' j cur _ _ h3];rw [←h7] at hu;have hj:=(List.getElem?_eq_some_iff.1 hu).1;rw [List.length_take] at hj;rw [List.getElem?_take_of_lt (by omega)] at hu;simpa using hu
 have hbytes:(l.length+1) * i0.bytes≤140737488355328:=by rw [hby];omega
 have hr:=run_append_grow (P:=Tryz.prog) w 181 ty 170 i0 (.int .u32 0) Tryz.underlying181 hi hz ⟨g',0,none⟩ l.length cap' (l.flatMap encW) (by rw [hs];exact hx) holds ⟨g2,0,none⟩ 1 c2 [eW b] (by rw [hs];rfl) hnews (by omega) (by omega) (growslice_fits (by omega) hbytes);have hge:=grownCap_ge w (l.length+1) cap' 170;have hcm2:grownCap w (l.length+1) cap' 170≤maxLen:=grownCap_le_maxLen w (l.length+1) cap' 170 (by unfold maxLen;omega);refine ⟨_,_,hr,⟨flat_length encW_len _,.inr ⟨w.heap.size,_,_,by rw [List.length_append];rfl,hb,heap_alloc_new w.drew _,by rw [List.length_append];exact hge,hcm2,?_,?_⟩⟩,((Below.refl base w).drew).alloc hb _,fun g i u hgb hi2 hcu=>?_⟩
 ·simp only [Array.size_append,List.size_toArray,size_zeroCells,hz1,hfl,List.length_cons,List.length_nil];omega
 ·rw [List.length_append,List.flatMap_append];simp only [Array.toList_append,List.append_assoc,List.length_cons,List.length_nil];rw [←List.append_assoc];exact List.take_left' (by simp only [List.length_append,hfl];rfl)
 simp [Value.ownBlock] at hgb;subst hgb;rw [World.cell?_of_block (w:=w) (Below.heap_alloc w.drew _ g' (gE h3).1)];exact hcu
theorem step_word {w:World} {ops:Array Oper} {o:Oper} {a:Act} {K:Act→World→Prop} {Q:Exit→Act→World→Prop} {F:Prop} (hw:Region.wanted o (yielded ops a.tmps)=true) (s x:Operand)
  (ho:o.op = .call {callee:=.builtin .append,args:=#[s,x],argTypes:=#[181,181]})
  (base:Nat) (v:Value) (l:List Wd) (hs:a.eval s=v) (h:OwnW w base v l) (g2 c2:Nat) (b:Wd) (hx:a.eval x = .slice (some ⟨g2,0,none⟩) 1 c2) (hc:w.cell? ⟨g2,0,none⟩=some (eW b)) (hl:l.length≤1099511627776) (hb:base≤w.heap.size)
  (hK:∀v' w',OwnW w' base v' (l ++ [b])→Below base w w'→(∀g i u,v.ownBlock=some g→i<l.length→w.cell? ⟨g,i,none⟩=some u→w'.cell? ⟨g,i,none⟩=some u)→K (a.put o.dst v') w') :
  if Region.wanted o (yielded ops a.tmps)=true then Oper.wp Tryz.prog o a w K Q else F:=by
 rw [if_pos hw];obtain ⟨v',w',hr,h2,h3,h4⟩:=run_append_word w o.type base v l h g2 c2 b hc hl hb;unfold Oper.wp execOp;simp only [ho,resolve,invoke,builtin,Sem.run_bind,Sem.run_pure,Result.andThen_ok,List.map_toArray,List.map_cons,List.map_nil,hs,hx,hr];exact hK v' w' h2 h3 h4
theorem wpList_append_words {w:World} {ops:Array Oper} {rest:List Oper} {o:Oper} {a:Act} {Q:Exit→Act→World→Prop} (hgd:o.guard=none) (s x:Operand)
  (ho:o.op = .call {callee:=.builtin .append,args:=#[s,x],argTypes:=#[181,181]})
  (base:Nat) (v:Value) (l:List Wd) (hs:a.eval s=v) (h:OwnW w base v l) (bo:Option Addr) (m c:Nat) (l2:List Wd) (hx:a.eval x = .slice bo m c) (hm:l2.length=m) (hc:(bo=none→c=0)∧m≤c) (hr:RowK 1 encW w bo l2) (hl:l.length+m≤1099511627776) (hb:base≤w.heap.size)
  (hK:∀v' w',OwnW w' base v' (l ++ l2)→Below base w w'→wpList Tryz.prog ops Q rest (a.put o.dst v') w'):wpList Tryz.prog ops Q (o :: rest) a w:=by
 obtain ⟨i,hi,hz0,hz1,hz2⟩:=info_parts Tryz.infoW;refine wpList_append_row hgd s x 181 ho base 170 i (.int .u32 0) 1 4 Tryz.underlying181 hi hz0 hz1 hz2 rfl (by decide) v l.length (l.flatMap encW) hs h encW encW_len encW_one bo m c l2 hx hm hc hr (by unfold maxLen;omega) (by omega) hb (fun v' w' h1 h2=>hK v' w' ?_ ?_)
 ·unfold OwnW;rw [List.length_append,List.flatMap_append,hm];exact h1
 refine ⟨h2.os,h2.tape,h2.output,h2.size,fun k hk=>h2.block k (by omega) (fun e=>?_)⟩;obtain ⟨_,⟨q,_⟩ | ⟨g,cap,cur,rfl,q2,_⟩⟩:=h
 ·rw [q] at e;simp [Value.ownBlock] at e
 simp [Value.ownBlock] at e;omega
theorem constants_any (w:World):Calls Tryz.prog 183 #[] w fun e w'=>∃g,e = .returned (.slice (some ⟨g,0,none⟩) 64 64)∧w.heap.size≤g∧RowK 1 encW w' (some ⟨g,0,none⟩) kW∧Below w.heap.size w w':=by
 go_enter Tryz.func183,Tryz.ntmps183
 go_wp2_with fail
 go_ret;refine ⟨w.heap.size,rfl,Nat.le_refl _,fun i x hx=>⟨w.heap.size,0,rfl,by simp,fun j v hv=>?_⟩,(Below.refl _ _).alloc (Nat.le_refl _) _⟩;have hj:j=0:=by
  have:=(List.getElem?_eq_some_iff.1 hv).1;simp [encW] at this;omega
 subst hj;simp [encW] at hv;subst hv;rw [cell_of_row _ w.heap.size _ _ _ _ (heap_alloc_new w _),Nat.mul_one,Nat.zero_add,Nat.add_zero];have e:(kW.map eW)[i]?=some (eW x):=by rw [List.getElem?_map,hx];rfl
 rw [←e];exact List.getElem?_toArray
theorem cell_drew {w:World} {p:Addr} {v:Value} (h:w.cell? p=some v):w.drew.cell? p=some v:=h
theorem quiet_one {P:Program} {f:FuncId} {args:Array Value} {w:World} {n:Nat} {v:Value} (h:Calls P f args (w.drewN n) fun e w'=>e = .returned v∧w'=(w.drewN n).drew):Calls P f args (w.drewN n) fun e w''=>e = .returned v∧∃m,w''=w.drewN m:=
 h.mono fun _ _ ⟨he,hm⟩=>⟨he,n+1,by rw [hm];rfl⟩
theorem rot7 (x:Wd) (w:World) (n:Nat):Calls Tryz.prog 182 #[.int .u32 ((x.toNat:Nat):Int),.int .i64 7] (w.drewN n) fun e w''=>e = .returned (.int .u32 (((rotR x 7).toNat:Nat):Int))∧∃m,w''=w.drewN m:=quiet_one (rotated_any x 7 (by omega) (by omega) _)
theorem rot18 (x:Wd) (w:World) (n:Nat):Calls Tryz.prog 182 #[.int .u32 ((x.toNat:Nat):Int),.int .i64 18] (w.drewN n) fun e w''=>e = .returned (.int .u32 (((rotR x 18).toNat:Nat):Int))∧∃m,w''=w.drewN m:=quiet_one (rotated_any x 18 (by omega) (by omega) _)
theorem rot17 (x:Wd) (w:World) (n:Nat):Calls Tryz.prog 182 #[.int .u32 ((x.toNat:Nat):Int),.int .i64 17] (w.drewN n) fun e w''=>e = .returned (.int .u32 (((rotR x 17).toNat:Nat):Int))∧∃m,w''=w.drewN m:=quiet_one (rotated_any x 17 (by omega) (by omega) _)
theorem rot19 (x:Wd) (w:World) (n:Nat):Calls Tryz.prog 182 #[.int .u32 ((x.toNat:Nat):Int),.int .i64 19] (w.drewN n) fun e w''=>e = .returned (.int .u32 (((rotR x 19).toNat:Nat):Int))∧∃m,w''=w.drewN m:=quiet_one (rotated_any x 19 (by omega) (by omega) _)
theorem rot6 (x:Wd) (w:World) (n:Nat):Calls Tryz.prog 182 #[.int .u32 ((x.toNat:Nat):Int),.int .i64 6] (w.drewN n) fun e w''=>e = .returned (.int .u32 (((rotR x 6).toNat:Nat):Int))∧∃m,w''=w.drewN m:=quiet_one (rotated_any x 6 (by omega) (by omega) _)
theorem rot11 (x:Wd) (w:World) (n:Nat):Calls Tryz.prog 182 #[.int .u32 ((x.toNat:Nat):Int),.int .i64 11] (w.drewN n) fun e w''=>e = .returned (.int .u32 (((rotR x 11).toNat:Nat):Int))∧∃m,w''=w.drewN m:=quiet_one (rotated_any x 11 (by omega) (by omega) _)
theorem rot25 (x:Wd) (w:World) (n:Nat):Calls Tryz.prog 182 #[.int .u32 ((x.toNat:Nat):Int),.int .i64 25] (w.drewN n) fun e w''=>e = .returned (.int .u32 (((rotR x 25).toNat:Nat):Int))∧∃m,w''=w.drewN m:=quiet_one (rotated_any x 25 (by omega) (by omega) _)
theorem rot2 (x:Wd) (w:World) (n:Nat):Calls Tryz.prog 182 #[.int .u32 ((x.toNat:Nat):Int),.int .i64 2] (w.drewN n) fun e w''=>e = .returned (.int .u32 (((rotR x 2).toNat:Nat):Int))∧∃m,w''=w.drewN m:=quiet_one (rotated_any x 2 (by omega) (by omega) _)
theorem rot13 (x:Wd) (w:World) (n:Nat):Calls Tryz.prog 182 #[.int .u32 ((x.toNat:Nat):Int),.int .i64 13] (w.drewN n) fun e w''=>e = .returned (.int .u32 (((rotR x 13).toNat:Nat):Int))∧∃m,w''=w.drewN m:=quiet_one (rotated_any x 13 (by omega) (by omega) _)
theorem rot22 (x:Wd) (w:World) (n:Nat):Calls Tryz.prog 182 #[.int .u32 ((x.toNat:Nat):Int),.int .i64 22] (w.drewN n) fun e w''=>e = .returned (.int .u32 (((rotR x 22).toNat:Nat):Int))∧∃m,w''=w.drewN m:=quiet_one (rotated_any x 22 (by omega) (by omega) _)
theorem ss0_eq (x:Wd):bits BinOp.xor IntKind.u32 (bits BinOp.xor IntKind.u32 (((rotR x 7).toNat:Nat):Int) (((rotR x 18).toNat:Nat):Int)) (((x.toNat:Nat):Int) / 8)=(((ss0 x).toNat:Nat):Int):=by
 rw [show (8:Int)=2 ^ 3 from rfl,shrW,xorW,xorW];rfl
theorem ss1_eq (x:Wd):bits BinOp.xor IntKind.u32 (bits BinOp.xor IntKind.u32 (((rotR x 17).toNat:Nat):Int) (((rotR x 19).toNat:Nat):Int)) (((x.toNat:Nat):Int) / 1024)=(((ss1 x).toNat:Nat):Int):=by
 rw [show (1024:Int)=2 ^ 10 from rfl,shrW,xorW,xorW];rfl
theorem mx3_eq (x:Wd) (a b c:Nat):bits BinOp.xor IntKind.u32 (bits BinOp.xor IntKind.u32 (((rotR x a).toNat:Nat):Int) (((rotR x b).toNat:Nat):Int)) (((rotR x c).toNat:Nat):Int)=(((mx3 x a b c).toNat:Nat):Int):=by
 rw [xorW,xorW];rfl
theorem RowK.at0 {w:World} {g:Nat} {l:List Wd} (h:RowK 1 encW w (some ⟨g,0,none⟩) l) {i:Nat} (hi:i<l.length):w.cell? ⟨g,i,none⟩=some (.int .u32 (((l.getD i 0).toNat:Nat):Int)):=by
 obtain ⟨b,off,e,_,h2⟩:=h.word hi;cases e;rwa [Nat.zero_add] at h2
theorem sum5 (a b c d e:Wd):(((a.toNat:Nat):Int)+((b.toNat:Nat):Int)+((c.toNat:Nat):Int)+((d.toNat:Nat):Int)+((e.toNat:Nat):Int)) % (4294967296:Int)=(((a+b+c+d+e).toNat:Nat):Int):=by
 simp only [BitVec.toNat_add];omega
theorem sum2 (a b:Wd):(((a.toNat:Nat):Int)+((b.toNat:Nat):Int)) % (4294967296:Int)=(((a+b).toNat:Nat):Int):=by
 simp only [BitVec.toNat_add];omega
theorem t5_eq (v4 v5 v6 v7 kk wk:Wd):(((v7.toNat:Nat):Int)+bits BinOp.xor IntKind.u32 (bits BinOp.xor IntKind.u32 (((rotR v4 6).toNat:Nat):Int) (((rotR v4 11).toNat:Nat):Int)) (((rotR v4 25).toNat:Nat):Int)+bits BinOp.xor IntKind.u32 (bits BinOp.and IntKind.u32 ((v4.toNat:Nat):Int) ((v5.toNat:Nat):Int)) (bits BinOp.and IntKind.u32 (bits BinOp.xor IntKind.u32 IntKind.u32.max ((v4.toNat:Nat):Int)) ((v6.toNat:Nat):Int))+((kk.toNat:Nat):Int)+((wk.toNat:Nat):Int)) % (4294967296:Int)=(((v7+bs1 v4+chW v4 v5 v6+kk+wk).toNat:Nat):Int):=by
 rw [mx3_eq,notW,andW,andW,xorW,sum5];rfl
theorem u5_eq (v0 v1 v2:Wd):(bits BinOp.xor IntKind.u32 (bits BinOp.xor IntKind.u32 (((rotR v0 2).toNat:Nat):Int) (((rotR v0 13).toNat:Nat):Int)) (((rotR v0 22).toNat:Nat):Int)+bits BinOp.xor IntKind.u32 (bits BinOp.xor IntKind.u32 (bits BinOp.and IntKind.u32 ((v0.toNat:Nat):Int) ((v1.toNat:Nat):Int)) (bits BinOp.and IntKind.u32 ((v0.toNat:Nat):Int) ((v2.toNat:Nat):Int))) (bits BinOp.and IntKind.u32 ((v1.toNat:Nat):Int) ((v2.toNat:Nat):Int))) % (4294967296:Int)=(((bs0 v0+majW v0 v1 v2).toNat:Nat):Int):=by
 rw [mx3_eq,andW,andW,andW,xorW,xorW,sum2];rfl
theorem rowW_new (w:World) (l:List Wd):RowK 1 encW (w.alloc (.cells (l.map eW).toArray 170)).drew (some ⟨w.heap.size,0,none⟩) l:=fun i x hx=>by
 refine ⟨w.heap.size,0,rfl,?_,fun j v hv=>?_⟩
 ·show w.heap.size<(w.alloc _).heap.size;simp
 have hj:j=0:=by
  have:=(List.getElem?_eq_some_iff.1 hv).1;simp [encW] at this;omega
 subst hj;simp [encW] at hv;subst hv;refine cell_drew ?_;rw [cell_of_row _ w.heap.size _ _ _ _ (heap_alloc_new w _),Nat.mul_one,Nat.zero_add,Nat.add_zero];have e:(l.map eW)[i]?=some (eW x):=by rw [List.getElem?_map,hx];rfl
 rw [←e];exact List.getElem?_toArray
theorem sched_word (bs:List Nat) (k:Nat) (h:k<16):sched bs (k+1)=sched bs k ++ [wordAt bs k]:=by
 conv=>lhs;unfold sched
 rw [if_pos h]
theorem sched_next (bs:List Nat) (k:Nat) (h:¬k<16):sched bs (k+1)=sched bs k ++ [(sched bs k).getD (k - 16) 0+ss0 ((sched bs k).getD (k - 15) 0)+(sched bs k).getD (k - 7) 0+ss1 ((sched bs k).getD (k - 2) 0)]:=by
 conv=>lhs;unfold sched
 rw [if_neg h]
theorem block_any (hs:List Wd) (hho:Option Addr) (hcap:Nat) (bo:Option Addr) (bcap:Nat) (bs:List Nat) (w:World) (hl8:hs.length=8) (hh:RowK 1 encW w hho hs) (hhc:(hho=none→hcap=0)∧8≤hcap) (hln:bs.length=64) (hlt:∀n∈bs,n<256) (hrow:RowK 1 encB w bo bs) :
  Calls Tryz.prog 136 #[.slice hho 8 hcap,.slice bo 64 bcap] w (SlcK 1 encW w (blockW hs bs)):=by
 have HL:=Hd hln;have HT:=Hd hlt;have HR:=Hd hrow;have HH:=Hd hh;have H8:=Hd hl8;have HC:=Hd hhc;obtain ⟨hg,hoff,rfl,hgl,_⟩:=hh.word (i:=0) (by omega);obtain ⟨g,off,rfl,hgb,_⟩:=hrow.byte (i:=0) (by omega);clear hln hlt hrow hh hl8 hhc;go_enter Tryz.func136,Tryz.ntmps136
 go_wp2_with fail
 go_loopw [5,6] (fun v i wr=>∃k:Nat,k≤16∧i = .int .i64 (k:Int)∧OwnW wr w.heap.size v (sched bs k)∧Below w.heap.size w wr) (fun _ i _=>16 - (intOf i).toNat)
 case atStart=>exact ⟨0,Nat.zero_le _,rfl,OwnW.nil _ _,Below.refl _ _⟩
 case round=>
  obtain ⟨k,hk,rfl,ho,hbl⟩:=hrel;have HO:=Hd ho;have HBL:=Hd hbl;obtain ⟨vo,vc,hv,hvc,hvr⟩:=ho.row;rw [sched_len] at hv hvc;subst hv;clear ho hbl hvc hvr;have k0:(0:Int)≤(k:Int):=by omega
  by_cases hlt:k<16
  ·have k1:(k:Int)<16:=by omega
   have k64:(k:Int)<64:=by omega
   have hc:∀j,j<4→wr.cell? ⟨g,off+(4 * k+j),none⟩=some (.int .u8 ((bs.getD (4 * k+j) 0:Nat):Int)):=fun j hj=>by
    obtain ⟨g',o',e,h1,h2⟩:=HR.out.byte (i:=4 * k+j) (by rw [HL.out];omega);cases e;rw [HBL.out.cell (p:=⟨g,off+(4 * k+j),none⟩) h1];exact h2
   have hn:∀j,j<4→bs.getD (4 * k+j) 0<256:=fun j hj=>by
    have hj2:4 * k+j<bs.length:=by rw [HL.out];omega
    rw [List.getD_eq_getElem?_getD,List.getElem?_eq_getElem hj2];exact HT.out _ (List.getElem_mem hj2)
   have c0:=hc 0 (by omega);have c1:=hc 1 (by omega);have c2:=hc 2 (by omega);have c3:=hc 3 (by omega);have n0:=hn 0 (by omega);have n1:=hn 1 (by omega);have n2:=hn 2 (by omega);have n3:=hn 3 (by omega);have NX:=Hd (sched_word bs k hlt);have WA:=Hd (show wordAt bs k=(BitVec.ofNat 32 (bs.getD (4 * k+0) 0) <<< 24) ||| (BitVec.ofNat 32 (bs.getD (4 * k+1) 0) <<< 16) ||| (BitVec.ofNat 32 (bs.getD (4 * k+2) 0) <<< 8) ||| BitVec.ofNat 32 (bs.getD (4 * k+3) 0) from rfl);obtain ⟨m0,hm0⟩:∃m,bs.getD (4 * k+0) 0=m:=⟨_,rfl⟩;obtain ⟨m1,hm1⟩:∃m,bs.getD (4 * k+1) 0=m:=⟨_,rfl⟩;obtain ⟨m2,hm2⟩:∃m,bs.getD (4 * k+2) 0=m:=⟨_,rfl⟩;obtain ⟨m3,hm3⟩:∃m,bs.getD (4 * k+3) 0=m:=⟨_,rfl⟩;rw [hm0] at c0 n0 WA;rw [hm1] at c1 n1 WA;rw [hm2] at c2 n2 WA;rw [hm3] at c3 n3 WA;rw [Nat.add_zero] at c0;clear hc hn hm0 hm1 hm2 hm3;have b0:(0:Int)≤4 * (k:Int):=by omega
   have b1:(0:Int)≤4 * (k:Int)+1:=by omega
   have b2:(0:Int)≤4 * (k:Int)+2:=by omega
   have b3:(0:Int)≤4 * (k:Int)+3:=by omega
   have l0:4 * (k:Int)<64:=by omega
   have l1:4 * (k:Int)+1<64:=by omega
   have l2:4 * (k:Int)+2<64:=by omega
   have l3:4 * (k:Int)+3<64:=by omega
   have w0:IntKind.i64.wrap (4 * (k:Int))=4 * (k:Int):=by rw [IntKind.wrap_i64];omega
   have w1:IntKind.i64.wrap (4 * (k:Int)+1)=4 * (k:Int)+1:=by rw [IntKind.wrap_i64];omega
   have w2:IntKind.i64.wrap (4 * (k:Int)+2)=4 * (k:Int)+2:=by rw [IntKind.wrap_i64];omega
   have w3:IntKind.i64.wrap (4 * (k:Int)+3)=4 * (k:Int)+3:=by rw [IntKind.wrap_i64];omega
   have t0:(4 * (k:Int)).toNat=4 * k:=by omega
   have t1:(4 * (k:Int)+1).toNat=4 * k+1:=by omega
   have t2:(4 * (k:Int)+2).toNat=4 * k+2:=by omega
   have t3:(4 * (k:Int)+3).toNat=4 * k+3:=by omega
   have e0:=wrap8 n0;have e1:=wrap8 n1;have e2:=wrap8 n2;have e3:=wrap8 n3;obtain ⟨x0,hx0⟩:∃x,BitVec.ofNat 32 m0=x:=⟨_,rfl⟩;obtain ⟨x1,hx1⟩:∃x,BitVec.ofNat 32 m1=x:=⟨_,rfl⟩;obtain ⟨x2,hx2⟩:∃x,BitVec.ofNat 32 m2=x:=⟨_,rfl⟩;obtain ⟨x3,hx3⟩:∃x,BitVec.ofNat 32 m3=x:=⟨_,rfl⟩;rw [hx0] at e0 WA;rw [hx1] at e1 WA;rw [hx2] at e2 WA;rw [hx3] at e3 WA;clear hx0 hx1 hx2 hx3 n0 n1 n2 n3;obtain ⟨ww,hww⟩:∃ww,wordAt bs k=ww:=⟨_,rfl⟩;rw [hww] at NX WA;have s24:=wrap_shlW x0 24;have s16:=wrap_shlW x1 16;have s8:=wrap_shlW x2 8;have o1:=orW (x0 <<< 24) (x1 <<< 16);have o2:=orW (x0 <<< 24 ||| x1 <<< 16) (x2 <<< 8);have o3:=orW (x0 <<< 24 ||| x1 <<< 16 ||| x2 <<< 8) x3;rw [←WA.out] at o3;generalize x0 <<< 24 ||| x1 <<< 16 ||| x2 <<< 8=z2 at o2 o3 WA
   generalize x0 <<< 24 ||| x1 <<< 16=z1 at o1 o2
   generalize x0 <<< 24=y0 at s24 o1;generalize x1 <<< 16=y1 at s16 o1;generalize x2 <<< 8=y2 at s8 o2;rw [show (2:Int) ^ 24=16777216 from rfl] at s24;rw [show (2:Int) ^ 16=65536 from rfl] at s16;rw [show (2:Int) ^ 8=256 from rfl] at s8;have SL:=Hd (sched_len bs k);have HOD:=Hd ((HO.out.alloc (.cells #[.int .u32 ((ww.toNat:Nat):Int)] 170)).drew);have HBD:=Hd ((HBL.out.alloc HBL.out.size (.cells #[.int .u32 ((ww.toNat:Nat):Int)] 170)).drew);have NEW:=Hd (show ((wr.alloc (.cells #[.int .u32 ((ww.toNat:Nat):Int)] 170)).drew).cell? ⟨wr.heap.size,0,none⟩=some (eW ww) from cell_drew (cell_box _ _ _ _ _ rfl _ rfl));have BW0:=Hd (show ∀n,Below wr.heap.size wr (wr.drewN n) from fun n=>⟨rfl,rfl,rfl,Nat.le_refl _,fun _ _=>rfl⟩);have BW1:=Hd (show ∀n A,Below wr.heap.size wr ((wr.drewN n).alloc A) from fun n A=>(BW0.out n).alloc (Nat.le_refl _) A);have GL:=Hd (World.block_lt_of_cell? _ _ c0);have SB:=Hd (show ∀w',Below wr.heap.size wr w'→w'.cell? ⟨g,off+4 * k,none⟩=some (.int .u8 (m0:Int))∧w'.cell? ⟨g,off+(4 * k+1),none⟩=some (.int .u8 (m1:Int))∧w'.cell? ⟨g,off+(4 * k+2),none⟩=some (.int .u8 (m2:Int))∧w'.cell? ⟨g,off+(4 * k+3),none⟩=some (.int .u8 (m3:Int)) from fun w' h=>
    ⟨by rw [h.cell (p:=⟨g,off+4 * k,none⟩) GL.out];exact c0,by rw [h.cell (p:=⟨g,off+(4 * k+1),none⟩) GL.out];exact c1,by rw [h.cell (p:=⟨g,off+(4 * k+2),none⟩) GL.out];exact c2,by rw [h.cell (p:=⟨g,off+(4 * k+3),none⟩) GL.out];exact c3⟩)
   have SB2:=Hd (show ∀w',Below w.heap.size w w'→w'.cell? ⟨g,off+4 * k,none⟩=some (.int .u8 (m0:Int))∧w'.cell? ⟨g,off+(4 * k+1),none⟩=some (.int .u8 (m1:Int))∧w'.cell? ⟨g,off+(4 * k+2),none⟩=some (.int .u8 (m2:Int))∧w'.cell? ⟨g,off+(4 * k+3),none⟩=some (.int .u8 (m3:Int)) from fun w' h=>
    ⟨by rw [h.cell (p:=⟨g,off+4 * k,none⟩) hgb,←HBL.out.cell (p:=⟨g,off+4 * k,none⟩) hgb];exact c0,by rw [h.cell (p:=⟨g,off+(4 * k+1),none⟩) hgb,←HBL.out.cell (p:=⟨g,off+(4 * k+1),none⟩) hgb];exact c1,by rw [h.cell (p:=⟨g,off+(4 * k+2),none⟩) hgb,←HBL.out.cell (p:=⟨g,off+(4 * k+2),none⟩) hgb];exact c2,by rw [h.cell (p:=⟨g,off+(4 * k+3),none⟩) hgb,←HBL.out.cell (p:=⟨g,off+(4 * k+3),none⟩) hgb];exact c3⟩)
   clear hww;go_wp2_with fail
   go_region_held3 (fun w'=>w'.cell? ⟨g,off+4 * k,none⟩=some (.int .u8 (m0:Int))∧w'.cell? ⟨g,off+(4 * k+1),none⟩=some (.int .u8 (m1:Int))∧w'.cell? ⟨g,off+(4 * k+2),none⟩=some (.int .u8 (m2:Int))∧w'.cell? ⟨g,off+(4 * k+3),none⟩=some (.int .u8 (m3:Int)))
    (first | (exact R4.out) | (exact SB.out _ (BW0.out nq).drew) | (exact SB.out _ (BW0.out _)) | (exact SB.out _ (BW1.out _ _)))
    (first
     | (refine step_word (by rfl) (.tmp 23) (.tmp 57) (by rfl) w.heap.size (.slice vo k vc) (sched bs k) ?_ ?_ wr.heap.size 1 ww ?_ ?_ ?_ ?_ ?_;(simp [Act.eval]);(with_reducible exact HOD.out);(simp [Act.eval]);(with_reducible exact NEW.out);(rw [SL.out];omega);(have:=HBD.out.size;omega);intro v3 w4 hown hbel hkeep;have R4:=Hd (show w4.cell? ⟨g,off+4 * k,none⟩=some (.int .u8 (m0:Int))∧w4.cell? ⟨g,off+(4 * k+1),none⟩=some (.int .u8 (m1:Int))∧w4.cell? ⟨g,off+(4 * k+2),none⟩=some (.int .u8 (m2:Int))∧w4.cell? ⟨g,off+(4 * k+3),none⟩=some (.int .u8 (m3:Int)) from SB2.out w4 (HBD.out.trans hbel));rw [←NX.out] at hown;have O3:=Hd hown;have B3:=Hd (HBD.out.trans hbel);clear hown hbel hkeep))
   go_wp2_with fail
   exact ⟨⟨k+1,by omega,by go_num,O3.out,B3.out⟩,by simp [intOf];omega⟩
  have hk16:k=16:=by omega
  have ho16:=HO.out;have k16:¬(k:Int)<16:=by omega
  obtain ⟨wo,rfl⟩:∃wo:World,wo=wr:=⟨_,rfl⟩;have O16:=Hd (show OwnW wo w.heap.size (.slice vo k vc) (sched bs 16) from by have:=HO.out;rw [hk16] at this ⊢;exact this);clear ho16 hk16 hlt hk HO;go_wp2_with fail
  go_loopw [5,7,8,9] (fun v i _ _ wr=>∃k:Nat,16≤k∧k≤64∧i = .int .i64 (k:Int)∧OwnW wr w.heap.size v (sched bs k)∧Below w.heap.size w wr) (fun _ i _ _ _=>64 - (intOf i).toNat)
  case atStart=>exact ⟨16,by omega,by omega,rfl,O16.out,HBL.out⟩
  case round=>
   obtain ⟨k,hk0,hk,rfl,ho,hbl⟩:=hrel;have HO:=Hd ho;have HBL:=Hd hbl;obtain ⟨vg,vc,hv,hvb,hvl,hvc,hcm,hcell⟩:=ho.word (by rw [sched_len];omega);rw [sched_len] at hv hvc;subst hv;unfold maxLen at hcm;clear ho hbl;have k0:(0:Int)≤(k:Int):=by omega
   by_cases hlt:k<64
   ·have k1:(k:Int)<64:=by omega
    have hc:∀j,j<k→wr.cell? ⟨vg,j,none⟩=some (.int .u32 ((((sched bs k).getD j 0).toNat:Nat):Int)):=fun j hj=>
     hcell j _ (by rw [List.getD_eq_getElem?_getD,List.getElem?_eq_getElem (by rw [sched_len];exact hj)];rfl)
    have c15:=hc (k - 15) (by omega);have c2:=hc (k - 2) (by omega);have c16:=hc (k - 16) (by omega);have c7:=hc (k - 7) (by omega);have NX:=Hd (sched_next bs k (by omega));obtain ⟨x15,hx15⟩:∃x,(sched bs k).getD (k - 15) 0=x:=⟨_,rfl⟩;obtain ⟨x2,hx2⟩:∃x,(sched bs k).getD (k - 2) 0=x:=⟨_,rfl⟩;obtain ⟨x16,hx16⟩:∃x,(sched bs k).getD (k - 16) 0=x:=⟨_,rfl⟩;obtain ⟨x7,hx7⟩:∃x,(sched bs k).getD (k - 7) 0=x:=⟨_,rfl⟩;rw [hx15] at c15 NX;rw [hx2] at c2 NX;rw [hx16] at c16 NX;rw [hx7] at c7 NX;have SL:=Hd (sched_len bs k);have w15:IntKind.i64.wrap ((k:Int) - 15)=(k:Int) - 15:=by rw [IntKind.wrap_i64];omega
    have w2:IntKind.i64.wrap ((k:Int) - 2)=(k:Int) - 2:=by rw [IntKind.wrap_i64];omega
    have w16:IntKind.i64.wrap ((k:Int) - 16)=(k:Int) - 16:=by rw [IntKind.wrap_i64];omega
    have w7:IntKind.i64.wrap ((k:Int) - 7)=(k:Int) - 7:=by rw [IntKind.wrap_i64];omega
    have t15:((k:Int) - 15).toNat=k - 15:=by omega
    have t2:((k:Int) - 2).toNat=k - 2:=by omega
    have t16:((k:Int) - 16).toNat=k - 16:=by omega
    have t7:((k:Int) - 7).toNat=k - 7:=by omega
    have p15:(0:Int)≤(k:Int) - 15:=by omega
    have p2:(0:Int)≤(k:Int) - 2:=by omega
    have p16:(0:Int)≤(k:Int) - 16:=by omega
    have p7:(0:Int)≤(k:Int) - 7:=by omega
    have g15:(15:Int)≤(k:Int):=by omega
    have g2:(2:Int)≤(k:Int):=by omega
    have g16:(16:Int)≤(k:Int):=by omega
    have g7:(7:Int)≤(k:Int):=by omega
    have q15:(k:Int) - 15<(k:Int):=by omega
    have q2:(k:Int) - 2<(k:Int):=by omega
    have q16:(k:Int) - 16<(k:Int):=by omega
    have q7:(k:Int) - 7<(k:Int):=by omega
    clear hc hx15 hx2 hx16 hx7 hcell;go_wp2_with fail
    go_quiet ((first
     | (go_at_call 182;with_reducible exact rot7 x15 _ _)
     | (go_at_call 182;with_reducible exact rot18 x15 _ _)))
    have BQ:=Hd (show Below wr.heap.size wr (wr.drewN nq) from ⟨rfl,rfl,rfl,Nat.le_refl _,fun _ _=>rfl⟩);generalize wr.drewN nq=wq at BQ ⊢;rw [ss0_eq];generalize ss0 x15=y0 at NX ⊢;have d2:=(BQ.out.cell (p:=⟨vg,k - 2,none⟩) hvl).trans c2;have d16:=(BQ.out.cell (p:=⟨vg,k - 16,none⟩) hvl).trans c16;have d7:=(BQ.out.cell (p:=⟨vg,k - 7,none⟩) hvl).trans c7;have HQ:=Hd (HO.out.later BQ.out);have HBQ:=Hd (HBL.out.trans (BQ.out.mono HBL.out.size));have VQ:=Hd (Nat.lt_of_lt_of_le hvl BQ.out.size);clear BQ c15 c2 c16 c7 HO HBL hvl nq;go_wp2_with fail
    go_quiet ((first
     | (go_at_call 182;with_reducible exact rot17 x2 _ _)
     | (go_at_call 182;with_reducible exact rot19 x2 _ _)))
    have BQ:=Hd (show Below wq.heap.size wq (wq.drewN nq) from ⟨rfl,rfl,rfl,Nat.le_refl _,fun _ _=>rfl⟩);generalize wq.drewN nq=wz at BQ ⊢;rw [ss1_eq];generalize ss1 x2=y1 at NX ⊢;have c16:=(BQ.out.cell (p:=⟨vg,k - 16,none⟩) VQ.out).trans d16;have c7:=(BQ.out.cell (p:=⟨vg,k - 7,none⟩) VQ.out).trans d7;have HO:=Hd (HQ.out.later BQ.out);have HBL:=Hd (HBQ.out.trans (BQ.out.mono HBQ.out.size));have VL:=Hd (Nat.lt_of_lt_of_le VQ.out BQ.out.size);clear BQ d2 d16 d7 HQ HBQ VQ nq;have a1:=wrap_addW x16 y0;have a2:=wrap_addW (x16+y0) x7;have a3:=wrap_addW (x16+y0+x7) y1;generalize x16+y0+x7+y1=ww at a3 NX;generalize x16+y0+x7=z2 at a2 a3;generalize x16+y0=z1 at a1 a2;have HOD:=Hd ((HO.out.alloc (.cells #[.int .u32 ((ww.toNat:Nat):Int)] 170)).drew);have HBD:=Hd ((HBL.out.alloc HBL.out.size (.cells #[.int .u32 ((ww.toNat:Nat):Int)] 170)).drew);have NEW:=Hd (show ((wz.alloc (.cells #[.int .u32 ((ww.toNat:Nat):Int)] 170)).drew).cell? ⟨wz.heap.size,0,none⟩=some (eW ww) from cell_drew (cell_box _ _ _ _ _ rfl _ rfl));have SBD:=Hd (show ((wz.alloc (.cells #[.int .u32 ((ww.toNat:Nat):Int)] 170)).drew).cell? ⟨vg,k - 16,none⟩=some (.int .u32 ((x16.toNat:Nat):Int))∧((wz.alloc (.cells #[.int .u32 ((ww.toNat:Nat):Int)] 170)).drew).cell? ⟨vg,k - 7,none⟩=some (.int .u32 ((x7.toNat:Nat):Int)) from ⟨cell_drew (cell_up c16 _),cell_drew (cell_up c7 _)⟩);have BW0:=Hd (show ∀n,Below wz.heap.size wz (wz.drewN n) from fun n=>⟨rfl,rfl,rfl,Nat.le_refl _,fun _ _=>rfl⟩);have BW1:=Hd (show ∀n A,Below wz.heap.size wz ((wz.drewN n).alloc A) from fun n A=>(BW0.out n).alloc (Nat.le_refl _) A);have SB:=Hd (show ∀w',Below wz.heap.size wz w'→w'.cell? ⟨vg,k - 16,none⟩=some (.int .u32 ((x16.toNat:Nat):Int))∧w'.cell? ⟨vg,k - 7,none⟩=some (.int .u32 ((x7.toNat:Nat):Int)) from fun w' h=>
     ⟨by rw [h.cell (p:=⟨vg,k - 16,none⟩) VL.out];exact c16,by rw [h.cell (p:=⟨vg,k - 7,none⟩) VL.out];exact c7⟩)
    go_wp2_with fail
    go_region_held3 (fun w'=>w'.cell? ⟨vg,k - 16,none⟩=some (.int .u32 ((x16.toNat:Nat):Int))∧w'.cell? ⟨vg,k - 7,none⟩=some (.int .u32 ((x7.toNat:Nat):Int)))
     (first | (exact R4.out) | (exact SB.out _ (BW0.out nq).drew) | (exact SB.out _ (BW0.out _)) | (exact SB.out _ (BW1.out _ _)))
     (first
      | (refine step_word (by rfl) (.tmp 103) (.tmp 119) (by rfl) w.heap.size (.slice (some ⟨vg,0,none⟩) k vc) (sched bs k) ?_ ?_ wz.heap.size 1 ww ?_ ?_ ?_ ?_ ?_;(simp [Act.eval]);(with_reducible exact HOD.out);(simp [Act.eval]);(with_reducible exact NEW.out);(rw [SL.out];omega);(have:=HBD.out.size;omega);intro v3 w4 hown hbel hkeep;have R4:=Hd (show w4.cell? ⟨vg,k - 16,none⟩=some (.int .u32 ((x16.toNat:Nat):Int))∧w4.cell? ⟨vg,k - 7,none⟩=some (.int .u32 ((x7.toNat:Nat):Int)) from ⟨hkeep vg _ _ rfl (by rw [SL.out];omega) (SBD.out).1,hkeep vg _ _ rfl (by rw [SL.out];omega) (SBD.out).2⟩);rw [←NX.out] at hown;have O3:=Hd hown;have B3:=Hd (HBD.out.trans hbel);clear hown hbel hkeep))
    go_wp2_with fail
    exact ⟨⟨k+1,by omega,by omega,by go_num,O3.out,B3.out⟩,by simp [intOf];omega⟩
   obtain rfl:k=64:=by omega
   have O64:=Hd (show OwnW wr w.heap.size (.slice (some ⟨vg,0,none⟩) 64 vc) (sched bs 64) from HO.out);have k64:¬((64:Nat):Int)<64:=by omega
   obtain ⟨wo2,rfl⟩:∃wo:World,wo=wr:=⟨_,rfl⟩;obtain ⟨ws,hws⟩:∃ws,sched bs 64=ws:=⟨_,rfl⟩;have WSL:=Hd (show ws.length=64 from by rw [←hws];exact sched_len bs 64);have BWK:=Hd (show blockW hs bs=(List.range 8).map fun i=>hs.getD i 0+(roundsW ws hs 64).getD i 0 from by unfold blockW;rw [hws]);rw [hws] at O64;clear hlt hk hk0 HO hcell hws hvl hvb O16;go_wp2_with (first
    | (go_at_call 183;refine (constants_any _).mono ?_;rintro e w3 ⟨kg,rfl,hkg,hkr,hkb⟩;have KR:=Hd hkr;have KB:=Hd hkb;have KG:=Hd hkg;clear hkr hkb hkg)
    | (at_builtin;go_loud (refine wpList_append_words rfl (.tmp 122) (.tmp 123) rfl w3.heap.size (.slice none 0 0) [] rfl (OwnW.nil _ _) (some ⟨hg,hoff,none⟩) 8 hcap hs rfl H8.out HC.out ((HH.out.later HBL.out).later KB.out) (by simp) (Nat.le_refl _) ?_;intro v4 w4 hown hbel;have O4:=Hd hown;have B4:=Hd hbel;clear hown hbel)))
   obtain ⟨v4g,v4c,e4,_,h4l,h4c,h4m,_⟩:=O4.out.word (by simp;rw [H8.out];omega);have hl4:([] ++ hs).length=8:=by simp;exact H8.out
   rw [hl4] at e4;have R4:=Hd (show RowK 1 encW w4 (some ⟨v4g,0,none⟩) (roundsW ws hs 0) from by
    obtain ⟨ao,cap,e,_,hr⟩:=O4.out.row;rw [hl4] at e;rw [e4] at e;cases e;exact hr)
   subst e4;have RWS:=Hd (show RowK 1 encW w4 (some ⟨vg,0,none⟩) ws from by
    obtain ⟨ao,cap,e,_,hr⟩:=O64.out.row;rw [WSL.out] at e;injection e with e1 e2 e3
    rw [←e1] at hr;exact (hr.later KB.out).later B4.out)
   have RK4:=Hd (KR.out.later B4.out);have LW4:=Hd (show Below w.heap.size w w4 from (HBL.out.trans (KB.out.mono HBL.out.size)).trans (B4.out.mono (Nat.le_trans HBL.out.size KB.out.size)));have V8:=Hd (show ∀n,(roundsW ws hs n).length=8 from fun n=>roundsW_len ws hs H8.out n);clear hl4 h4l h4c h4m O4 O64 KR KB B4 KG HBL;go_loopw [11,12,13,14,15,16] (fun v i _ _ _ _ wr=>∃(k g cap:Nat),k≤64∧i = .int .i64 (k:Int)∧v = .slice (some ⟨g,0,none⟩) 8 cap∧RowK 1 encW wr (some ⟨g,0,none⟩) (roundsW ws hs k)∧Below w4.heap.size w4 wr) (fun _ i _ _ _ _ _=>64 - (intOf i).toNat)
   case atStart=>exact ⟨0,v4g,v4c,by omega,rfl,rfl,R4.out,Below.refl _ _⟩
   case round=>
    obtain ⟨j,vg2,vc2,hj,rfl,rfl,hvr,hbl⟩:=hrel;have HV:=Hd hvr;have HBJ:=Hd hbl;clear hvr hbl;have j0:(0:Int)≤(j:Int):=by omega
    by_cases hlt:j<64
    ·have j1:(j:Int)<64:=by omega
     obtain ⟨v0,v1,v2,v3,v4,v5,v6,v7,hv⟩:=eight (V8.out j);obtain ⟨kk,hkk⟩:∃x,kW.getD j 0=x:=⟨_,rfl⟩;obtain ⟨wk,hwk⟩:∃x,ws.getD j 0=x:=⟨_,rfl⟩;have STEP:=Hd (show roundsW ws hs (j+1)=roundW (roundsW ws hs j) kk wk from by rw [←hkk,←hwk];rfl);have hvx:=HV.out;rw [hv] at STEP hvx;have HVX:=Hd hvx;have c0:=hvx.at0 (i:=0) (by simp);have c4:=hvx.at0 (i:=4) (by simp);have c5:=hvx.at0 (i:=5) (by simp);have c6:=hvx.at0 (i:=6) (by simp);have c7:=hvx.at0 (i:=7) (by simp);have ck:=(RK4.out.later HBJ.out).at0 (i:=j) hlt;have cw:=(RWS.out.later HBJ.out).at0 (i:=j) (by rw [WSL.out];exact hlt);rw [hkk] at ck;rw [hwk] at cw;simp only [List.getD_cons_zero,List.getD_cons_succ] at c0 c4 c5 c6 c7;clear hv hkk hwk hvx hlt;go_wp2_with fail
     go_quiet ((first
      | (go_at_call 182;with_reducible exact rot6 v4 _ _)
      | (go_at_call 182;with_reducible exact rot11 v4 _ _)
      | (go_at_call 182;with_reducible exact rot25 v4 _ _)))
     go_wp2_with fail
     have BQ:=Hd (show Below wr.heap.size wr (wr.drewN nq) from ⟨rfl,rfl,rfl,Nat.le_refl _,fun _ _=>rfl⟩);generalize wr.drewN nq=wq at BQ ⊢;rw [t5_eq];obtain ⟨tt,htt⟩:∃x,v7+bs1 v4+chW v4 v5 v6+kk+wk=x:=⟨_,rfl⟩;rw [htt];have hq:=HVX.out.later BQ.out;have HVQ:=Hd hq;have HBQ:=Hd (HBJ.out.trans (BQ.out.mono HBJ.out.size));have d1:=hq.at0 (i:=1) (by simp);have d2:=hq.at0 (i:=2) (by simp);simp only [List.getD_cons_zero,List.getD_cons_succ] at d1 d2;have HTT:=Hd htt;clear BQ c0 c4 c5 c6 c7 ck cw htt hq HV HVX HBJ nq;go_wp2_with fail
     go_quiet ((first
      | (go_at_call 182;with_reducible exact rot2 v0 _ _)
      | (go_at_call 182;with_reducible exact rot13 v0 _ _)
      | (go_at_call 182;with_reducible exact rot22 v0 _ _)))
     go_wp2_with fail
     have BQ:=Hd (show Below wq.heap.size wq (wq.drewN nq) from ⟨rfl,rfl,rfl,Nat.le_refl _,fun _ _=>rfl⟩);generalize wq.drewN nq=wz at BQ ⊢;rw [u5_eq];obtain ⟨uu,huu⟩:∃x,bs0 v0+majW v0 v1 v2=x:=⟨_,rfl⟩;rw [huu];have hq:=HVQ.out.later BQ.out;have HVZ:=Hd hq;have HBZ:=Hd (HBQ.out.trans (BQ.out.mono HBQ.out.size));have STEP2:=Hd (show roundsW ws hs (j+1) = [tt+uu,v0,v1,v2,v3+tt,v4,v5,v6] from by rw [STEP.out,←HTT.out,←huu];rfl);have c1:=hq.at0 (i:=1) (by simp);have c2:=hq.at0 (i:=2) (by simp);have c3:=hq.at0 (i:=3) (by simp);have c5:=hq.at0 (i:=5) (by simp);have c6:=hq.at0 (i:=6) (by simp);simp only [List.getD_cons_zero,List.getD_cons_succ] at c1 c2 c3 c5 c6;have a1:=sum2 tt uu;have a2:=sum2 v3 tt;clear BQ d1 d2 huu hq HVQ HBQ STEP HTT nq;go_wp2_with fail
     go_still_tail 22,(by kernel_rfl)
     have RN:=Hd (rowW_new wz [tt+uu,v0,v1,v2,v3+tt,v4,v5,v6]);have BN:=Hd ((HBZ.out.alloc HBZ.out.size (.cells (([tt+uu,v0,v1,v2,v3+tt,v4,v5,v6]:List Wd).map eW).toArray 170)).drew);simp only [List.map_cons,List.map_nil] at RN BN;unfold eW at RN BN;rw [←STEP2.out] at RN;go_upto_region 17 with (fail)
     rw [a1,a2];clear c1 c2 c3 c5 c6 HVZ HBZ STEP2 a1 a2;generalize (wz.alloc (.cells #[.int .u32 (((tt+uu).toNat:Nat):Int),.int .u32 ((v0.toNat:Nat):Int),.int .u32 ((v1.toNat:Nat):Int),.int .u32 ((v2.toNat:Nat):Int),.int .u32 (((v3+tt).toNat:Nat):Int),.int .u32 ((v4.toNat:Nat):Int),.int .u32 ((v5.toNat:Nat):Int),.int .u32 ((v6.toNat:Nat):Int)] 170)).drew=w5 at RN BN ⊢;go_wp2_with fail
     exact ⟨⟨j+1,wz.heap.size,8,by omega,by go_num,rfl,RN.out,BN.out⟩,by simp [intOf];omega⟩
    obtain rfl:j=64:=by omega
    have j64:¬((64:Nat):Int)<64:=by omega
    obtain ⟨vs,hvs⟩:∃v,roundsW ws hs 64=v:=⟨_,rfl⟩;have VSL:=Hd (show vs.length=8 from by rw [←hvs];exact V8.out 64);rw [hvs] at HV BWK;have RH:=Hd ((HH.out.later (LW4.out)).later HBJ.out);have LWJ:=Hd (show Below w.heap.size w wr from LW4.out.trans (HBJ.out.mono LW4.out.size));obtain ⟨wo3,rfl⟩:∃wo:World,wo=wr:=⟨_,rfl⟩;clear hlt hj hvs R4 RWS RK4 HBJ;go_wp2_with fail
    go_loopw [17,18] (fun v i wr=>∃q:Nat,q≤8∧i = .int .i64 (q:Int)∧OwnW wr wo3.heap.size v ((List.range q).map fun i=>hs.getD i 0+vs.getD i 0)∧Below wo3.heap.size wo3 wr) (fun _ i _=>8 - (intOf i).toNat)
    case atStart=>exact ⟨0,by omega,rfl,OwnW.nil _ _,Below.refl _ _⟩
    case round=>
     obtain ⟨q,hq,rfl,ho,hbl⟩:=hrel;have HO:=Hd ho;have HBQ:=Hd hbl;have SL:=Hd (show ((List.range q).map fun i=>hs.getD i 0+vs.getD i 0).length=q from by simp);obtain ⟨vo,vc3,hv,hvc,hvr⟩:=ho.row;rw [SL.out] at hv;subst hv;clear ho hbl hvc hvr;have q0:(0:Int)≤(q:Int):=by omega
     by_cases hlt:q<8
     ·have q1:(q:Int)<8:=by omega
      obtain ⟨gg,oo,e,hgw,ch⟩:=(RH.out.later HBQ.out).word (i:=q) (by rw [H8.out];exact hlt);cases e;have cv:=(HV.out.later HBQ.out).at0 (i:=q) (by rw [VSL.out];exact hlt);have NX:=Hd (show ((List.range (q+1)).map fun i=>hs.getD i 0+vs.getD i 0)=((List.range q).map fun i=>hs.getD i 0+vs.getD i 0) ++ [hs.getD q 0+vs.getD q 0] from by rw [List.range_succ,List.map_append];rfl);obtain ⟨x,hx⟩:∃x,hs.getD q 0=x:=⟨_,rfl⟩;obtain ⟨y,hy⟩:∃x,vs.getD q 0=x:=⟨_,rfl⟩;rw [hx] at ch NX;rw [hy] at cv NX;have a1:=wrap_addW x y;generalize x+y=ww at a1 NX;obtain ⟨pl,hpl⟩:∃pl,((List.range q).map fun i=>hs.getD i 0+vs.getD i 0)=pl:=⟨_,rfl⟩;rw [hpl] at HO SL NX;have HOD:=Hd ((HO.out.alloc (.cells #[.int .u32 ((ww.toNat:Nat):Int)] 170)).drew);have HBD:=Hd ((HBQ.out.alloc HBQ.out.size (.cells #[.int .u32 ((ww.toNat:Nat):Int)] 170)).drew);have NEW:=Hd (show ((wr.alloc (.cells #[.int .u32 ((ww.toNat:Nat):Int)] 170)).drew).cell? ⟨wr.heap.size,0,none⟩=some (eW ww) from cell_drew (cell_box _ _ _ _ _ rfl _ rfl));have BW0:=Hd (show ∀n,Below wr.heap.size wr (wr.drewN n) from fun n=>⟨rfl,rfl,rfl,Nat.le_refl _,fun _ _=>rfl⟩);have BW1:=Hd (show ∀n A,Below wr.heap.size wr ((wr.drewN n).alloc A) from fun n A=>(BW0.out n).alloc (Nat.le_refl _) A);have GV:=Hd (World.block_lt_of_cell? _ _ cv);have GH:=Hd (World.block_lt_of_cell? _ _ ch);have SB:=Hd (show ∀w',Below wr.heap.size wr w'→w'.cell? ⟨hg,hoff+q,none⟩=some (.int .u32 ((x.toNat:Nat):Int))∧w'.cell? ⟨vg2,q,none⟩=some (.int .u32 ((y.toNat:Nat):Int)) from fun w' h=>
       ⟨by rw [h.cell (p:=⟨hg,hoff+q,none⟩) GH.out];exact ch,by rw [h.cell (p:=⟨vg2,q,none⟩) GV.out];exact cv⟩)
      have SB2:=Hd (show ∀w',Below wo3.heap.size wo3 w'→w'.cell? ⟨hg,hoff+q,none⟩=some (.int .u32 ((x.toNat:Nat):Int))∧w'.cell? ⟨vg2,q,none⟩=some (.int .u32 ((y.toNat:Nat):Int)) from fun w' h=>by
       obtain ⟨gg,oo,e,hgw,ch'⟩:=(RH.out.later h).word (i:=q) (by rw [H8.out];exact hlt);cases e;have cv':=(HV.out.later h).at0 (i:=q) (by rw [VSL.out];exact hlt);rw [hx] at ch';rw [hy] at cv';exact ⟨ch',cv'⟩)
      clear hx hy hpl hgw hlt;go_wp2_with fail
      go_region_held3 (fun w'=>w'.cell? ⟨hg,hoff+q,none⟩=some (.int .u32 ((x.toNat:Nat):Int))∧w'.cell? ⟨vg2,q,none⟩=some (.int .u32 ((y.toNat:Nat):Int)))
       (first | (exact R4.out) | (exact SB.out _ (BW0.out nq).drew) | (exact SB.out _ (BW0.out _)) | (exact SB.out _ (BW1.out _ _)))
       (first
        | (refine step_word (by rfl) (.tmp 225) (.tmp 235) (by rfl) wo3.heap.size (.slice vo q vc3) pl ?_ ?_ wr.heap.size 1 ww ?_ ?_ ?_ ?_ ?_;(simp [Act.eval]);(with_reducible exact HOD.out);(simp [Act.eval]);(with_reducible exact NEW.out);(rw [SL.out];omega);(have:=HBD.out.size;omega);intro v3 w4 hown hbel hkeep;have R4:=Hd (SB2.out w4 (HBD.out.trans hbel));rw [←NX.out] at hown;have O3:=Hd hown;have B3:=Hd (HBD.out.trans hbel);clear hown hbel hkeep))
      go_wp2_with fail
      exact ⟨⟨q+1,by omega,by go_num,O3.out,B3.out⟩,by simp [intOf];omega⟩
     obtain rfl:q=8:=by omega
     have q8:¬((8:Nat):Int)<8:=by omega
     have RES:=Hd (show OwnW wr wo3.heap.size (.slice vo 8 vc3) (blockW hs bs) from by rw [BWK.out];exact HO.out);have LWR:=Hd (LWJ.out.trans (HBQ.out.mono LWJ.out.size));clear hlt hq HO;go_wp2_with fail
     go_ret;obtain ⟨ao,cap,e,hc,hr⟩:=RES.out.row;exact ⟨ao,cap,by rw [←e];rfl,hc,hr,LWR.out⟩
end
end Go.Proofs.YtifcdjmcoibblaaGreatDoor
