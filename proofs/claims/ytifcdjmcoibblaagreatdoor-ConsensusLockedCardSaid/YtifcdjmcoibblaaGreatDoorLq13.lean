/- Byt Chk Sum -/
import Derived.Test.YtifcdjmcoibblaaGreatDoorLq12
import Derived.Test.YtifcdjmcoibblaaGreatDoorLq06
import Derived.Lib.ConvBytes
import Derived.Laws.AppendOwn
import Derived.Below
import Derived.OwnWalkIn
import Derived.Test.YtifcdjmcoibblaaGreatDoorLq01
import Derived.Lib.RabinKarpLaws
import Derived.Deep.DeepCutAuto
set_option linter.unusedVariables false
set_option linter.unusedSimpArgs false
set_option linter.unusedSectionVars false
set_option maxRecDepth 100000
set_option maxHeartbeats 80000000
namespace Go.Proofs.YtifcdjmcoibblaaGreatDoor
section
open Go.RowKit
def eB (n:Nat):Value:=.int .u8 (n:Int)
def OwnB (w:World) (base:Nat) (v:Value) (l:List Nat):Prop:=
 ∃g cap cur fz,v = .slice (some ⟨g,0,none⟩) l.length cap∧base≤g∧w.heap[g]?=some (.cells cur 5 fz)∧(∀i,i<cap→¬(fz.1≤i∧i<fz.2)) ∧
  l.length≤cap∧cap≤maxLen∧cur.size=cap∧cur.toList.take l.length=l.map eB
theorem Tryz.infoB:(Tryz.prog.info? 5).map (fun i=>(i.zero,i.size,i.bytes))=some (some (.int .u8 0),1,1):=by kernel_rfl
theorem add_off (g j:Nat):(⟨g,0,none⟩:Addr).add j=⟨g,j,none⟩:=by unfold Addr.add;split <;> simp_all
theorem OwnB.cell {w:World} {base:Nat} {v:Value} {l:List Nat} (h:OwnB w base v l):∃g cap,v = .slice (some ⟨g,0,none⟩) l.length cap∧base≤g∧g<w.heap.size∧l.length≤cap∧cap≤maxLen∧∀i n,l[i]?=some n→w.cell? ⟨g,i,none⟩=some (eB n):=by
 obtain ⟨g,cap,cur,fz,hv,hb,hg,_,hn,hm,_,ht⟩:=h;refine ⟨g,cap,hv,hb,(gE hg).1,hn,hm,fun i n hi=>?_⟩;have hil:=(List.getElem?_eq_some_iff.1 hi).1;have h2:(l.map eB)[i]?=some (eB n):=by rw [List.getElem?_map,hi];rfl
 rw [←ht,List.getElem?_take_of_lt hil,Array.getElem?_toList] at h2;rw [cell_of_row w g i cur _ _ hg];exact h2
theorem OwnB.row {w:World} {base:Nat} {v:Value} {l:List Nat} (h:OwnB w base v l):∃g cap,v = .slice (some ⟨g,0,none⟩) l.length cap∧base≤g∧l.length≤cap∧cap≤maxLen∧RowK 1 encB w (some ⟨g,0,none⟩) l:=by
 obtain ⟨g,cap,hv,hb,hg,hn,hm,hc⟩:=h.cell;refine ⟨g,cap,hv,hb,hn,hm,fun i n hi=>⟨g,0,rfl,hg,fun j u hu=>?_⟩⟩;have hj:j=0:=by
  have:=(List.getElem?_eq_some_iff.1 hu).1;simp [encB] at this;omega
 subst hj;simp [encB] at hu;subst hu;have:=hc i n hi;simpa [eB] using this
theorem OwnB.kept {w w':World} {base:Nat} {v:Value} {l:List Nat} (h:OwnB w base v l) (hk:∀k,base≤k→k<w.heap.size→w'.heap[k]?=w.heap[k]?):OwnB w' base v l:=by
 obtain ⟨g,cap,cur,fz,hv,hb,hg,r⟩:=h;exact ⟨g,cap,cur,fz,hv,hb,(hk g hb (gE hg).1).trans hg,r⟩
theorem OwnB.later {w w':World} {base:Nat} {v:Value} {l:List Nat} (h:OwnB w base v l) (hk:Below w.heap.size w w'):OwnB w' base v l:=h.kept fun k _ hl=>hk.block k hl
theorem oneB (n:Nat):(eB n).oneCell'=true:=rfl
theorem run_append_byte (w:World) (ty:TypeId) (base:Nat) (v:Value) (l:List Nat) (h:OwnB w base v l) (g2 c2 b:Nat) (hc:w.cell? ⟨g2,0,none⟩=some (eB b)) (hl:l.length≤1099511627776) (hb:base≤w.heap.size) :
  ∃v' w',(Builtin.append_ #[135,135] ty #[v,.slice (some ⟨g2,0,none⟩) 1 c2]).run Tryz.prog w = .ok v' w'∧OwnB w' base v' (l ++ [b])∧Below base w w':=by
 obtain ⟨i,hi,hz,hs,hby⟩:=info_parts Tryz.infoB;obtain ⟨g,cap,cur,fz,rfl,hbg,hg,hfz,hn,hm,hcs,ht⟩:=h;have hnews:∀j u,([eB b]:List Value)[j]?=some u→w.cell? ((⟨g2,0,none⟩:Addr).add j)=some u:=fun j u hu=>by
  rcases j with _ | j
  ·simp at hu;subst hu;rw [add_off];exact hc
  simp at hu
 by_cases hroom:l.length+1≤cap
 ·have hf:=run_firstCells_some (P:=Tryz.prog) w i.size 1 ⟨g2,0,none⟩ 1 c2 [eB b] (by rw [hs];rfl) hnews;have hlt:l.length<cur.size:=by omega
  have hcell:w.cell? ⟨g,l.length,none⟩=some cur[l.length]:=by simp [World.cell?,hg,hlt]
  have hfro:w.frozen? ⟨g,l.length,none⟩=false:=by
   have:=hfz l.length (by omega);obtain ⟨lo,hi'⟩:=fz;simp only [World.frozen?,hg,Bool.and_eq_false_iff,decide_eq_false_iff_not];simp only at this;omega
  have hst:(store (⟨g,l.length,none⟩:Addr) (eB b)).run Tryz.prog w = .ok () (w.setRow g (cur.setIfInBounds l.length (eB b))):=by
   rw [run_store Tryz.prog w _ (eB b) _ (oneB b),hcell];simp [hfro,setCell_eq_setRow w g l.length cur 5 fz (eB b) hg]
  have hst2:(storeCells (⟨g,l.length,none⟩:Addr) [eB b]).run Tryz.prog w = .ok () (w.setRow g (cur.setIfInBounds l.length (eB b))):=by
   have e0:(⟨g,l.length,none⟩:Addr).add 0=⟨g,l.length,none⟩:=by unfold Addr.add;split <;> simp_all
   simp only [storeCells,Sem.run_bind,e0,hst,Result.andThen_ok];rfl
  refine ⟨.slice (some ⟨g,0,none⟩) (l.length+1) cap,w.setRow g (cur.setIfInBounds l.length (eB b)),?_,⟨g,cap,cur.setIfInBounds l.length (eB b),fz,by rw [List.length_append];rfl,hbg,setRow_heap w g cur _ _ fz hg,hfz,by rw [List.length_append];exact hroom,hm,by rw [Array.size_setIfInBounds];exact hcs,?_⟩,
   ⟨rfl,rfl,rfl,by simp,fun k hk=>setRow_other w g k _ (by omega)⟩⟩
  ·simp [Builtin.append_,run_underlying Tryz.underlying135,sizeOf,typeInfo,hi,hs,Builtin.lenOf,hroom,hs ▸ hf,add_off,hst2]
  rw [List.length_append,Array.toList_setIfInBounds,List.map_append,←ht];simp only [List.length_cons,List.length_nil,Nat.zero_add,List.map_cons,List.map_nil];rw [List.take_succ_eq_append_getElem (by simp;omega),List.take_set_of_le (by omega)];simp
 have holds:∀j u,(l.map eB)[j]?=some u→w.cell? ((⟨g,0,none⟩:Addr).add j)=some u:=fun j u hu=>by
  rw [add_off,cell_of_row w g j cur _ _ hg];rw [←ht] at hu;have hj:=(List.getElem?_eq_some_iff.1 hu).1;rw [List.length_take] at hj;rw [List.getElem?_take_of_lt (by omega)] at hu;simpa using hu
 have hbytes:(l.length+1) * i.bytes≤140737488355328:=by rw [hby];omega
 have hr:=run_append_grow (P:=Tryz.prog) w 135 ty 5 i (.int .u8 0) Tryz.underlying135 hi hz ⟨g,0,none⟩ l.length cap (l.map eB) (by rw [hs];simp) holds ⟨g2,0,none⟩ 1 c2 [eB b] (by rw [hs];rfl) hnews (by omega) (by omega) (growslice_fits (by omega) hbytes);have hge:=grownCap_ge w (l.length+1) cap 5;have hcm2:grownCap w (l.length+1) cap 5≤maxLen:=grownCap_le_maxLen w (l.length+1) cap 5 (by unfold maxLen;omega);refine ⟨_,_,hr,⟨w.heap.size,_,_,(0,0),by rw [List.length_append];rfl,hb,heap_alloc_new w.drew _,(fun j _=>by simp),by rw [List.length_append];exact hge,hcm2,?_,?_⟩,((Below.refl base w).drew).alloc hb _⟩
 ·have hz1:(Value.int IntKind.u8 0).cells.size=1:=rfl;simp only [Array.size_append,List.size_toArray,size_zeroCells,hz1,List.length_map,List.length_cons,List.length_nil];omega
 rw [List.length_append,List.map_append];simp only [Array.toList_append,List.append_assoc,List.length_cons,List.length_nil];rw [←List.append_assoc];exact List.take_left' (by simp)
theorem wpList_append_byte {w:World} {ops:Array Oper} {rest:List Oper} {o:Oper} {a:Act} {Q:Exit→Act→World→Prop} (hgd:o.guard=none) (s x:Operand)
  (ho:o.op = .call {callee:=.builtin .append,args:=#[s,x],argTypes:=#[135,135]})
  (base:Nat) (v:Value) (l:List Nat) (hs:a.eval s=v) (h:OwnB w base v l) (g2 c2 b:Nat) (hx:a.eval x = .slice (some ⟨g2,0,none⟩) 1 c2) (hc:w.cell? ⟨g2,0,none⟩=some (eB b)) (hl:l.length≤1099511627776) (hb:base≤w.heap.size)
  (hK:∀v' w',OwnB w' base v' (l ++ [b])→Below base w w'→wpList Tryz.prog ops Q rest (a.put o.dst v') w'):wpList Tryz.prog ops Q (o :: rest) a w:=by
 refine wpList_plain hgd fun K hK'=>?_;obtain ⟨v',w',hr,h2,h3⟩:=run_append_byte w o.type base v l h g2 c2 b hc hl hb;unfold Oper.wp execOp;simp only [ho,resolve,invoke,builtin,Sem.run_bind,Sem.run_pure,Result.andThen_ok,List.map_toArray,List.map_cons,List.map_nil,hs,hx,hr];exact hK' _ _ (hK v' w' h2 h3)
theorem wpListIn_append_byte {F:Fence} {n:Nat} {w:World} {ops:Array Oper} {rest:List Oper} {o:Oper} {a:Act} {Q:Exit→Act→World→Prop} (hgd:o.guard=none) (s x:Operand)
  (ho:o.op = .call {callee:=.builtin .append,args:=#[s,x],argTypes:=#[135,135]})
  (base:Nat) (v:Value) (l:List Nat) (hs:a.eval s=v) (h:OwnB w base v l) (g2 c2 b:Nat) (hx:a.eval x = .slice (some ⟨g2,0,none⟩) 1 c2) (hc:w.cell? ⟨g2,0,none⟩=some (eB b)) (hl:l.length≤1099511627776) (hb:base≤w.heap.size)
  (hK:∀v' w',OwnB w' base v' (l ++ [b])→Below base w w'→wpListIn F n Tryz.prog ops Q rest (a.put o.dst v') w'):wpListIn F n Tryz.prog ops Q (o :: rest) a w:=by
 refine wpListIn_plain hgd fun K hK'=>?_;obtain ⟨v',w',hr,h2,h3⟩:=run_append_byte w o.type base v l h g2 c2 b hc hl hb;unfold Oper.wpIn;refine ⟨?_,?_⟩
 ·simp [Oper.about,ho,resolve,Target.leads,Sem.run_pure]
 rw [Oper.semAt_plain F _ _ (by rw [ho];intro c hc';cases hc')];simp [execOp,ho,resolve,invoke,builtin,hs,hx,hr,Result.andThen];exact hK' _ _ (hK v' w' h2 h3)
def bytesN (s:ByteArray):List Nat:=s.data.toList.map UInt8.toNat
theorem bytesN_len (s:ByteArray):(bytesN s).length=s.size:=by unfold bytesN;rw [List.length_map];rfl
theorem bytesN_lt (s:ByteArray):∀n∈bytesN s,n<256:=fun n hn=>by
 obtain ⟨x,_,rfl⟩:=List.mem_map.1 hn;exact x.toNat_lt
theorem bytesN_strB {l:List Nat} (h:∀n∈l,n<256):bytesN (strB l)=l:=by
 unfold bytesN strB;rw [List.map_map];conv=>rhs;rw [←List.map_id l]
 exact List.map_congr_left fun x hx=>by
  have:=h x hx;show (UInt8.ofNat x).toNat=x;rw [UInt8.toNat_ofNat'];omega
theorem bytes_take (s:ByteArray) (r:Array Value):((s.data.map fun b=>Value.int .u8 b.toNat) ++ r).toList.take s.size=(bytesN s).map eB:=by
 have hl:s.data.size=s.size:=rfl;rw [Array.toList_append,List.take_left' (by simp [hl])];unfold bytesN;simp [eB]
theorem ownB_bytes (w:World) (s:ByteArray) (hs:s.size≤1099511627776):OwnB (Lib.bytesWorld w 5 s) w.heap.size (.slice (some ⟨w.heap.size,0,none⟩) s.size (grownCap w s.size 0 5)) (bytesN s):=by
 have hge:=grownCap_ge w s.size 0 5;have hsz:(Lib.bytesCells w 5 s).size=grownCap w s.size 0 5:=by
  unfold Lib.bytesCells;have:s.data.size=s.size:=rfl;simp [this];omega
 refine ⟨w.heap.size,_,_,_,by rw [bytesN_len],Nat.le_refl _,Lib.bytesWorld_at_new w 5 s,?_,by rw [bytesN_len];exact hge,grownCap_le_maxLen w s.size 0 5 (by unfold maxLen;omega),hsz,?_⟩
 ·intro i hi;simp only;omega
 rw [bytesN_len];exact bytes_take s _
theorem bytes_below (w:World) (s:ByteArray):Below w.heap.size w (Lib.bytesWorld w 5 s):=by
 refine ⟨?_,?_,?_,by rw [Lib.bytesWorld_size];omega,fun k hk=>Lib.bytesWorld_at_old w 5 s k hk⟩ <;> (unfold Lib.bytesWorld World.freeze;split <;> rfl)
theorem wpListIn_bytes {F:Fence} {n:Nat} {w:World} {ops:Array Oper} {rest:List Oper} {o:Oper} {a:Act} {Q:Exit→Act→World→Prop} (hgd:o.guard=none) (x:Operand)
  (ho:o.op = .convert 9 135 x) (s:ByteArray) (hx:a.eval x = .string s) (hs:s.size≤1099511627776)
  (hK:∀v' w',OwnB w' w.heap.size v' (bytesN s)→Below w.heap.size w w'→wpListIn F n Tryz.prog ops Q rest (a.put o.dst v') w'):wpListIn F n Tryz.prog ops Q (o :: rest) a w:=by
 refine wpListIn_plain hgd fun K hK'=>?_;have hr:=Lib.run_convert_string_bytes (P:=Tryz.prog) w _ _ _ s Tryz.underlying9 Tryz.underlying135 Tryz.underlying5;unfold Oper.wpIn;refine ⟨?_,?_⟩
 ·simp [Oper.about,ho]
 rw [Oper.semAt_plain F _ _ (by rw [ho];intro c hc';cases hc')];simp [execOp,ho,hx,hr,Result.andThen];exact hK' _ _ (hK _ _ (ownB_bytes w s hs) (bytes_below w s))
theorem wpListIn_load_row {F:Fence} {n:Nat} {P:Program} {ops:Array Oper} {rest:List Oper} {o:Oper} {a:Act} {w:World} {Q:Exit→Act→World→Prop} (hgd:o.guard=none) (ty:TypeId) (x:Operand) (ho:o.op = .load ty x)
  (g:Nat) (hx:a.eval x = .pointer (some ⟨g,0,none⟩)) (t:TypeId) (cs:Array Value) (fr:Nat×Nat) (d:TypeDesc) (hg:w.heap[g]?=some (.cells cs t fr))
  (hu:P.underlying ty=some d) (hd:(match d with | .struct _ | .array _ _=>true | _=>false)=true) (hi:(P.info? ty).map (·.size)=some cs.size)
  (h:wpListIn F n P ops Q rest (a.put o.dst (.agg cs)) w):wpListIn F n P ops Q (o :: rest) a w:=by
 refine wpListIn_plain hgd fun K hK=>?_;have hr:=run_loadVar_row (P:=P) w g t ty cs fr d hg hu hd hi;unfold Oper.wpIn;refine ⟨?_,?_⟩
 ·simp [Oper.about,ho]
 rw [Oper.semAt_plain F _ _ (by rw [ho];intro c hc';cases hc')];simp [execOp,ho,hx,Instr.loadAt,Instr.sureAddr,hr,Result.andThen];exact hK _ _ h
theorem RowK.cut {w:World} {g:Nat} {l:List Nat} (h:RowK 1 encB w (some ⟨g,0,none⟩) l) (k:Nat):RowK 1 encB w (some ⟨g,64 * k,none⟩) ((l.drop (64 * k)).take 64):=fun i x hx=>by
 have hi:=(List.getElem?_eq_some_iff.1 hx).1;rw [List.getElem?_take_of_lt (by simp at hi;omega),List.getElem?_drop] at hx;obtain ⟨b,off,e,h1,h2⟩:=h _ x hx;cases e;exact ⟨g,64 * k,rfl,h1,fun j v hv=>by have:=h2 j v hv;rw [Nat.zero_add,Nat.mul_one] at this;rw [Nat.mul_one];exact this⟩
theorem RowK.chgB {w w':World} {g:Nat} {l:List Nat} {C:Nat→Prop} (h:RowK 1 encB w (some ⟨g,0,none⟩) l) (hc:Chg C w w') (hn:¬C g):RowK 1 encB w' (some ⟨g,0,none⟩) l:=fun i x hx=>by
 obtain ⟨b,off,e,h1,h2⟩:=h i x hx;cases e;exact ⟨g,0,rfl,Nat.lt_of_lt_of_le h1 hc.size,fun j v hv=>hc.cell (h2 j v hv) hn⟩
end
section
open Go.RowKit
attribute [local go_sem] Oper.semAt_some
theorem chunk_any (g ln cap:Nat) (w:World) :
  Calls Tryz.prog 129 #[.slice (some ⟨g,0,none⟩) ln cap,.int .i64 64] w fun e w'=>e = .returned (.func (.func 178) #[] #[.pointer (some ⟨w.heap.size,0,none⟩),.pointer (some ⟨w.heap.size+1,0,none⟩)])∧w'=(w.alloc (.cells #[.slice (some ⟨g,0,none⟩) ln cap] 135)).alloc (.cells #[.int .i64 64] 3):=by
 go_enter Tryz.func129,Tryz.ntmps129
 go_wp2
 go_ret;exact ⟨rfl,rfl⟩
def encC (g:Nat) (k:Nat):Array Value:=#[.slice (some ⟨g,64 * k,none⟩) 64 64]
theorem chunk_seq (n bx g m cap:Nat) (w:World) (hm:64 * m≤cap) (hcap:cap≤maxLen) (hml:m≤1099511627776) (hb:w.cell? ⟨bx,0,none⟩=some (.slice (some ⟨g,0,none⟩) (64 * m) cap)) (hb2:w.cell? ⟨bx+1,0,none⟩=some (.int .i64 64)) :
  SeqAll n Tryz.prog 178 #[.pointer (some ⟨bx,0,none⟩),.pointer (some ⟨bx+1,0,none⟩)] (encC g) (fun k=>k=bx∨k=bx+1) (List.range m) w:=by
 intro lp J O W hW hO hJ hY h0;have hbc:W.cell? ⟨bx,0,none⟩=some (.slice (some ⟨g,0,none⟩) (64 * m) cap):=by rw [hW.cell (p:=⟨bx,0,none⟩) (World.block_lt_of_cell? _ _ hb)];exact hb
 have hbd:W.cell? ⟨bx+1,0,none⟩=some (.int .i64 64):=by rw [hW.cell (p:=⟨bx+1,0,none⟩) (World.block_lt_of_cell? _ _ hb2)];exact hb2
 have HY:=Hd hY;have H0:=Hd h0;have HO:=Hd (show ¬O bx∧¬O (bx+1) from ⟨fun q=>(hO _ q).2 (.inl rfl),fun q=>(hO _ q).2 (.inr rfl)⟩);unfold maxLen at hcap;have HBC:=Hd hbc;have HBD:=Hd hbd;have HJ:=Hd hJ;clear hY h0 hJ hO hW hb hb2 hbc hbd;refine callsIn_of_wp Tryz.func178 rfl trivial ?_ rfl;simp only [Tryz.ntmps178,List.size_toArray,List.length_cons,List.length_nil,Nat.reduceAdd,Nat.reduceSub,Array.replicate_succ,Array.replicate_zero,List.push_toArray,List.append_toArray,List.nil_append,List.cons_append];gi_wp2
 gi_loopw [4] (fun i wr=>∃(k:Nat) (O1:Nat→Prop),k≤m∧i = .int .i64 ((64 * k:Nat):Int)∧J (List.range k) O1 wr∧(¬O1 bx∧¬O1 (bx+1))∧wr.cell? ⟨bx,0,none⟩=some (.slice (some ⟨g,0,none⟩) (64 * m) cap)∧wr.cell? ⟨bx+1,0,none⟩=some (.int .i64 64)) (fun i _=>64 * m - (intOf i).toNat)
 case atStart=>exact ⟨0,O,Nat.zero_le _,rfl,H0.out,HO.out,HBC.out,HBD.out⟩
 case round=>
  obtain ⟨k,O1,hk,rfl,hj,hno,hr1,hr2⟩:=hrel;have JK:=Hd hj;have HN:=Hd hno;clear hj hno;by_cases hlt:k<m
  ·have hSp:=Hd (show List.range m=List.range k ++ k :: (List.range (m - k - 1)).map (k+1 + ·) by
    have e:m=k+(1+(m - k - 1)):=by omega
    conv=>lhs;rw [e,List.range_add,List.range_add]
    simp [Nat.add_assoc,Function.comp_def])
   obtain ⟨j,hj⟩:∃j,64 * k=j:=⟨_,rfl⟩;rw [hj];have j0:(0:Int)≤(j:Int):=by omega
   have j1:(j:Int)<((64 * m:Nat):Int):=by omega
   have JJ:=Hd (HJ.out _ _ _ _ _ JK.out (show Chg (fun _=>False) wr wr.drew from Chg.drew _ _) (fun k h=>h.elim));obtain ⟨fn,tmps,assign,body,hy,hR⟩:=HY.out _ _ _ _ _ hSp.out JJ.out;have HRD:=Hd hR;dsimp only [encC] at hy;rw [hj] at hy;clear hR;have R1:=Hd hr1;have R2:=Hd hr2;have j2:(j:Int)<64 * (m:Int):=by omega
   have c0:j<cap:=by omega
   have mn:min (64:Int) ((64 * m - j:Nat):Int)=64:=by omega
   have tn:((j:Int)+64).toNat - j=64:=by omega
   have wn:wrap64 ((j:Int)+64)=(j:Int)+64:=by unfold wrap64;omega
   have NX:=Hd (show List.range (k+1)=List.range k ++ [k]∧(j:Int)+64=((64 * (k+1):Nat):Int)∧64 * m - (j+64)<64 * m - j from ⟨List.range_succ,by omega,by omega⟩);have km:k+1≤m:=hlt;clear hj;gi_wp2
   gi_region
   gi_wp2
   refine ⟨fun h=>absurd h (by simp [Fence.wide]),HRD.out.mono ?_⟩;rintro e W3 ⟨rfl,O2,hj3,hc3,ho3⟩;have J3:=Hd (show J (List.range (k+1)) O2 W3∧(¬O2 bx∧¬O2 (bx+1))∧W3.cell? ⟨bx,0,none⟩=some (.slice (some ⟨g,0,none⟩) (64 * m) cap)∧W3.cell? ⟨bx+1,0,none⟩=some (.int .i64 64) from
    ⟨by rw [NX.out.1];exact hj3,⟨fun q=>by
     rcases ho3 _ q with q | q
     ·exact HN.out.1 q
     ·have:=World.block_lt_of_cell? _ _ R1.out;simp at q this;omega,fun q=>by
     rcases ho3 _ q with q | q
     ·exact HN.out.2 q
     have:=World.block_lt_of_cell? _ _ R2.out;simp at q this;omega⟩,hc3.cell R1.out HN.out.1,hc3.cell R2.out HN.out.2⟩)
   have r2:=J3.out.2.2.2;clear hj3 hc3 ho3 hr1 hr2 mn tn;gi_wp2
   exact ⟨⟨k+1,O2,km,by rw [NX.out.2.1],J3.out.1,J3.out.2.1,J3.out.2.2.1,J3.out.2.2.2⟩,by simp [intOf];omega⟩
  have hkm:k=m:=by omega
  have hj:=JK.out;rw [hkm] at hj;have HJJ:=Hd hj;have k1:¬((64 * k:Nat):Int)<64 * (m:Int):=by omega
  have R1:=Hd hr1;clear hj hkm JK hlt hr2;gi_wp2
  go_end0
  exact ⟨⟨_,rfl⟩,O1,HJJ.out⟩
end
section
open Go.RowKit
attribute [local go_sem] Oper.semAt_some
theorem chunksW_snoc:∀(k:Nat) (h:List Wd) (b:List Nat),chunksW h (k+1) b=blockW (chunksW h k b) ((b.drop (64 * k)).take 64)
 | 0,h,b=>by simp [chunksW]
 | k+1,h,b=>by
  show chunksW (blockW h (b.take 64)) (k+1) (b.drop 64)=_;rw [chunksW_snoc k,List.drop_drop];have e:64+64 * k=64 * (k+1):=by omega
  rw [e];rfl
def lenW (n k:Nat):List Nat:=(List.range k).map fun i=>(8 * n / 2 ^ (8 * (7 - i))) % 256
theorem lenW_succ (n k:Nat):lenW n (k+1)=lenW n k ++ [(8 * n / 2 ^ (8 * (7 - k))) % 256]:=by
 unfold lenW;rw [List.range_succ,List.map_append];rfl
theorem lenW_len (n k:Nat):(lenW n k).length=k:=by unfold lenW;simp
theorem pad_eq (n:Nat):padW n=128 :: (List.replicate ((119 - n % 64) % 64) 0 ++ lenW n 8):=rfl
theorem repl_succ (x:List Nat) (j:Nat):x ++ 128 :: List.replicate (j+1) 0=(x ++ 128 :: List.replicate j 0) ++ [0]:=by
 rw [List.replicate_succ'];simp
theorem OwnB.base {w:World} {b b':Nat} {v:Value} {l:List Nat} (h:OwnB w b v l) (hb:b'≤b):OwnB w b' v l:=by
 obtain ⟨g,cap,cur,fz,hv,h1,r⟩:=h;exact ⟨g,cap,cur,fz,hv,Nat.le_trans hb h1,r⟩
theorem OwnB.alloc {w:World} {b:Nat} {v:Value} {l:List Nat} (h:OwnB w b v l) (o:Obj):OwnB (w.alloc o) b v l:=h.later ((Below.refl _ _).alloc (Nat.le_refl _) o)
def lenV:Value→Nat
 | .slice _ n _=>n
 | _=>0
theorem pad_lt (n:Nat):∀x∈padW n,x<256:=fun x hx=>by
 unfold padW at hx;rcases List.mem_cons.1 hx with rfl | hx
 ·omega
 rcases List.mem_append.1 hx with hx | hx
 ·obtain ⟨_,rfl⟩:=List.mem_replicate.1 hx;omega
 obtain ⟨i,_,rfl⟩:=List.mem_map.1 hx;omega
structure SumI (w:World) (g:Nat) (bs:List Nat) (k:Nat) (W:World):Prop where
 h:W.heap[w.heap.size]?=some (.cells (rowW 8 (chunksW h0W k bs)) 172 (0,0))
 row:RowK 1 encB W (some ⟨g,0,none⟩) bs
 low:Below w.heap.size w W
theorem SumI.chg {w A B:World} {g k z:Nat} {bs:List Nat} {C:Nat→Prop} (h:SumI w g bs k A) (hc:Chg C A B) (hC:∀j,C j→z≤j) (hg:g<z) (hw:w.heap.size<z):SumI w g bs k B:=
 ⟨(hc.block _ (gE h.h).1 (fun c=>by have:=hC _ c;omega)).trans h.h,h.row.chgB hc (fun c=>by have:=hC _ c;omega),h.low.trans (hc.below h.low.size (fun j c=>by have:=hC _ c;omega))⟩
theorem sum_any (s:ByteArray) (w:World) (hs:s.size≤1000000) (hG:Glob w) :
  Calls Tryz.prog 72 #[.string s] w fun e w'=>e = .returned (.string (strB (shaW (bytesN s))))∧Below w.heap.size w w':=by
 have HG:=Hd hG;clear hG;suffices HH:∀n,CallsIn Fence.wide n Tryz.prog 72 #[.string s] w (fun e w'=>e = .returned (.string (strB (shaW (bytesN s))))∧Below w.heap.size w w') from (callsIn_wide (n:=5)).1 (HH 5)
 intro nF;refine callsIn_of_wp_marks Tryz.func72 rfl trivial ?_ rfl;simp only [Tryz.ntmps72,List.size_toArray,List.length_cons,List.length_nil,Nat.reduceAdd,Nat.reduceSub,Array.replicate_succ,Array.replicate_zero,List.push_toArray,List.append_toArray,List.nil_append,List.cons_append];obtain ⟨b0,hb0⟩:∃b0,w.heap.size+1=b0:=⟨_,rfl⟩;have HZ:=Hd hb0;clear hb0;gi_wp2_with (first
  | (refine wpListIn_bytes rfl (.tmp 8) rfl s rfl (by omega) ?_;intro v1 W1 ho1 hb1;simp only [World.size_alloc] at ho1 hb1;have B0:=Hd (show Below w.heap.size w W1 from ((Below.refl _ w).alloc (Nat.le_refl _) _).trans (hb1.mono (Nat.le_succ _)));have HB0:=Hd (show W1.heap[w.heap.size]?=some (.cells (rowW 8 h0W) 172 (0,0)) from (hb1.block _ (Nat.lt_succ_self _)).trans (heap_alloc_new w _));rw [HZ.out] at ho1 hb1;have O1:=Hd ho1;have L1:=Hd hb1.size;simp only [World.size_alloc] at L1;rw [HZ.out] at L1;clear ho1 hb1)
  | (gi_at_builtin;go_loud (refine wpListIn_append_byte rfl (.tmp 9) (.tmp 10) rfl b0 v1 (bytesN s) rfl (O1.out.alloc _) W1.heap.size 1 128 rfl (cell_box _ _ _ _ _ rfl _ rfl) (by rw [bytesN_len];omega) (by have:=L1.out;simp;omega) ?_;intro v2 W2 hown hbel;have O2:=Hd hown;have B2:=Hd (((Below.refl b0 W1).alloc L1.out _).trans hbel);clear hown hbel))
  | gi_in)
 obtain ⟨J,hJ⟩:∃J,(119 - s.size % 64) % 64=J:=⟨_,rfl⟩;have hJ1:J<64:=by omega
 have HJ:=Hd hJ;clear hJ O1;gi_loopw [4] (fun v wr=>∃j:Nat,j≤J∧OwnB wr b0 v (bytesN s ++ 128 :: List.replicate j 0)∧Below b0 W1 wr) (fun v _=>s.size+1+J - lenV v)
 case atStart=>exact ⟨0,by omega,O2.out,B2.out⟩
 case round=>
  obtain ⟨j,hj,ho,hb⟩:=hrel;have BW:=Hd hb;have OW:=Hd ho;have OC:=Hd ho.cell;obtain ⟨g,cap,hv,hbg,hgl,hlc,hcm,_⟩:=OC.out;have hln:(bytesN s ++ 128 :: List.replicate j 0).length=s.size+1+j:=by simp [bytesN_len];omega
  rw [hln] at hv hlc;subst hv;clear hb ho OC;unfold maxLen at hcm;obtain ⟨n,hn⟩:∃n,s.size+1+j=n:=⟨_,rfl⟩;rw [hn] at OW hlc ⊢;have hn1:n≤1000100:=by omega
  have HN:=Hd hn;have HLN:=Hd hln;have n0:(0:Int)≤(n:Int):=by omega
  have LT:=Hd hbg;by_cases hlt:j<J
  ·have t1:¬(n:Int) % 64=56:=by have:=HJ.out;omega
   have t2:((n:Int) % 64 == 56)=false:=by simpa using t1
   clear hn hln hbg;gi_wp2_with (first
    | (gi_at_builtin;go_loud (refine wpListIn_append_byte rfl (.tmp 16) (.tmp 17) rfl b0 (.slice (some ⟨g,0,none⟩) n cap) (bytesN s ++ 128 :: List.replicate j 0) rfl (OW.out.alloc _) wr.heap.size 1 0 rfl (cell_box _ _ _ _ _ rfl _ rfl) (by rw [HLN.out];omega) (by have:=LT.out;simp;omega) ?_;intro v3 W3 hown hbel;have O3:=Hd hown;have B3:=Hd ((BW.out.alloc (by have:=BW.out.size;have:=L1.out;omega) _).trans hbel);clear hown hbel))
    | gi_in)
   have hl3:lenV v3=n+1:=by
    obtain ⟨g3,c3,h3,_⟩:=O3.out.cell;rw [h3];show (_:List Nat).length=_;rw [List.length_append,HLN.out,HN.out];rfl
   refine ⟨⟨j+1,hlt,?_,B3.out⟩,?_⟩
   ·rw [repl_succ];exact O3.out
   rw [hl3,HN.out.symm];show s.size+1+J - (s.size+1+j+1)<s.size+1+J - (s.size+1+j);omega
  have hjJ:j=J:=by omega
  have t1:(n:Int) % 64=56:=by have:=HJ.out;omega
  rw [hjJ] at OW;obtain ⟨pre,hpre⟩:∃p,bytesN s ++ 128 :: List.replicate J 0=p:=⟨_,rfl⟩;rw [hpre] at OW;have PRE:=Hd (show pre.length=n∧pre ++ lenW s.size 8=bytesN s ++ padW s.size from ⟨by rw [←hpre,←hjJ,HLN.out,HN.out],by rw [←hpre,pad_eq,HJ.out];simp⟩);have WO:=Hd (show ∃wo:World,wo=wr from ⟨_,rfl⟩);obtain ⟨wo,hwo⟩:=WO.out;clear WO;subst hwo;clear hn hln hbg hjJ hlt hj HLN hpre O2 B2;gi_wp2
  have T1:=Hd t1;clear t1;gi_loopw [4,5] (fun v i wr=>∃k:Nat,k≤8∧i = .int .i64 (7 - (k:Int))∧OwnB wr b0 v (pre ++ lenW s.size k)∧Below b0 W1 wr) (fun _ i _=>(intOf i+1).toNat)
  case atStart=>exact ⟨0,by omega,rfl,by simpa [lenW] using OW.out,BW.out⟩
  case round=>
   obtain ⟨k,hk,rfl,ho,hb⟩:=hrel;have BX:=Hd hb;have OX:=Hd ho;have OC:=Hd ho.cell;obtain ⟨g2,cap2,hv,hbg,hgl,hlc2,hcm2,_⟩:=OC.out;have hln:(pre ++ lenW s.size k).length=n+k:=by rw [List.length_append,PRE.out.1,lenW_len]
   rw [hln] at hv hlc2;subst hv;clear hb ho OC;unfold maxLen at hcm2;have HLN:=Hd hln;have LT2:=Hd hbg;by_cases hlt:k<8
   ·obtain ⟨m,hm⟩:∃m,8 * (7 - k)=m:=⟨_,rfl⟩;have LS:=Hd (lenW_succ s.size k);rw [hm] at LS;have e1:(8:Int) * (7 - (k:Int))=(m:Int):=by omega
    have nn:¬(m:Int)<0:=by omega
    have m0:(0:Int)≤(m:Int):=by omega
    have m1:(m:Int)≤64:=by omega
    have k0:(0:Int)≤7 - (k:Int):=by omega
    have k7:7 - (k:Int)≤7:=by omega
    have HM:=Hd hm;clear hm hln hbg hlt;have BY:=Hd (show (#[Value.int .u8 (8 * (s.size:Int) / 2 ^ m % 256)]:Array Value)[0]?=some (eB ((8 * s.size / 2 ^ m) % 256)) from by
     show some (Value.int .u8 _)=some (Value.int .u8 _);congr 2)
    gi_wp2_with (first
     | (gi_at_builtin;go_loud (refine wpListIn_append_byte rfl (.tmp 23) (.tmp 31) rfl b0 (.slice (some ⟨g2,0,none⟩) (n+k) cap2) (pre ++ lenW s.size k) rfl (OX.out.alloc _) wr.heap.size 1 ((8 * s.size / 2 ^ m) % 256) rfl (cell_box _ _ _ _ _ BY.out _ rfl) (by rw [HLN.out];omega) (by have:=LT2.out;simp;omega) ?_;intro v3 W3 hown hbel;rw [List.append_assoc,←LS.out] at hown;have O3:=Hd hown;have B3:=Hd ((BX.out.alloc (by have:=BX.out.size;have:=L1.out;omega) _).trans hbel);clear hown hbel))
     | gi_in)
    have hl3:n+k+1=(pre ++ lenW s.size (k+1)).length:=by rw [List.length_append,PRE.out.1,lenW_len];omega
    refine ⟨⟨k+1,by omega,by go_num,O3.out,B3.out⟩,by simp [intOf];omega⟩
   have hk8:k=8:=by omega
   rw [hk8,PRE.out.2] at OX;have HL2:=Hd (show (bytesN s ++ padW s.size).length=n+k from by rw [←HLN.out,hk8,PRE.out.2]);have hmod:(n+k) % 64=0:=by rw [←HL2.out,List.length_append,bytesN_len];exact pad_len s.size
   obtain ⟨mm,hmm⟩:∃mm,n+k=64 * mm:=⟨(n+k) / 64,by omega⟩;have ROW:=Hd (show RowK 1 encB wr (some ⟨g2,0,none⟩) (bytesN s ++ padW s.size) from by
    obtain ⟨g',cap',e,_,_,_,hr⟩:=OX.out.row;injection e with e1 e2 e3
    injection e1 with e1
    injection e1 with e1
    rw [e1];exact hr)
   rw [hmm] at HL2 hlc2 ⊢;have kn:¬(0:Int)≤7 - (k:Int):=by omega
   have kn2:¬(k:Int)≤7:=by omega
   have hml:mm≤1099511627776:=by omega
   clear hln hbg hlt hk hk8 hmod hmm hlc OW OX;obtain ⟨bs,hbs⟩:∃bs,bytesN s ++ padW s.size=bs:=⟨_,rfl⟩;have HBS:=Hd hbs;rw [hbs] at ROW HL2;clear hbs;gi_wp2
   refine wide_call (chunk_any _ _ _ wr) ?_;rintro e w' ⟨rfl,rfl⟩;gi_wp2
   obtain ⟨Wc,hWc⟩:∃Wc,(wr.alloc (.cells #[.slice (some ⟨g2,0,none⟩) (64 * mm) cap2] 135)).alloc (.cells #[.int .i64 64] 3)=Wc:=⟨_,rfl⟩;have ZC:=Hd (show Wc.heap.size=wr.heap.size+2 from by rw [←hWc];simp);have BC:=Hd (show Below wr.heap.size wr Wc from by rw [←hWc];exact ((Below.refl _ _).alloc (Nat.le_refl _) _).alloc (by simp) _);have C0:=Hd (show Wc.cell? ⟨wr.heap.size,0,none⟩=some (.slice (some ⟨g2,0,none⟩) (64 * mm) cap2) from by rw [←hWc];exact cell_up (cell_box _ _ _ _ _ rfl _ rfl) _);have C1:=Hd (show Wc.cell? ⟨wr.heap.size+1,0,none⟩=some (.int .i64 64) from by rw [←hWc];exact cell_box _ _ _ _ _ rfl _ (by simp));rw [hWc];clear hWc;refine wpIn_range_all (gf:=178) (lb:=#[.pointer (some ⟨wr.heap.size,0,none⟩),.pointer (some ⟨wr.heap.size+1,0,none⟩)]) rfl (enters_of Tryz.func178 (by kernel_rfl) rfl)
    (chunk_seq _ wr.heap.size g2 mm cap2 Wc hlc2 (by unfold maxLen;omega) hml C0.out C1.out) (fun _=>rfl)
    (fun pre O W=>SumI w g2 bs pre.length W∧∀j,O j↔j=w.heap.size) (fun j=>j=w.heap.size) ?hO0 ?hI ?h0
    (fun pre x a' O W=>a' = {tmps:=#[.string s,undef,.string {data:=#[]},.pointer (some ⟨w.heap.size,0,none⟩),.slice (some ⟨g2,0,none⟩) (64 * mm) cap2,.int .i64 (7 - (k:Int)),.slice (some ⟨g2,64 * x,none⟩) 64 64,.agg #[.int .u32 1779033703,.int .u32 3144134277,.int .u32 1013904242,.int .u32 2773480762,.int .u32 1359893119,.int .u32 2600822924,.int .u32 528734635,.int .u32 1541459225],.string s,v1,.slice (some ⟨W1.heap.size,0,none⟩) 1 1,v2,.slice (some ⟨g,0,none⟩) n cap,.int .i64 (n:Int),.int .i64 ((n:Int) % 64),.bool false,u16,u17,u18,.int .i64 (7 - (k:Int)),.bool false,u21,u22,u23,u24,u25,u26,u27,u28,u29,u30,u31,u32,.slice (some ⟨g2,0,none⟩) (64 * mm) cap2,.func (.func 178) #[] #[.pointer (some ⟨wr.heap.size,0,none⟩),.pointer (some ⟨wr.heap.size+1,0,none⟩)],.slice (some ⟨g2,64 * x,none⟩) 64 64,undef,undef,undef,undef],defers:=[]}∧SumI w g2 bs pre.length W∧∀j,O j↔j=w.heap.size) ?hM ?assign ?body ?done
   case hO0=>
    intro j hj;subst hj;have h1:=ZC.out;have h2:=BX.out.size;have h3:=L1.out;have h4:=HZ.out;exact ⟨by omega,fun h=>by omega⟩
   case hI=>
    rintro s' O A B C ⟨h1,h2⟩ hc hC;have q1:=ZC.out;have q2:=BX.out.size;have q3:=L1.out;have q4:=HZ.out;exact ⟨h1.chg (z:=Wc.heap.size) hc (fun j hj=>(hC j hj).1) (by omega) (by omega),h2⟩
   case h0=>
    have q1:=ZC.out;have q2:=BX.out.size;have q3:=L1.out;have q4:=HZ.out;have hb:Below b0 W1 Wc:=BX.out.trans (BC.out.mono (by omega));exact ⟨⟨(hb.block _ (by omega)).trans HB0.out,ROW.out.later BC.out,B0.out.trans (hb.mono (by omega))⟩,fun j=>Iff.rfl⟩
   case hM=>
    rintro s' x a' O A B C ⟨h0,h1,h2⟩ hc hC;have q1:=ZC.out;have q2:=BX.out.size;have q3:=L1.out;have q4:=HZ.out;exact ⟨h0,h1.chg (z:=Wc.heap.size) hc (fun j hj=>(hC j hj).1) (by omega) (by omega),h2⟩
   case assign=>
    intro l' pre x rest O W K hx hi hK;dsimp only [encC];gi_wp2
    exact hK _ O W ⟨rfl,hi⟩ (Chg.refl _ _) (fun k h=>.inl h)
   case body=>
    rintro l' pre x rest a' O W hx ⟨rfl,hi,ho⟩;have hxk:x=pre.length:=by
     have h1:(List.range mm)[pre.length]?=some x:=by rw [hx];simp
     have h2:=(List.getElem?_eq_some_iff.1 h1);obtain ⟨h3,h4⟩:=h2;rw [List.getElem_range] at h4;exact h4.symm
    have hxm:x<mm:=by
     have h1:(List.range mm).length=pre.length+(rest.length+1):=by rw [hx];simp
     rw [List.length_range] at h1;omega
    have IN:=Hd hi;have hcl:((bs.drop (64 * x)).take 64).length=64:=by rw [List.length_take,List.length_drop,HL2.out];omega
    have ADD:=Hd (add_any w.heap.size (chunksW h0W x bs) (some ⟨g2,64 * x,none⟩) 64 ((bs.drop (64 * x)).take 64) W (chunksW_len _ _ _ rfl) (by rw [hxk];exact hi.h) (HG.out.later hi.low) hcl
     (fun n' hn'=>by
      have h1:n'∈bs:=List.mem_of_mem_drop (List.mem_of_mem_take hn');rw [←HBS.out] at h1;rcases List.mem_append.1 h1 with h2 | h2
      ·exact bytesN_lt s n' h2
      exact pad_lt s.size n' h2) (hi.row.cut x))
    have HO:=Hd ho;have HXK:=Hd hxk;clear hi ho hcl hx hxk hxm;gi_wp2
    refine wide_callR ADD.out ?_;rintro e W' ⟨rfl,h1,h2⟩;have NX:=Hd (show SumI w g2 bs (pre ++ [x]).length W' from by
     have q1:=LT2.out;have q4:=HZ.out;refine ⟨?_,IN.out.row.chgB h2 (by omega),IN.out.low.trans (h2.below IN.out.low.size (fun j hj=>by omega))⟩;rw [List.length_append,List.length_singleton,chunksW_snoc,←HXK.out];exact h1)
    have CH:=Hd (show Chg O W W' from h2.mono (fun j _ hj=>(HO.out j).2 hj));clear h1 h2;gi_wp2
    exact ⟨O,⟨NX.out,HO.out⟩,CH.out,fun j hj=>.inl hj⟩
   case done=>
    rintro D O W hD hnD ⟨hi,ho⟩ hK;rw [List.length_range] at hi;have HI:=Hd hi;have SH:=Hd (show (chunksW h0W mm bs).flatMap wordBytes=shaW (bytesN s) from by
     unfold shaW;simp only [bytesN_len,HBS.out,HL2.out];rw [Nat.mul_div_cancel_left _ (by decide)])
    have HI8:=Hd (show (Tryz.prog.info? 172).map (·.size)=some (rowW 8 (chunksW h0W mm bs)).size from by rw [rowW_size (by rw [chunksW_len _ _ _ rfl];exact Nat.le_refl _)];kernel_rfl);have DG:=Hd (digest_any (chunksW h0W mm bs) W (chunksW_len _ _ _ rfl));rw [SH.out] at DG;clear hi;gi_wp2_with (first
     | (refine wpListIn_load_row rfl 172 (.tmp 3) rfl w.heap.size rfl 172 (rowW 8 (chunksW h0W mm bs)) (0,0) _ HI.out.h Tryz.underlying172 rfl HI8.out ?_)
     | gi_in)
    refine wide_call DG.out ?_;rintro e W' ⟨rfl,h2⟩;have LOW:=Hd (HI.out.low.trans (h2.mono HI.out.low.size));have HKK:=Hd ((h2.block D (gE hK).1).trans hK);clear h2 hK;gi_wp2
    refine ⟨by simp,.inl ⟨_,_,rfl,run_takeDeferred HKK.out,?_⟩⟩;refine ⟨_,results_tmp rfl _ _ _,rfl,?_⟩;exact LOW.out.trans ((Chg.put W' D (.deferred none) (C:=fun k=>k=D) rfl).below LOW.out.size (fun k hk=>by have:=ZC.out;have:=BX.out.size;have:=L1.out;have:=HZ.out;omega))
end
end Go.Proofs.YtifcdjmcoibblaaGreatDoor
