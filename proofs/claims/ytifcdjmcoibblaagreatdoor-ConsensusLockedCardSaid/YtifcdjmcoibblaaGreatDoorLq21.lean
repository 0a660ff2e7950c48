/- BAdd Mov -/
import Derived.Test.YtifcdjmcoibblaaGreatDoorLq20
import Derived.Test.YtifcdjmcoibblaaGreatDoorLq01
import Derived.Test.YtifcdjmcoibblaaGreatDoorLq19
set_option linter.unusedVariables false
set_option linter.unusedSimpArgs false
set_option linter.unusedSectionVars false
set_option maxRecDepth 100000
set_option maxHeartbeats 80000000
namespace Go.Proofs.YtifcdjmcoibblaaGreatDoor
section
open Go.RowKit
theorem BoxAt.put {w:World} {bx vb:Nat} {n:Int} {votes:List (Bal×ByteArray)} (h:BoxAt w bx vb n votes) (k:Bal) (d:ByteArray) :
  ∃o,(Instr.mapUpdate 219 (.map (some vb)) (balv k) (.string d)).run Tryz.prog w = .ok () (w.putObj vb o)∧∀W:World,W.heap[vb]?=some o→RawMap W vb ((putA k d votes).map encVt):=by
 obtain ⟨o,h1,h2⟩:=h.map.update (P:=Tryz.prog) keyBal Tryz.underlying219 (good_vt w _) (x:=balv k) ⟨_,_,_,_,rfl⟩ (.string d);refine ⟨o,h1,fun W hW=>?_⟩;have:=h2 W hW;rwa [putV_enc (ek:=balv) (ev:=fun _=>Value.string) encVt_eq balv_inj] at this
def addP (w:World) (vb:Nat) (votes:List (Bal×ByteArray)) (k:Bal) (d:ByteArray) (e:Ending) (w':World):Prop:=
 e = .returned (.bool (getA k votes).isNone)∧RawMap w' vb ((if (getA k votes).isNone=true then putA k d votes else votes).map encVt)∧Chg (fun b=>b=vb) w w'
theorem badd_any {R:Nat→Prop} {w:World} {bx vb:Nat} {n:Int} {votes:List (Bal×ByteArray)} {v:Value} {m:MsgB} (h:BoxAt w bx vb n votes) (hm:MsgV R w v m) (hlt:∀k,R k→k<w.heap.size) (hl:m.list.length≤60) (hv:voteB m.kind=true) (hok:validB m=true) (hn:m.frm<n) :
  Calls Tryz.prog 132 #[pv bx,v] w (addP w vb votes (m.frm,m.kind,m.height,m.round) m.dig):=by
 have HMV:=Hd hm;obtain ⟨sl,rfl,ao,cap,rfl,hcap,hrow⟩:=hm;obtain ⟨mb,hmb⟩:∃mb,mb=w.heap.size:=⟨_,rfl⟩;have HMB:=Hd hmb;have HB0:=Hd ((Below.refl _ w).alloc (Nat.le_refl _) (.cells (encM m (.slice ao m.list.length cap)) 36));have HR0:=Hd (World.alloc_heap_new w (.cells (encM m (.slice ao m.list.length cap)) 36));have HBX:=Hd (h.below HB0.out);have HX:=Hd h;have HVB:=Hd (show vb<w.heap.size from h.map.lt);have HBL:=Hd (show bx<w.heap.size from (gE h.cell).1);have VA:=Hd (show ∀W,Below w.heap.size w W→Calls Tryz.prog 19 #[.agg (encM m (.slice ao m.list.length cap))] W fun e w'=>e = .returned (.bool true)∧Below W.heap.size W w' from fun W hW=>by
  have:=valid_any (w:=W) (R:=R) (v:=.agg (encM m (.slice ao m.list.length cap))) (m:=m) ⟨_,rfl,LRow.below ⟨ao,cap,rfl,hcap,hrow⟩ hlt hW⟩ (fun k hk=>Nat.lt_of_lt_of_le (hlt k hk) hW.size) hl (fun h3=>by rw [h3] at hv;exact absurd hv (by decide));rw [hok] at this;exact this)
 have VO:=Hd (show ∀W,Calls Tryz.prog 73 #[.int .i64 m.kind] W fun e w'=>e = .returned (.bool true)∧w'=W from fun W=>by have:=isVote_any m.kind W;rw [hv] at this;exact this);have n1:decide (n≤m.frm)=false:=by simpa using hn
 have n2:¬n≤m.frm:=by omega
 clear hrow hcap hmb hlt hok hv hn h;unfold encM iv pv at *;go_enter Tryz.func132,Tryz.ntmps132
 go_upto_region 1 with (fail)
 obtain ⟨wa,hwa⟩:∃wa,wa=w.alloc (.cells #[.int .i64 m.kind,.int .i64 m.frm,.int .i64 m.to,.int .i64 m.height,.int .i64 m.round,.int .i64 m.valid,.string m.dig,.slice ao m.list.length cap] 36):=⟨_,rfl⟩;rw [←HMB.out] at HR0 ⊢;rw [←hwa] at HB0 HR0 HBX ⊢;clear hwa;have hmbl:mb<wa.heap.size:=(gE HR0.out).1;have hbxl:bx<wa.heap.size:=(gE HBX.out.cell).1;obtain ⟨c0,c1,c2,c3,c4,c5,c6,c7,fz⟩:=MRow.of HR0.out;have b0:=cell_of_row wa bx 0 _ _ _ HBX.out.cell;simp [iv] at b0;have KEEP:=Hd (show ∀W,Below wa.heap.size wa W→W.cell? ⟨mb,0,none⟩=some (.int .i64 m.kind)∧W.cell? ⟨mb,1,none⟩=some (.int .i64 m.frm)∧W.cell? ⟨mb,2,none⟩=some (.int .i64 m.to)∧W.cell? ⟨mb,3,none⟩=some (.int .i64 m.height)∧W.cell? ⟨mb,4,none⟩=some (.int .i64 m.round)∧W.cell? ⟨mb,5,none⟩=some (.int .i64 m.valid)∧W.cell? ⟨mb,6,none⟩=some (.string m.dig)∧W.cell? ⟨mb,7,none⟩=some (.slice ao m.list.length cap)∧W.cell? ⟨bx,0,none⟩=some (.int .i64 n)∧Below wa.heap.size wa W from fun W h=>⟨by rw [h.cell (p:=⟨mb,0,none⟩) hmbl];exact c0,by rw [h.cell (p:=⟨mb,1,none⟩) hmbl];exact c1,by rw [h.cell (p:=⟨mb,2,none⟩) hmbl];exact c2,by rw [h.cell (p:=⟨mb,3,none⟩) hmbl];exact c3,by rw [h.cell (p:=⟨mb,4,none⟩) hmbl];exact c4,by rw [h.cell (p:=⟨mb,5,none⟩) hmbl];exact c5,by rw [h.cell (p:=⟨mb,6,none⟩) hmbl];exact c6,by rw [h.cell (p:=⟨mb,7,none⟩) hmbl];exact c7,by rw [h.cell (p:=⟨bx,0,none⟩) hbxl];exact b0,h⟩);clear hmbl hbxl;go_region_held3 (fun W=>W.cell? ⟨mb,0,none⟩=some (.int .i64 m.kind)∧W.cell? ⟨mb,1,none⟩=some (.int .i64 m.frm)∧W.cell? ⟨mb,2,none⟩=some (.int .i64 m.to)∧W.cell? ⟨mb,3,none⟩=some (.int .i64 m.height)∧W.cell? ⟨mb,4,none⟩=some (.int .i64 m.round)∧W.cell? ⟨mb,5,none⟩=some (.int .i64 m.valid)∧W.cell? ⟨mb,6,none⟩=some (.string m.dig)∧W.cell? ⟨mb,7,none⟩=some (.slice ao m.list.length cap)∧W.cell? ⟨bx,0,none⟩=some (.int .i64 n)∧Below wa.heap.size wa W)
  (first | (exact KEEP.out _ E1) | (exact KEEP.out _ ((Below.refl _ wa).drew)) | (go_split_ands;exact ⟨by assumption,by assumption,by assumption,by assumption,by assumption,by assumption,by assumption,by assumption,by assumption,by assumption⟩))
  (first
   | (go_at_call 73;refine (VO.out _).mono ?_;rintro _ _ ⟨rfl,rfl⟩)
   | (go_at_call 19;go_split_ands;rename_i E0;refine (VA.out _ ?_).mono ?_;(exact HB0.out.trans (E0.mono HB0.out.size));rintro e w2 ⟨rfl,hb⟩;have E1:=E0.trans (hb.mono E0.size);clear hb))
 have HW2:=Hd (HB0.out.trans (E1.mono HB0.out.size));have HR2:=Hd ((E1.block mb (gE HR0.out).1).trans HR0.out);have HX2:=Hd (HX.out.below HW2.out);have HE1:=Hd E1;clear E1 E0 c0 c1 c2 c3 c4 c5 c6 c7 fz b0;obtain ⟨c0,c1,c2,c3,c4,c5,c6,c7,fz⟩:=MRow.of HR2.out;go_upto_region 4 with (fail)
 obtain ⟨kb,hkb⟩:∃kb,kb=w2.heap.size:=⟨_,rfl⟩;obtain ⟨w3,hw3⟩:∃w3,w3=w2.alloc (.cells #[.int .i64 m.frm,.int .i64 m.kind,.int .i64 m.height,.int .i64 m.round] 238):=⟨_,rfl⟩;have HB3:=Hd (show Below w2.heap.size w2 w3 from by rw [hw3];exact (Below.refl _ w2).alloc (Nat.le_refl _) _);have HK3:=Hd (show w3.heap[kb]?=some (.cells #[.int .i64 m.frm,.int .i64 m.kind,.int .i64 m.height,.int .i64 m.round] 238 (0,0)) from by rw [hw3,hkb];exact World.alloc_heap_new w2 _);have HX3:=Hd (HX2.out.below HB3.out);have HR3:=Hd ((HB3.out.block mb (gE HR2.out).1).trans HR2.out);rw [←hkb,←hw3];have HKB:=Hd hkb;clear hkb hw3 c0 c1 c2 c3 c4 c5 c6 c7 fz;have k0:=cell_of_row w3 kb 0 _ _ _ HK3.out;have k1:=cell_of_row w3 kb 1 _ _ _ HK3.out;have k2:=cell_of_row w3 kb 2 _ _ _ HK3.out;have k3:=cell_of_row w3 kb 3 _ _ _ HK3.out;have b1:=cell_of_row w3 bx 1 _ _ _ HX3.out.cell;simp [mv] at k0 k1 k2 k3 b1;have c6:=(MRow.of HR3.out).c6;have hlk:=(HX3.out.below ((Below.refl _ w3).drew)).look m.frm m.kind m.height m.round;obtain ⟨ob,hup,hob⟩:=(HX3.out.below ((Below.refl _ w3).drew.drew)).put (m.frm,m.kind,m.height,m.round) m.dig;have HOB:=Hd hob;clear hob;unfold balv iv at hup;simp only at hup;have HBW:=Hd (HW2.out.trans (HB3.out.mono HW2.out.size));rcases hg:getA (m.frm,m.kind,m.height,m.round) votes with _ | d0
 ·have HG:=Hd hg;rw [hg] at hlk;simp at hlk;clear hg;go_region
  go_upto_region 7 with (fail)
  go_region
  go_wp2
  go_ret;unfold addP;rw [HG.out];have hvb:vb<w3.heap.size:=HX3.out.map.lt;refine ⟨rfl,HOB.out _ (World.putObj_heap_same hvb),?_⟩;have h1:=below_drewN HBW.out 2;exact (Chg.of_below (C:=fun b=>b=vb) HBW.out.drew.drew (fun k h1 h2=>by omega)).trans (Chg.put _ vb ob (.inl rfl))
 have HG:=Hd hg;rw [hg] at hlk;simp at hlk;clear hg;go_region
 go_wp2
 go_ret;unfold addP;rw [HG.out];refine ⟨rfl,?_,?_⟩
 ·have:=(HX.out.below (HBW.out.drew)).map;exact this
 exact Chg.of_below (HBW.out.drew) (fun k h1 h2=>by omega)
end
section
open Go.RowKit
theorem newBox_any (n:Int) (w:World) (h1:1≤n) (h7:n≤7):Calls Tryz.prog 109 #[.int .i64 n] w fun e w'=>∃bx vb,e = .returned (pv bx)∧BoxAt w' bx vb n []∧New w w' bx∧New w w' vb∧Below w.heap.size w w':=by
 have hmm:=@run_makeMap Tryz.prog;have Q:=Hd (quorum_any n w h1 h7);have hq:(quorumN n == 0)=false:=by rw [beq_eq_false_iff_ne];unfold quorumN faultsN;omega
 clear h1 h7;go_enter Tryz.func109,Tryz.ntmps109
 go_wp2_with fail
 refine Q.out.mono ?_;rintro _ w1 ⟨rfl,hw⟩;rw [hw];clear hw;go_wp2
 go_ret;refine ⟨w.heap.size+1,w.heap.size,by simp [pv],⟨?_,(RawMap.made w).kept ?_⟩,⟨by omega,by simp⟩,⟨by omega,by simp;omega⟩,by repeat (first | exact Below.refl _ _ | refine below_drewN ?_ _ | refine Below.alloc ?_ (by simp) _ | refine Below.drew ?_)⟩
 ·have:=World.alloc_heap_new (w.alloc (.map #[] 0)) (.cells #[iv n,mv w.heap.size] 221);simpa [iv,mv] using this
 exact Below.heap_alloc _ _ _ (by simp)
structure PreN (R:Nat→Prop) (w:World) (x:Nat) (id n:Int) (d q i:Nat) (decs:List (Int×ValB)) (ques:List (Int×(Int×Int))) (inf:List (Int×Int)) (st:List Value):Prop where
 len:st.length=16
 row:w.heap[x]?=some (.cells (st ++ [iv id,iv n,mv d,mv q,mv i]).toArray 117 (0,0))
 mem:R x
 decs:∃L,RawMap w d L∧All2 (RVal R w) L decs
 ques:RawMap w q (ques.map encSt)
 inf:RawMap w i (inf.map encPl)
 nd:[d,q,i].Nodup
 own:∀b∈[d,q,i],R b
 lt:∀k,R k→k<w.heap.size
theorem NodeP.pre {R:Nat→Prop} {w:World} {x:Nat} {p:Ptr} {s:StB} (h:NodeP R w x p s):∃st,PreN R w x s.id s.n p.decs p.ques p.inf s.decs s.ques s.inf st:=by
 refine ⟨[iv s.height,iv s.round,iv s.step,iv s.clock,iv s.ticks,po p.lock,po p.valid,po p.own,mv p.acc,mv p.props,mv p.claims,p.order,pv p.box,mv p.stand,p.mine,mv p.made],rfl,h.node,h.mem,h.maps.decs,h.maps.ques,h.maps.inf,?_,fun b hb=>h.maps.own b ?_,h.lt⟩
 ·have:=h.maps.nd;simp only [Ptr.maps,List.nodup_cons,List.mem_cons,List.not_mem_nil,or_false,not_or] at this ⊢;simp_all
 simp [Ptr.maps] at hb ⊢;rcases hb with rfl | rfl | rfl <;> simp
theorem run_storeVar_head {P:Program} (w:World) (g:Nat) (t ty:TypeId) (old cells:Array Value) (hg:w.heap[g]?=some (.cells old t (0,0))) (hi:(P.info? ty).map (·.size)=some cells.size)
  (ho:cells.size≤old.size) (h1:cells.all (·.oneCell')=true) :
  (storeVar ty ⟨g,0,none⟩ (.agg cells)).run P w = .ok () (w.setRow g (cells.toList ++ old.toList.drop cells.size).toArray):=by
 have:=run_storeCells_at (P:=P) g 0 t cells.toList 0 old w hg (by simp;omega) (fun v hv=>(Array.all_eq_true_iff_forall_mem.1 h1) v (by simpa using hv));simp only [Nat.add_zero,Nat.zero_add,List.take_zero,List.nil_append,Array.length_toList] at this;cases hq:P.info? ty with
 | none=>simp [hq] at hi
 | some i=>
  have hs:cells.size=i.size:=by simp [hq] at hi;omega
  simp [storeVar,sizeOf,typeInfo,hq,Value.cells,←hs,this]
theorem wpList_store_head {P:Program} {ops:Array Oper} {rest:List Oper} {o:Oper} {a:Act} {w:World} {Q:Exit→Act→World→Prop} (hgd:o.guard=none) (ty:TypeId) (x y:Operand) (ho:o.op = .store ty x y)
  (g:Nat) (cells:Array Value) (hx:a.eval x = .pointer (some ⟨g,0,none⟩)) (hy:a.eval y = .agg cells)
  (t:TypeId) (old:Array Value) (hg:w.heap[g]?=some (.cells old t (0,0))) (hi:(P.info? ty).map (·.size)=some cells.size)
  (hold:cells.size≤old.size) (h1:cells.all (·.oneCell')=true)
  (h:wpList P ops Q rest (a.put o.dst undef) (w.setRow g (cells.toList ++ old.toList.drop cells.size).toArray)):wpList P ops Q (o :: rest) a w:=by
 refine wpList_plain hgd fun K' hK'=>?_;unfold Oper.wp execOp;simp only [ho,hx,hy,Instr.storeAt,Instr.sureAddr,Sem.run_bind,Sem.run_pure,Result.andThen_ok,run_storeVar_head w g t ty old cells hg hi hold h1];exact hK' _ _ h
theorem alloc_sz (w:World) (o:Obj):(w.alloc o).heap.size=w.heap.size+1:=by simp
theorem moved_node {R:Nat→Prop} {w w1:World} {x:Nat} {id n:Int} {d q i bx vb:Nat} {decs:List (Int×ValB)} {ques:List (Int×(Int×Int))} {inf:List (Int×Int)} {st:List Value} (h:PreN R w x id n d q i decs ques inf st) (height round:Int) (s:StB) (hs:s.id=id∧s.n=n∧s.decs=decs∧s.ques=ques∧s.inf=inf)
  (hbox:BoxAt w1 bx vb n []) (hb1:New (((w.alloc (Obj.map #[] 0)).alloc (Obj.map #[] 0)).alloc (Obj.map #[] 0)) w1 bx) (hv1:New (((w.alloc (Obj.map #[] 0)).alloc (Obj.map #[] 0)).alloc (Obj.map #[] 0)) w1 vb)
  (hb:Below (((w.alloc (Obj.map #[] 0)).alloc (Obj.map #[] 0)).alloc (Obj.map #[] 0)).heap.size (((w.alloc (Obj.map #[] 0)).alloc (Obj.map #[] 0)).alloc (Obj.map #[] 0)) w1) {row:Array Value}
  (hrow:row=(Value.int IntKind.i64 height :: Value.int IntKind.i64 round :: Value.int IntKind.i64 1 :: Value.int IntKind.i64 0 :: Value.int IntKind.i64 0 :: Value.pointer none :: Value.pointer none :: Value.pointer none :: Value.map (some w.heap.size) :: Value.map (some (w.heap.size+1)) :: Value.map (some (w.heap.size+1+1)) :: Value.slice none 0 0 :: Value.pointer (some {block:=bx,off:=0}) :: Value.map (some w1.heap.size) :: Value.slice none 0 0 :: Value.map (some (w1.heap.size+1)) :: List.drop 16 (st ++ [iv id,iv n,mv d,mv q,mv i])).toArray) :
  Turned R w x (s.moved height round) (((w1.alloc (Obj.map #[] 0)).alloc (Obj.map #[] 0)).setRow x row):=by
 obtain ⟨wf,hwf⟩:∃wf,wf=((w1.alloc (Obj.map #[] 0)).alloc (Obj.map #[] 0)).setRow x row:=⟨_,rfl⟩;rw [←hwf];have hxl:x<w.heap.size:=(gE h.row).1;have hs3:(((w.alloc (Obj.map #[] 0)).alloc (Obj.map #[] 0)).alloc (Obj.map #[] 0)).heap.size=w.heap.size+3:=by simp
 have hs1:w.heap.size+3≤w1.heap.size:=by rw [←hs3];exact hb.size
 have hsf:wf.heap.size=w1.heap.size+2:=by rw [hwf,setRow_size];simp
 have hBz:=((Below.refl w1.heap.size w1).alloc (Nat.le_refl _) (Obj.map #[] 0)).alloc (by simp) (Obj.map #[] 0);have hW3:=(((Below.refl w.heap.size w).alloc (Nat.le_refl _) (Obj.map #[] 0)).alloc (by simp) (Obj.map #[] 0)).alloc (by simp <;> omega) (Obj.map #[] 0);have k1:∀k,k≠x→k<w1.heap.size→wf.heap[k]?=w1.heap[k]?:=fun k h1 h2=>by rw [hwf,setRow_other _ _ _ _ h1];exact hBz.block k h2
 have k3:∀k,k<w.heap.size+3→w1.heap[k]?=(((w.alloc (Obj.map #[] 0)).alloc (Obj.map #[] 0)).alloc (Obj.map #[] 0)).heap[k]?:=fun k h1=>hb.block k (by rw [hs3];exact h1);have k0:∀k,k≠x→k<w.heap.size→wf.heap[k]?=w.heap[k]?:=fun k h1 h2=>(k1 k h1 (by omega)).trans ((k3 k (by omega)).trans (hW3.block k h2));have m0:RawMap wf w.heap.size []:=(RawMap.made w).kept ((k1 _ (by omega) (by omega)).trans ((k3 _ (by omega)).trans (by rw [Below.heap_alloc _ _ _ (by simp only [alloc_sz];omega),Below.heap_alloc _ _ _ (by simp only [alloc_sz];omega)])));have m1:RawMap wf (w.heap.size+1) []:=by
  have:=RawMap.made (w.alloc (Obj.map #[] 0));simp only [alloc_sz] at this;exact this.kept ((k1 _ (by omega) (by omega)).trans ((k3 _ (by omega)).trans (Below.heap_alloc _ _ _ (by simp))))
 have m2:RawMap wf (w.heap.size+1+1) []:=by
  have:=RawMap.made ((w.alloc (Obj.map #[] 0)).alloc (Obj.map #[] 0));simp only [alloc_sz] at this;exact this.kept ((k1 _ (by omega) (by omega)).trans (k3 _ (by omega)))
 have m3:RawMap wf w1.heap.size []:=(RawMap.made w1).kept (by rw [hwf,setRow_other _ _ _ _ (by omega)];exact Below.heap_alloc _ _ _ (by simp));have m4:RawMap wf (w1.heap.size+1) []:=by
  have:=RawMap.made (w1.alloc (Obj.map #[] 0));simp only [alloc_sz] at this;exact this.kept (by rw [hwf,setRow_other _ _ _ _ (by omega)])
 obtain ⟨e1,e2,e3,e4,e5⟩:=hs;obtain ⟨hb1,hb2⟩:=hb1;obtain ⟨hv1,hv2⟩:=hv1;rw [hs3] at hb1 hv1;have hstr:∀(g:Nat) cur fr,w.heap[g]?=some (Obj.cells cur 9 fr)→wf.heap[g]?=w.heap[g]?:=fun g cur fr hg=>k0 g (fun e=>by
  subst e;rw [h.row] at hg;injection hg with hg;injection hg with _ hg _;exact absurd hg (by decide)) (gE hg).1
 have hne:∀{b:Nat} {L:List (Value×Value)},RawMap w b L→b≠x:=fun {b L} hm e=>by
  obtain ⟨es,c,q1,_⟩:=hm;subst e;rw [h.row] at q1;cases q1
 obtain ⟨Ld,d1,d2⟩:=h.decs;have ld:=d1.lt;have lq:=h.ques.lt;have li:=h.inf.lt;have nd:=h.nd;simp only [List.nodup_cons,List.mem_cons,List.not_mem_nil,or_false,not_or,List.nodup_nil] at nd;refine ⟨⟨w.heap.size,w.heap.size+1,w.heap.size+1+1,vb,w1.heap.size,w1.heap.size+1,d,q,i,bx,none,none,none,.slice none 0 0,.slice none 0 0⟩,fun k=>R k∨(w.heap.size≤k∧k<wf.heap.size),⟨?_,.inl h.mem,⟨m0,⟨[],m1,.nil⟩,⟨[],m2,.nil⟩,?_,m3,m4,?_,?_,?_,?_,?_⟩,⟨⟨.inr ⟨(by show _≤bx;omega),(by show bx<_;omega)⟩,?_⟩,trivial,trivial,trivial,⟨⟨rfl,.inl ⟨rfl,rfl⟩⟩,fun g hg=>by cases hg⟩,⟨[],.nil,rfl,.inl ⟨rfl,rfl⟩⟩,fun g hg=>by cases hg⟩,?_⟩,?_,⟨fun k hk=>.inl hk,fun k hk=>?_⟩⟩
 ·rw [hwf];have hz:((w1.alloc (Obj.map #[] 0)).alloc (Obj.map #[] 0)).heap[x]?=some (.cells (st ++ [iv id,iv n,mv d,mv q,mv i]).toArray 117 (0,0)):=by
   rw [hBz.block x (by omega),k3 x (by omega),hW3.block x hxl];exact h.row
  rw [setRow_heap _ _ _ _ _ _ hz,hrow];have hdrop:List.drop 16 (st ++ [iv id,iv n,mv d,mv q,mv i]) = [iv id,iv n,mv d,mv q,mv i]:=by
   rw [←h.len,List.drop_left]
  rw [hdrop,←e1,←e2];rfl
 ·exact hbox.map.kept (k1 vb (by omega) hv2)
 ·exact ⟨Ld,d1.kept (k0 d (hne d1) ld),by rw [show (s.moved height round).decs=decs from e3];exact d2.mono (fun a b q=>⟨q.1,(q.2.kept (fun g cur fr _ hg=>hstr g cur fr hg)).mono (fun k hk=>.inl hk)⟩)⟩
 ·rw [show (s.moved height round).ques=ques from e4];exact h.ques.kept (k0 q (hne h.ques) lq)
 ·rw [show (s.moved height round).inf=inf from e5];exact h.inf.kept (k0 i (hne h.inf) li)
 ·simp only [Ptr.maps,List.nodup_cons,List.mem_cons,List.not_mem_nil,or_false,not_or,List.nodup_nil];repeat' (first | omega | refine And.intro ?_ ?_ | trivial)
 ·intro b hb;simp only [Ptr.maps,List.mem_cons,List.not_mem_nil,or_false] at hb;rcases hb with rfl | rfl | rfl | rfl | rfl | rfl | rfl | rfl | rfl
  ·exact .inr ⟨by omega,by omega⟩
  ·exact .inr ⟨by omega,by omega⟩
  ·exact .inr ⟨by omega,by omega⟩
  ·exact .inr ⟨by omega,by omega⟩
  ·exact .inr ⟨by omega,by omega⟩
  ·exact .inr ⟨by omega,by omega⟩
  ·exact .inl (h.own _ (by simp))
  ·exact .inl (h.own _ (by simp))
  exact .inl (h.own _ (by simp))
 ·rw [k1 bx (by omega) hb2,show (s.moved height round).n=n from e2];exact hbox.cell
 ·rintro k (hk | hk)
  ·have:=h.lt k hk;omega
  exact hk.2
 ·exact ⟨by rw [hwf];exact hb.os,by rw [hwf];exact hb.tape,by rw [hwf];exact hb.output,by omega,fun k h1 h2=>k0 k (fun e=>h2 (e ▸ h.mem)) h1⟩
 rcases hk with hk | hk
 ·exact .inl hk
 exact .inr hk.1
theorem move_any {R:Nat→Prop} {w:World} {x:Nat} {id n:Int} {d q i:Nat} {decs:List (Int×ValB)} {ques:List (Int×(Int×Int))} {inf:List (Int×Int)} {st:List Value} (h:PreN R w x id n d q i decs ques inf st) (h1:1≤n) (h7:n≤7) (height round:Int) (s:StB) (hs:s.id=id∧s.n=n∧s.decs=decs∧s.ques=ques∧s.inf=inf) :
  Calls Tryz.prog 61 #[pv x,iv height,iv round] w fun e w'=>e = .returned (.tuple #[])∧Turned R w x (s.moved height round) w':=by
 have hmm:=@run_makeMap Tryz.prog;have c17:w.cell? ⟨x,17,none⟩=some (.int .i64 n):=by
  rw [cell_of_row w x 17 _ _ _ h.row,List.getElem?_toArray,List.getElem?_append_right (by rw [h.len];omega),h.len];rfl
 have hfz:∀o,w.frozen? ⟨x,o,none⟩=false:=fun o=>frozen_of_row w x o _ _ h.row;have NB:=Hd (fun W=>newBox_any n W h1 h7);have H:=Hd h;have hxl:x<w.heap.size:=(gE h.row).1;clear h;unfold pv iv;have c17a:=cell_up (cell_up (cell_up c17 (Obj.map #[] 0)) (Obj.map #[] 0)) (Obj.map #[] 0);go_enter Tryz.func61,Tryz.ntmps61
 go_wp2_with fail
 refine (NB.out _).mono ?_;rintro e w1 ⟨bx,vb,rfl,hbox,hb1,hv1,hb⟩;have HB:=Hd hb;have HW1:=Hd (show Below w.heap.size w w1 from ((((Below.refl _ w).alloc (Nat.le_refl _) _).alloc (by simp) _).alloc (by simp <;> omega) _).trans (hb.mono (by simp <;> omega)));have HROW:=Hd (show ((w1.alloc (Obj.map #[] 0)).alloc (Obj.map #[] 0)).heap[x]?=some (.cells (st ++ [iv id,iv n,mv d,mv q,mv i]).toArray 117 (0,0)) from by
  rw [((((Below.refl _ w1).alloc (Nat.le_refl _) (Obj.map #[] 0)).alloc (by simp) (Obj.map #[] 0)).block x (Nat.lt_of_lt_of_le hxl HW1.out.size)),HW1.out.block x hxl];exact H.out.row)
 have HLE:=Hd (show (16:Nat)≤(st ++ [iv id,iv n,mv d,mv q,mv i]).toArray.size from by simp [H.out.len]);have HBX:=Hd hbox;unfold pv;clear hb hbox;go_wp2_with (refine wpList_store_head rfl 115 (.tmp 21) (.tmp 19) (by rfl) x #[.int .i64 height,.int .i64 round,.int .i64 1,.int .i64 0,.int .i64 0,.pointer none,.pointer none,.pointer none,.map (some w.heap.size),.map (some (w.heap.size+1)),.map (some (w.heap.size+1+1)),.slice none 0 0,.pointer (some ⟨bx,0,none⟩),.map (some w1.heap.size),.slice none 0 0,.map (some (w1.heap.size+1))] ?_ ?_ 117 _ HROW.out ?_ ?_ ?_ ?_;go_loud (simp [Act.eval]);go_loud (simp [Act.eval]);go_loud (kernel_rfl);go_loud (exact HLE.out);go_loud (simp [Value.oneCell']))
 exact bodyPost_end (results_none rfl _ _ _) rfl ⟨rfl,moved_node H.out height round s hs HBX.out hb1 hv1 HB.out rfl⟩
end
end Go.Proofs.YtifcdjmcoibblaaGreatDoor
