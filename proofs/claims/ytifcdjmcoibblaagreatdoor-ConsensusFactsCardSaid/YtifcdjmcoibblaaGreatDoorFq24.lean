/- BAdd Mov Put2 Mine Plk -/
import Derived.Test.YtifcdjmcoibblaaGreatDoorFq23
import Derived.Test.YtifcdjmcoibblaaGreatDoorFq01
import Derived.Test.YtifcdjmcoibblaaGreatDoorFq11
set_option linter.unusedVariables false
set_option linter.unusedSimpArgs false
set_option linter.unusedSectionVars false
set_option maxRecDepth 100000
set_option maxHeartbeats 80000000
namespace Go.Proofs.YtifcdjmcoibblaaGreatDoor
section
open Go.RowKit
theorem BoxAt.put {w:World} {bx vb:Nat} {n:Int} {votes:List (Bal×ByteArray)} (h:BoxAt w bx vb n votes) (k:Bal) (d:ByteArray) :
  ∃o,(Instr.mapUpdate 219 (.map (some vb)) (balv k) (.string d)).run Tryz.prog w = .ok () (w.putObj vb o)∧∀W:World,W.heap[vb]?=some o→RawMap W vb ((putA k d votes).map encVt):=by
 obtain ⟨o,h1,h2⟩:=h.map.update (P:=Tryz.prog) keyBal Tryz.underlying219 (good_vt w _) (x:=balv k) ⟨_,_,_,_,rfl⟩ (.string d);refine ⟨o,h1,fun W hW=>?_⟩;have:=h2 W hW;rwa [putV_enc (ek:=balv) (ev:=fun _=>Value.string) encVt_eq balv_inj] at this
def addP (w:World) (vb:Nat) (votes:List (Bal×ByteArray)) (k:Bal) (d:ByteArray) (e:Ending) (w':World):Prop:=
 e = .returned (.bool (getA k votes).isNone)∧RawMap w' vb ((if (getA k votes).isNone=true then putA k d votes else votes).map encVt)∧Chg (fun b=>b=vb) w w'
theorem badd_any {R:Nat→Prop} {w:World} {bx vb:Nat} {n:Int} {votes:List (Bal×ByteArray)} {v:Value} {m:MsgB} (h:BoxAt w bx vb n votes) (hm:MsgV R w v m) (hlt:∀k,R k→k<w.heap.size) (hl:m.list.length≤60) (hv:voteB m.kind=true) (hok:validB m=true) (hn:m.frm<n) :
  Calls Tryz.prog 132 #[pv bx,v] w (addP w vb votes (m.frm,m.kind,m.height,m.round) m.dig):=by
 have HMV:=Hd hm;obtain ⟨sl,rfl,ao,cap,rfl,hcap,hrow⟩:=hm;obtain ⟨mb,hmb⟩:∃mb,mb=w.heap.size:=⟨_,rfl⟩;have HMB:=Hd hmb;have HB0:=Hd ((Below.refl _ w).alloc (Nat.le_refl _) (.cells (encM m (.slice ao m.list.length cap)) 36));have HR0:=Hd (World.alloc_heap_new w (.cells (encM m (.slice ao m.list.length cap)) 36));have HBX:=Hd (h.below HB0.out);have HX:=Hd h;have HVB:=Hd (show vb<w.heap.size from h.map.lt);have HBL:=Hd (show bx<w.heap.size from (gE h.cell).1);have VA:=Hd (show ∀W,Below w.heap.size w W→Calls Tryz.prog 19 #[.agg (encM m (.slice ao m.list.length cap))] W fun e w'=>e = .returned (.bool true)∧Below W.heap.size W w' from fun W hW=>by
  have:=valid_any (w:=W) (R:=R) (v:=.agg (encM m (.slice ao m.list.length cap))) (m:=m) ⟨_,rfl,LRow.below ⟨ao,cap,rfl,hcap,hrow⟩ hlt hW⟩ (fun k hk=>Nat.lt_of_lt_of_le (hlt k hk) hW.size) hl (fun h3=>by rw [h3] at hv;exact absurd hv (by decide));rw [hok] at this;exact this)
 have VO:=Hd (show ∀W,Calls Tryz.prog 73 #[.int .i64 m.kind] W fun e w'=>e = .returned (.bool true)∧w'=W from fun W=>by have:=isVote_any m.kind W;rw [hv] at this;exact this);have n1:decide (n≤m.frm)=false:=by simpa using hn
 have n2:¬n≤m.frm:=by omega
 clear hrow hcap hmb hlt hok hv hn h;unfold encM iv pv at *;go_enter Tryz.func132,Tryz.ntmps132
 go_upto_region 1 with (fail)
 obtain ⟨wa,hwa⟩:∃wa,wa=w.alloc (.cells #[.int .i64 m.kind,.int .i64 m.frm,.int .i64 m.to,.int .i64 m.height,.int .i64 m.round,.int .i64 m.valid,.string m.dig,.slice ao m.list.length cap] 36):=⟨_,rfl⟩;rw [←HMB.out] at HR0 ⊢;rw [←hwa] at HB0 HR0 HBX ⊢;clear hwa;have hmbl:mb<wa.heap.size:=(gE HR0.out).1;have hbxl:bx<wa.heap.size:=(gE HBX.out.cell).1;obtain ⟨c0,c1,c2,c3,c4,c5,c6,c7,fz⟩:=MRow.of HR0.out;have b0:=cell_of_row wa bx 0 _ _ _ HBX.out.cell;simp [iv] at b0;have KEEP:=Hd (show ∀W,Below wa.heap.size wa W→W.cell? ⟨mb,0,none⟩=some (.int .i64 m.kind)∧W.cell? ⟨mb,1,none⟩=some (.int .i64 m.frm)∧W.cell? ⟨mb,2,none⟩=some (.int .i64 m.to)∧W.cell? ⟨mb,3,none⟩=some (.int .i64 m.height)∧W.cell? ⟨mb,4,none⟩=some (.int .i64 m.round)∧W.cell? ⟨mb,5,none⟩=some (.int .i64 m.valid)∧W.cell? ⟨mb,6,none⟩=some (.string m.dig)∧W.cell? ⟨mb,7,none⟩=some (.slice ao m.list.length cap)∧W.cell? ⟨bx,0,none⟩=some (.int .i64 n)∧Below wa.heap.size wa W from fun W h=>⟨by rw [h.cell (p:=⟨mb,0,none⟩) hmbl];exact c0,by rw [h.cell (p:=⟨mb,1,none⟩) hmbl];exact c1,by rw [h.cell (p:=⟨mb,2,none⟩) hmbl];exact c2,by rw [h.cell (p:=⟨mb,3,none⟩) hmbl];exact c3,by rw [h.cell (p:=⟨mb,4,none⟩) hmbl];exact c4,by rw [h.cell (p:=⟨mb,5,none⟩) hmbl];exact c5,by rw [h.cell (p:=⟨mb,6,none⟩) hmbl];exact c6,by rw [h.cell (p:=⟨mb,7,none⟩) hmbl];exact c7,by rw [h.cell (p:=⟨bx,0,none⟩) hbxl];exact b0,h⟩);clear hmbl hbxl;go_region_held3 (fun W=>W.cell? ⟨mb,0,none⟩=some (.int .i64 m.kind)∧W.cell? ⟨mb,1,none⟩=some (.int .i64 m.frm)∧W.cell? ⟨mb,2,none⟩=some (.int .i64 m.to)∧W.cell? ⟨mb,3,none⟩=some (.int .i64 m.height)∧W.cell? ⟨mb,4,none⟩=some (.int .i64 m.round)∧W.cell? ⟨mb,5,none⟩=some (.int .i64 m.valid)∧W.cell? ⟨mb,6,none⟩=some (.string m.dig)∧W.cell? ⟨mb,7,none⟩=some (.slice ao m.list.length cap)∧W.cell? ⟨bx,0,none⟩=some (.int .i64 n)∧Below wa.heap.size wa W)
  (first | (exact KEEP.out _ E1) | (exact KEEP.out _ ((Below.refl _ wa).drew)) | (go_split_ands;exact ⟨by assumption,by assumption,by assumption,by assumption,by assumption,by assumption,by assumption,by assumption,by assumption,by assumption⟩))
  (first
   | (go_at_call 73;refine (VO.out _).mono ?_;rintro _ _ ⟨rfl,rfl⟩)
   | (go_at_call 19;go_split_ands;rename_i E0;refine (VA.out _ ?_).mono ?_;(exact HB0.out.trans (E0.mono HB0.out.size));rintro e w2 ⟨rfl,hb⟩;have E1:=E0.trans (hb.mono E0.size);clear hb))
 have HW2:=Hd (HB0.out.trans (E1.mono HB0.out.size));have HR2:=Hd ((E1.block mb (gE HR0.out).1).trans HR0.out);have HX2:=Hd (HX.out.below HW2.out);have HE1:=Hd E1;clear E1 E0 c0 c1 c2 c3 c4 c5 c6 c7 fz b0;obtain ⟨c0,c1,c2,c3,c4,c5,c6,c7,fz⟩:=MRow.of HR2.out;go_upto_region 4 with (fail)
 obtain ⟨kb,hkb⟩:∃kb,kb=w2.heap.size:=⟨_,rfl⟩;obtain ⟨w3,hw3⟩:∃w3,w3=w2.alloc (.cells #[.int .i64 m.frm,.int .i64 m.kind,.int .i64 m.height,.int .i64 m.round] 238):=⟨_,rfl⟩;have HB3:=Hd (show Below w2.heap.size w2 w3 from by rw [hw3];exact (Below.refl _ w2).alloc (Nat.le_refl _) _);have HK3:=Hd (show w3.heap[kb]?=some (.cells #[.int .i64 m.frm,.int .i64 m.kind,.int .i64 m.height,.int .i64 m.round] 238 (0,0)) from by rw [hw3,hkb];exact World.alloc_heap_new w2 _);have HX3:=Hd (HX2.out.below HB3.out);have HR3:=Hd ((HB3.out.block mb (gE HR2.out).1).trans HR2.out);rw [←hkb,←hw3];have HKB:=Hd hkb;clear hkb hw3 c0 c1 c2 c3 c4 c5 c6 c7 fz;have k0:=cell_of_row w3 kb 0 _ _ _ HK3.out;have k1:=cell_of_row w3 kb 1 _ _ _ HK3.out;have k2:=cell_of_row w3 kb 2 _ _ _ HK3.out;have k3:=cell_of_row w3 kb 3 _ _ _ HK3.out;have b1:=cell_of_row w3 bx 1 _ _ _ HX3.out.cell;simp [mv] at k0 k1 k2 k3 b1;have c6:=(MRow.of HR3.out).c6;have hlk:=(HX3.out.below ((Below.refl _ w3).drew)).look m.frm m.kind m.height m.round;obtain ⟨ob,hup,hob⟩:=(HX3.out.below ((Below.refl _ w3).drew.drew)).put (m.frm,m.kind,m.height,m.round) m.dig;have HOB:=Hd hob;clear hob;unfold balv iv at hup;simp only at hup;have HBW:=Hd (HW2.out.trans (HB3.out.mono HW2.out.size));rcases hg:getA (m.frm,m.kind,m.height,m.round) votes with _ | d0
 ·have HG:=Hd hg;rw [hg] at hlk;simp at hlk;clear hg;go_region
  go_upto_region 7 with (fail)
  go_region
  go_wp2
  go_ret;unfold addP;rw [HG.out];have hvb:vb<w3.heap.size:=HX3.out.map.lt;refine ⟨rfl,HOB.out _ (World.putObj_heap_same hvb),?_⟩;have h1:=below_drewN HBW.out 2;exact (Chg.of_below (C:=fun b=>b=vb) HBW.out.drew.drew (fun k h1 h2=>by omega)).trans (Chg.put _ vb ob (.inl rfl))
 have HG:=Hd hg;rw [hg] at hlk;simp at hlk;clear hg;go_region
 go_wp2
 go_ret;unfold addP;rw [HG.out];refine ⟨rfl,?_,?_⟩
 ·have:=(HX.out.below (HBW.out.drew)).map;exact this
 exact Chg.of_below (HBW.out.drew) (fun k h1 h2=>by omega)
end
section
open Go.RowKit
theorem newBox_any (n:Int) (w:World) (h1:1≤n) (h7:n≤7):Calls Tryz.prog 109 #[.int .i64 n] w fun e w'=>∃bx vb,e = .returned (pv bx)∧BoxAt w' bx vb n []∧New w w' bx∧New w w' vb∧Below w.heap.size w w':=by
 have hmm:=@run_makeMap Tryz.prog;have Q:=Hd (quorum_any n w h1 h7);have hq:(quorumN n == 0)=false:=by rw [beq_eq_false_iff_ne];unfold quorumN faultsN;omega
 clear h1 h7;go_enter Tryz.func109,Tryz.ntmps109
 go_wp2_with fail
 refine Q.out.mono ?_;rintro _ w1 ⟨rfl,hw⟩;rw [hw];clear hw;go_wp2
 go_ret;refine ⟨w.heap.size+1,w.heap.size,by simp [pv],⟨?_,(RawMap.made w).kept ?_⟩,⟨by omega,by simp⟩,⟨by omega,by simp;omega⟩,by repeat (first | exact Below.refl _ _ | refine below_drewN ?_ _ | refine Below.alloc ?_ (by simp) _ | refine Below.drew ?_)⟩
 ·have:=World.alloc_heap_new (w.alloc (.map #[] 0)) (.cells #[iv n,mv w.heap.size] 221);simpa [iv,mv] using this
 exact Below.heap_alloc _ _ _ (by simp)
structure PreN (R:Nat→Prop) (w:World) (x:Nat) (id n:Int) (d q i:Nat) (decs:List (Int×ValB)) (ques:List (Int×(Int×Int))) (inf:List (Int×Int)) (st:List Value):Prop where
 len:st.length=16
 row:w.heap[x]?=some (.cells (st ++ [iv id,iv n,mv d,mv q,mv i]).toArray 117 (0,0))
 mem:R x
 decs:∃L,RawMap w d L∧All2 (RVal R w) L decs
 ques:RawMap w q (ques.map encSt)
 inf:RawMap w i (inf.map encPl)
 nd:[d,q,i].Nodup
 own:∀b∈[d,q,i],R b
 lt:∀k,R k→k<w.heap.size
theorem NodeP.pre {R:Nat→Prop} {w:World} {x:Nat} {p:Ptr} {s:StB} (h:NodeP R w x p s):∃st,PreN R w x s.id s.n p.decs p.ques p.inf s.decs s.ques s.inf st:=by
 refine ⟨[iv s.height,iv s.round,iv s.step,iv s.clock,iv s.ticks,po p.lock,po p.valid,po p.own,mv p.acc,mv p.props,mv p.claims,p.order,pv p.box,mv p.stand,p.mine,mv p.made],rfl,h.node,h.mem,h.maps.decs,h.maps.ques,h.maps.inf,?_,fun b hb=>h.maps.own b ?_,h.lt⟩
 ·have:=h.maps.nd;simp only [Ptr.maps,List.nodup_cons,List.mem_cons,List.not_mem_nil,or_false,not_or] at this ⊢;simp_all
 simp [Ptr.maps] at hb ⊢;rcases hb with rfl | rfl | rfl <;> simp
theorem run_storeVar_head {P:Program} (w:World) (g:Nat) (t ty:TypeId) (old cells:Array Value) (hg:w.heap[g]?=some (.cells old t (0,0))) (hi:(P.info? ty).map (·.size)=some cells.size)
  (ho:cells.size≤old.size) (h1:cells.all (·.oneCell')=true) :
  (storeVar ty ⟨g,0,none⟩ (.agg cells)).run P w = .ok () (w.setRow g (cells.toList ++ old.toList.drop cells.size).toArray):=by
 have:=run_storeCells_at (P:=P) g 0 t cells.toList 0 old w hg (by simp;omega) (fun v hv=>(Array.all_eq_true_iff_forall_mem.1 h1) v (by simpa using hv));simp only [Nat.add_zero,Nat.zero_add,List.take_zero,List.nil_append,Array.length_toList] at this;cases hq:P.info? ty with
 | none=>simp [hq] at hi
 | some i=>
  have hs:cells.size=i.size:=by simp [hq] at hi;omega
  simp [storeVar,sizeOf,typeInfo,hq,Value.cells,←hs,this]
theorem wpList_store_head {P:Program} {ops:Array Oper} {rest:List Oper} {o:Oper} {a:Act} {w:World} {Q:Exit→Act→World→Prop} (hgd:o.guard=none) (ty:TypeId) (x y:Operand) (ho:o.op = .store ty x y)
  (g:Nat) (cells:Array Value) (hx:a.eval x = .pointer (some ⟨g,0,none⟩)) (hy:a.eval y = .agg cells)
  (t:TypeId) (old:Array Value) (hg:w.heap[g]?=some (.cells old t (0,0))) (hi:(P.info? ty).map (·.size)=some cells.size)
  (hold:cells.size≤old.size) (h1:cells.all (·.oneCell')=true)
  (h:wpList P ops Q rest (a.put o.dst undef) (w.setRow g (cells.toList ++ old.toList.drop cells.size).toArray)):wpList P ops Q (o :: rest) a w:=by
 refine wpList_plain hgd fun K' hK'=>?_;unfold Oper.wp execOp;simp only [ho,hx,hy,Instr.storeAt,Instr.sureAddr,Sem.run_bind,Sem.run_pure,Result.andThen_ok,run_storeVar_head w g t ty old cells hg hi hold h1];exact hK' _ _ h
theorem alloc_sz (w:World) (o:Obj):(w.alloc o).heap.size=w.heap.size+1:=by simp
theorem moved_node {R:Nat→Prop} {w w1:World} {x:Nat} {id n:Int} {d q i bx vb:Nat} {decs:List (Int×ValB)} {ques:List (Int×(Int×Int))} {inf:List (Int×Int)} {st:List Value} (h:PreN R w x id n d q i decs ques inf st) (height round:Int) (s:StB) (hs:s.id=id∧s.n=n∧s.decs=decs∧s.ques=ques∧s.inf=inf)
  (hbox:BoxAt w1 bx vb n []) (hb1:New (((w.alloc (Obj.map #[] 0)).alloc (Obj.map #[] 0)).alloc (Obj.map #[] 0)) w1 bx) (hv1:New (((w.alloc (Obj.map #[] 0)).alloc (Obj.map #[] 0)).alloc (Obj.map #[] 0)) w1 vb)
  (hb:Below (((w.alloc (Obj.map #[] 0)).alloc (Obj.map #[] 0)).alloc (Obj.map #[] 0)).heap.size (((w.alloc (Obj.map #[] 0)).alloc (Obj.map #[] 0)).alloc (Obj.map #[] 0)) w1) {row:Array Value}
  (hrow:row=(Value.int IntKind.i64 height :: Value.int IntKind.i64 round :: Value.int IntKind.i64 1 :: Value.int IntKind.i64 0 :: Value.int IntKind.i64 0 :: Value.pointer none :: Value.pointer none :: Value.pointer none :: Value.map (some w.heap.size) :: Value.map (some (w.heap.size+1)) :: Value.map (some (w.heap.size+1+1)) :: Value.slice none 0 0 :: Value.pointer (some {block:=bx,off:=0}) :: Value.map (some w1.heap.size) :: Value.slice none 0 0 :: Value.map (some (w1.heap.size+1)) :: List.drop 16 (st ++ [iv id,iv n,mv d,mv q,mv i])).toArray) :
  Turned R w x (s.moved height round) (((w1.alloc (Obj.map #[] 0)).alloc (Obj.map #[] 0)).setRow x row):=by
 obtain ⟨wf,hwf⟩:∃wf,wf=((w1.alloc (Obj.map #[] 0)).alloc (Obj.map #[] 0)).setRow x row:=⟨_,rfl⟩;rw [←hwf];have hxl:x<w.heap.size:=(gE h.row).1;have hs3:(((w.alloc (Obj.map #[] 0)).alloc (Obj.map #[] 0)).alloc (Obj.map #[] 0)).heap.size=w.heap.size+3:=by simp
 have hs1:w.heap.size+3≤w1.heap.size:=by rw [←hs3];exact hb.size
 have hsf:wf.heap.size=w1.heap.size+2:=by rw [hwf,setRow_size];simp
 have hBz:=((Below.refl w1.heap.size w1).alloc (Nat.le_refl _) (Obj.map #[] 0)).alloc (by simp) (Obj.map #[] 0);have hW3:=(((Below.refl w.heap.size w).alloc (Nat.le_refl _) (Obj.map #[] 0)).alloc (by simp) (Obj.map #[] 0)).alloc (by simp <;> omega) (Obj.map #[] 0);have k1:∀k,k≠x→k<w1.heap.size→wf.heap[k]?=w1.heap[k]?:=fun k h1 h2=>by rw [hwf,setRow_other _ _ _ _ h1];exact hBz.block k h2
 have k3:∀k,k<w.heap.size+3→w1.heap[k]?=(((w.alloc (Obj.map #[] 0)).alloc (Obj.map #[] 0)).alloc (Obj.map #[] 0)).heap[k]?:=fun k h1=>hb.block k (by rw [hs3];exact h1);have k0:∀k,k≠x→k<w.heap.size→wf.heap[k]?=w.heap[k]?:=fun k h1 h2=>(k1 k h1 (by omega)).trans ((k3 k (by omega)).trans (hW3.block k h2));have m0:RawMap wf w.heap.size []:=(RawMap.made w).kept ((k1 _ (by omega) (by omega)).trans ((k3 _ (by omega)).trans (by rw [Below.heap_alloc _ _ _ (by simp only [alloc_sz];omega),Below.heap_alloc _ _ _ (by simp only [alloc_sz];omega)])));have m1:RawMap wf (w.heap.size+1) []:=by
  have:=RawMap.made (w.alloc (Obj.map #[] 0));simp only [alloc_sz] at this;exact this.kept ((k1 _ (by omega) (by omega)).trans ((k3 _ (by omega)).trans (Below.heap_alloc _ _ _ (by simp))))
 have m2:RawMap wf (w.heap.size+1+1) []:=by
  have:=RawMap.made ((w.alloc (Obj.map #[] 0)).alloc (Obj.map #[] 0));simp only [alloc_sz] at this;exact this.kept ((k1 _ (by omega) (by omega)).trans (k3 _ (by omega)))
 have m3:RawMap wf w1.heap.size []:=(RawMap.made w1).kept (by rw [hwf,setRow_other _ _ _ _ (by omega)];exact Below.heap_alloc _ _ _ (by simp));have m4:RawMap wf (w1.heap.size+1) []:=by
  have:=RawMap.made (w1.alloc (Obj.map #[] 0));simp only [alloc_sz] at this;exact this.kept (by rw [hwf,setRow_other _ _ _ _ (by omega)])
 obtain ⟨e1,e2,e3,e4,e5⟩:=hs;obtain ⟨hb1,hb2⟩:=hb1;obtain ⟨hv1,hv2⟩:=hv1;rw [hs3] at hb1 hv1;have hstr:∀(g:Nat) cur fr,w.heap[g]?=some (Obj.cells cur 9 fr)→wf.heap[g]?=w.heap[g]?:=fun g cur fr hg=>k0 g (fun e=>by
  subst e;rw [h.row] at hg;injection hg with hg;injection hg with _ hg _;exact absurd hg (by decide)) (gE hg).1
 have hne:∀{b:Nat} {L:List (Value×Value)},RawMap w b L→b≠x:=fun {b L} hm e=>by
  obtain ⟨es,c,q1,_⟩:=hm;subst e;rw [h.row] at q1;cases q1
 obtain ⟨Ld,d1,d2⟩:=h.decs;have ld:=d1.lt;have lq:=h.ques.lt;have li:=h.inf.lt;have nd:=h.nd;simp only [List.nodup_cons,List.mem_cons,List.not_mem_nil,or_false,not_or,List.nodup_nil] at nd;refine ⟨⟨w.heap.size,w.heap.size+1,w.heap.size+1+1,vb,w1.heap.size,w1.heap.size+1,d,q,i,bx,none,none,none,.slice none 0 0,.slice none 0 0⟩,fun k=>R k∨(w.heap.size≤k∧k<wf.heap.size),⟨?_,.inl h.mem,⟨m0,⟨[],m1,.nil⟩,⟨[],m2,.nil⟩,?_,m3,m4,?_,?_,?_,?_,?_⟩,⟨⟨.inr ⟨(by show _≤bx;omega),(by show bx<_;omega)⟩,?_⟩,trivial,trivial,trivial,⟨⟨rfl,.inl ⟨rfl,rfl⟩⟩,fun g hg=>by cases hg⟩,⟨[],.nil,rfl,.inl ⟨rfl,rfl⟩⟩,fun g hg=>by cases hg⟩,?_⟩,?_,⟨fun k hk=>.inl hk,fun k hk=>?_⟩⟩
 ·rw [hwf];have hz:((w1.alloc (Obj.map #[] 0)).alloc (Obj.map #[] 0)).heap[x]?=some (.cells (st ++ [iv id,iv n,mv d,mv q,mv i]).toArray 117 (0,0)):=by
   rw [hBz.block x (by omega),k3 x (by omega),hW3.block x hxl];exact h.row
  rw [setRow_heap _ _ _ _ _ _ hz,hrow];have hdrop:List.drop 16 (st ++ [iv id,iv n,mv d,mv q,mv i]) = [iv id,iv n,mv d,mv q,mv i]:=by
   rw [←h.len,List.drop_left]
  rw [hdrop,←e1,←e2];rfl
 ·exact hbox.map.kept (k1 vb (by omega) hv2)
 ·exact ⟨Ld,d1.kept (k0 d (hne d1) ld),by rw [show (s.moved height round).decs=decs from e3];exact d2.mono (fun a b q=>⟨q.1,(q.2.kept (fun g cur fr _ hg=>hstr g cur fr hg)).mono (fun k hk=>.inl hk)⟩)⟩
 ·rw [show (s.moved height round).ques=ques from e4];exact h.ques.kept (k0 q (hne h.ques) lq)
 ·rw [show (s.moved height round).inf=inf from e5];exact h.inf.kept (k0 i (hne h.inf) li)
 ·simp only [Ptr.maps,List.nodup_cons,List.mem_cons,List.not_mem_nil,or_false,not_or,List.nodup_nil];repeat' (first | omega | refine And.intro ?_ ?_ | trivial)
 ·intro b hb;simp only [Ptr.maps,List.mem_cons,List.not_mem_nil,or_false] at hb;rcases hb with rfl | rfl | rfl | rfl | rfl | rfl | rfl | rfl | rfl
  ·exact .inr ⟨by omega,by omega⟩
  ·exact .inr ⟨by omega,by omega⟩
  ·exact .inr ⟨by omega,by omega⟩
  ·exact .inr ⟨by omega,by omega⟩
  ·exact .inr ⟨by omega,by omega⟩
  ·exact .inr ⟨by omega,by omega⟩
  ·exact .inl (h.own _ (by simp))
  ·exact .inl (h.own _ (by simp))
  exact .inl (h.own _ (by simp))
 ·rw [k1 bx (by omega) hb2,show (s.moved height round).n=n from e2];exact hbox.cell
 ·rintro k (hk | hk)
  ·have:=h.lt k hk;omega
  exact hk.2
 ·exact ⟨by rw [hwf];exact hb.os,by rw [hwf];exact hb.tape,by rw [hwf];exact hb.output,by omega,fun k h1 h2=>k0 k (fun e=>h2 (e ▸ h.mem)) h1⟩
 rcases hk with hk | hk
 ·exact .inl hk
 exact .inr hk.1
theorem move_any {R:Nat→Prop} {w:World} {x:Nat} {id n:Int} {d q i:Nat} {decs:List (Int×ValB)} {ques:List (Int×(Int×Int))} {inf:List (Int×Int)} {st:List Value} (h:PreN R w x id n d q i decs ques inf st) (h1:1≤n) (h7:n≤7) (height round:Int) (s:StB) (hs:s.id=id∧s.n=n∧s.decs=decs∧s.ques=ques∧s.inf=inf) :
  Calls Tryz.prog 61 #[pv x,iv height,iv round] w fun e w'=>e = .returned (.tuple #[])∧Turned R w x (s.moved height round) w':=by
 have hmm:=@run_makeMap Tryz.prog;have c17:w.cell? ⟨x,17,none⟩=some (.int .i64 n):=by
  rw [cell_of_row w x 17 _ _ _ h.row,List.getElem?_toArray,List.getElem?_append_right (by rw [h.len];omega),h.len];rfl
 have hfz:∀o,w.frozen? ⟨x,o,none⟩=false:=fun o=>frozen_of_row w x o _ _ h.row;have NB:=Hd (fun W=>newBox_any n W h1 h7);have H:=Hd h;have hxl:x<w.heap.size:=(gE h.row).1;clear h;unfold pv iv;have c17a:=cell_up (cell_up (cell_up c17 (Obj.map #[] 0)) (Obj.map #[] 0)) (Obj.map #[] 0);go_enter Tryz.func61,Tryz.ntmps61
 go_wp2_with fail
 refine (NB.out _).mono ?_;rintro e w1 ⟨bx,vb,rfl,hbox,hb1,hv1,hb⟩;have HB:=Hd hb;have HW1:=Hd (show Below w.heap.size w w1 from ((((Below.refl _ w).alloc (Nat.le_refl _) _).alloc (by simp) _).alloc (by simp <;> omega) _).trans (hb.mono (by simp <;> omega)));have HROW:=Hd (show ((w1.alloc (Obj.map #[] 0)).alloc (Obj.map #[] 0)).heap[x]?=some (.cells (st ++ [iv id,iv n,mv d,mv q,mv i]).toArray 117 (0,0)) from by
  rw [((((Below.refl _ w1).alloc (Nat.le_refl _) (Obj.map #[] 0)).alloc (by simp) (Obj.map #[] 0)).block x (Nat.lt_of_lt_of_le hxl HW1.out.size)),HW1.out.block x hxl];exact H.out.row)
 have HLE:=Hd (show (16:Nat)≤(st ++ [iv id,iv n,mv d,mv q,mv i]).toArray.size from by simp [H.out.len]);have HBX:=Hd hbox;unfold pv;clear hb hbox;go_wp2_with (refine wpList_store_head rfl 115 (.tmp 21) (.tmp 19) (by rfl) x #[.int .i64 height,.int .i64 round,.int .i64 1,.int .i64 0,.int .i64 0,.pointer none,.pointer none,.pointer none,.map (some w.heap.size),.map (some (w.heap.size+1)),.map (some (w.heap.size+1+1)),.slice none 0 0,.pointer (some ⟨bx,0,none⟩),.map (some w1.heap.size),.slice none 0 0,.map (some (w1.heap.size+1))] ?_ ?_ 117 _ HROW.out ?_ ?_ ?_ ?_;go_loud (simp [Act.eval]);go_loud (simp [Act.eval]);go_loud (kernel_rfl);go_loud (exact HLE.out);go_loud (simp [Value.oneCell']))
 exact bodyPost_end (results_none rfl _ _ _) rfl ⟨rfl,moved_node H.out height round s hs HBX.out hb1 hv1 HB.out rfl⟩
end
section
open Go.RowKit
section
variable {D L:Type} [Dg D] [Inhabited L] {s:NS D L} {m:Msg D L}
theorem putVote_old (h:(getA (m.frm,m.kind,m.height,m.round) s.votes).isNone=false):s.putVote m=s:=by
 unfold NS.putVote;rcases hg:getA (m.frm,m.kind,m.height,m.round) s.votes with _ | d
 ·rw [hg] at h;cases h
 rfl
theorem putVote_new (h:(getA (m.frm,m.kind,m.height,m.round) s.votes).isNone=true):s.putVote m = {s with votes:=putA (m.frm,m.kind,m.height,m.round) m.dig s.votes,stand:=putA m.frm (max ((getA m.frm s.stand).getD (-1,-1)).1 m.round,if m.kind=5 then max ((getA m.frm s.stand).getD (-1,-1)).2 m.round else ((getA m.frm s.stand).getD (-1,-1)).2) s.stand}:=by
 unfold NS.putVote;rcases hg:getA (m.frm,m.kind,m.height,m.round) s.votes with _ | d
 ·rfl
 rw [hg] at h;cases h
end
theorem max_if (a b:Int):max a b=(if a<b then b else a):=by omega
theorem NodeP.lay_stand {R:Nat→Prop} {w:World} {x:Nat} {p:Ptr} {s:StB} (h:NodeP R w x p s) (k a b:Int) :
  ∃o,(Instr.mapUpdate 112 (.map (some p.stand)) (.int .i64 k) (.agg #[.int .i64 a,.int .i64 b])).run Tryz.prog w = .ok () (w.putObj p.stand o)∧NodeP R (w.putObj p.stand o) x p {s with stand:=putA k (a,b) s.stand}:=by
 obtain ⟨o,h1,h2⟩:=h.maps.stand.update (P:=Tryz.prog) keyI Tryz.underlying112 (good_st w _) (x:=iv k) ⟨k,rfl⟩ (plv (a,b));refine ⟨o,h1,?_⟩;have h3:=h2 _ (World.putObj_heap_same (o:=o) h.maps.stand.lt);rw [putV_enc (ek:=iv) (ev:=fun _=>plv) encSt_eq iv_inj] at h3;exact h.put_stand (fun k _ hk=>World.putObj_heap_other hk) (by simp [World.putObj]) h3
theorem NodeP.box_put {R:Nat→Prop} {w w':World} {x:Nat} {p:Ptr} {s:StB} (h:NodeP R w x p s) {k:Bal} {d:ByteArray} (hc:Chg (fun b=>b=p.votes) w w') (hm:RawMap w' p.votes ((putA k d s.votes).map encVt)):NodeP R w' x p {s with votes:=putA k d s.votes}:=
 h.put_votes (fun b hb hn=>hc.block b hb hn) hc.size hm
theorem LRow.chg {R:Nat→Prop} {w w':World} {v:Value} {l:List ByteArray} (h:LRow R w v l) {b:Nat} {es:Array MapEntry} {c:Nat} (hb:w.heap[b]?=some (.map es c)) (hc:Chg (fun k=>k=b) w w'):LRow R w' v l:=
 h.kept (fun g cur fr _ hg=>hc.block g (gE hg).1 (fun e=>by subst e;rw [hb] at hg;cases hg))
theorem put_any {R R0:Nat→Prop} {w:World} {x:Nat} {p:Ptr} {s:StB} {v:Value} {m:MsgB} (h:NodeP R w x p s) (hm:MsgV R0 w v m) (h0:∀k,R0 k→k<w.heap.size) (hl:m.list.length≤60) (hv:voteB m.kind=true) (hok:validB m=true) (hn:m.frm<s.n) :
  Calls Tryz.prog 75 #[pv x,v] w fun e w'=>e = .returned (.tuple #[])∧Turned R w x (s.putVote m) w':=by
 obtain ⟨sl,rfl,ao,cap,rfl,hcap,hrow⟩:=hm;obtain ⟨mb,hmb⟩:∃mb,mb=w.heap.size:=⟨_,rfl⟩;have HMB:=Hd hmb;have HB0:=Hd ((Below.refl _ w).alloc (Nat.le_refl _) (.cells (encM m (.slice ao m.list.length cap)) 36));have HR0:=Hd (World.alloc_heap_new w (.cells (encM m (.slice ao m.list.length cap)) 36));have HN0:=Hd (h.below HB0.out);have HRL:=Hd h.lt;have AD:=Hd (show ∀W,Below w.heap.size w W→Calls Tryz.prog 132 #[pv p.box,.agg (encM m (.slice ao m.list.length cap))] W (addP W p.votes s.votes (m.frm,m.kind,m.height,m.round) m.dig) from fun W hW=>
  badd_any (R:=R0) (m:=m) ((h.below hW).boxAt) ⟨_,rfl,LRow.below ⟨ao,cap,rfl,hcap,hrow⟩ h0 hW⟩ (fun k hk=>Nat.lt_of_lt_of_le (h0 k hk) hW.size) hl hv hok hn)
 clear hrow hcap hmb h0 hok hn h;unfold encM iv pv at *;go_enter Tryz.func75,Tryz.ntmps75
 go_upto_region 1 with (fail)
 obtain ⟨wa,hwa⟩:∃wa,wa=w.alloc (.cells #[.int .i64 m.kind,.int .i64 m.frm,.int .i64 m.to,.int .i64 m.height,.int .i64 m.round,.int .i64 m.valid,.string m.dig,.slice ao m.list.length cap] 36):=⟨_,rfl⟩;rw [←HMB.out] at HR0 ⊢;rw [←hwa] at HB0 HR0 HN0 ⊢;clear hwa;obtain ⟨c0,c1,c2,c3,c4,c5,c6,c7,fz⟩:=MRow.of HR0.out;have c12:=HN0.out.nc.c12;have xfz:=HN0.out.nc.fz;have A1:=Hd (AD.out wa.drew (HB0.out.drew));clear AD;go_cut [13] (fun t wc=>t = .bool (getA (m.frm,m.kind,m.height,m.round) s.votes).isSome∧RawMap wc p.votes ((if (getA (m.frm,m.kind,m.height,m.round) s.votes).isNone=true then putA (m.frm,m.kind,m.height,m.round) m.dig s.votes else s.votes).map encVt)∧Chg (fun b=>b=p.votes) wa.drew wc)
 case first=>
  go_region_law (go_simp;go_at_call 132;(with_reducible refine (A1.out).mono ?_);rintro e w1 ⟨rfl,hvm,hch⟩;have HVM:=Hd hvm;have HCH:=Hd hch;clear hvm hch)
  all_goals (go_wp2_with fail;go_meet;exact ⟨by simp,HVM.out,HCH.out⟩)
 case rest=>
  obtain ⟨rfl,hvm,hch⟩:=hcut;obtain ⟨w1,rfl⟩:∃w1:World,w1=wc:=⟨_,rfl⟩;have HVM:=Hd hvm;have HCH:=Hd hch;have hml:mb<wa.heap.size:=(gE HR0.out).1;have hne:mb≠p.votes:=by have:=HMB.out;have h2:=HRL.out p.votes (HN0.out.maps.own _ (by simp [Ptr.maps]));omega
  have HR1:=Hd ((hch.block mb hml hne).trans HR0.out);clear hvm hch c0 c1 c2 c3 c4 c5 c6 c7 fz c12 xfz hml hne;rcases hg:getA (m.frm,m.kind,m.height,m.round) s.votes with _ | d
  ·have HG:=Hd hg;rw [hg] at HVM;simp only [Option.isNone_none,if_true] at HVM;clear hg;have HN1:=Hd (HN0.out.drew.box_put HCH.out HVM.out);obtain ⟨c0,c1,c2,c3,c4,c5,c6,c7,fz⟩:=MRow.of HR1.out;have c13:=HN1.out.nc.c13;have xfz:=HN1.out.nc.fz;have HN2:=Hd (HN1.out.up (.cells #[.int .i64 0,.int .i64 0] 179));have c1a:=cell_up c1 (.cells #[.int .i64 0,.int .i64 0] 179);have c13a:=cell_up c13 (.cells #[.int .i64 0,.int .i64 0] 179);have hlk:=HN2.out.drew.maps.look_stand m.frm;have hlkb:=HN1.out.drew.maps.look_stand m.frm;simp only at hlk hlkb c13;obtain ⟨⟨q0,q1⟩,hq⟩:∃q,(getA m.frm s.stand).getD (0,0)=q:=⟨_,rfl⟩;obtain ⟨io,hio⟩:∃q,(getA m.frm s.stand).isSome=q:=⟨_,rfl⟩;rw [hq,hio] at hlk hlkb;have HQ:=Hd hq;have HIO:=Hd hio;unfold plv iv at hlk hlkb;simp only at hlk hlkb;clear hq hio;obtain ⟨sb,hsb⟩:∃sb,sb=w1.heap.size:=⟨_,rfl⟩;have HSB:=Hd hsb;clear hsb;go_upto_region 2 with (fail)
   go_cut [4,5] (fun t4 t5 wc=>t4 = .pointer (some ⟨sb,0,none⟩)∧t5 = .bool io∧wc.heap[sb]?=some (.cells #[.int .i64 q0,.int .i64 q1] 179 (0,0))∧Below w1.heap.size w1 wc)
   case first=>
    go_region
    all_goals (go_wp2_with fail;go_meet;rw [HSB.out];exact ⟨rfl,rfl,World.alloc_heap_new w1 _,((Below.refl _ w1).alloc (Nat.le_refl _) _).drew⟩)
   case rest=>
    obtain ⟨rfl,rfl,hrow2,hb2⟩:=hcut;obtain ⟨w2,rfl⟩:∃w2:World,w2=wc:=⟨_,rfl⟩;have HROW2:=Hd hrow2;have HB2:=Hd hb2;clear hrow2 hb2 hlk hlkb c0 c1 c2 c3 c4 c5 c6 c7 fz c13 xfz c1a c13a HN2;obtain ⟨⟨a0,a1⟩,ha⟩:∃q,(getA m.frm s.stand).getD (-1,-1)=q:=⟨_,rfl⟩;have HA:=Hd ha;clear ha;have s0:=cell_of_row w2 sb 0 _ _ _ HROW2.out;have s1:=cell_of_row w2 sb 1 _ _ _ HROW2.out;have sf:=fun o=>frozen_of_row w2 sb o _ _ HROW2.out;simp at s0 s1;have HIO2:=Hd (show (io=true→q0=a0∧q1=a1)∧(io=false→a0 = -1∧a1 = -1) from by
     have h1:=HQ.out;have h2:=HIO.out;have h3:=HA.out;rcases hgs:getA m.frm s.stand with _ | q
     ·rw [hgs] at h2 h3;simp at h2 h3;subst h2;exact ⟨fun q=>(by cases q),fun _=>⟨h3.1.symm,h3.2.symm⟩⟩
     rw [hgs] at h1 h2 h3;simp at h1 h2 h3;subst h2;rw [h1] at h3;simp at h3;exact ⟨fun _=>h3,fun q=>(by cases q)⟩)
    have HA2:=Hd HA.out;clear HQ HIO HA;obtain ⟨mc0,mc1,mc2,mc3,mc4,mc5,mc6,mc7,mfz⟩:=MRow.of ((HB2.out.block mb (gE HR1.out).1).trans HR1.out);have hmb:mb≠sb:=by have:=(gE HR1.out).1;have:=HSB.out;omega
    rcases io with _ | _
    ·have HA3:=Hd (show (getA m.frm s.stand).getD (-1,-1)=((-1),(-1)) from by rw [HA2.out];rw [(HIO2.out.2 rfl).1,(HIO2.out.2 rfl).2]);clear HIO2 HA2;go_upto_region 5 with (fail)
     go_cut [] (fun wc=>wc.heap[sb]?=some (.cells #[.int .i64 (max (-1) m.round),.int .i64 (-1)] 179 (0,0))∧Below w1.heap.size w1 wc)
     case first=>
      go_wp2
      go_meet;exact ⟨heap_setC (heap_setC (heap_setC HROW2.out _) _) _,((HB2.out.setCell (by rw [HSB.out];exact Nat.le_refl _) _).setCell (by rw [HSB.out];exact Nat.le_refl _) _).setCell (by rw [HSB.out];exact Nat.le_refl _) _⟩
     case rest=>
      obtain ⟨hrw,hbw⟩:=hcut;obtain ⟨wv,rfl⟩:∃wv:World,wv=wc:=⟨_,rfl⟩;obtain ⟨b0,hb0⟩:∃b0,b0=(max (-1) m.round):=⟨_,rfl⟩;rw [←hb0] at hrw;have HB0E:=Hd hb0;have HRW:=Hd hrw;have HBW:=Hd hbw;clear hrw hbw hb0 s0 s1 sf mc0 mc1 mc2 mc3 mc4 mc5 mc6 mc7 mfz;obtain ⟨mc0,mc1,mc2,mc3,mc4,mc5,mc6,mc7,mfz⟩:=MRow.of ((HBW.out.block mb (gE HR1.out).1).trans HR1.out);by_cases k5:m.kind=5
      ·have e5:(m.kind == 5)=true:=by simpa using k5
       have s0:=cell_of_row wv sb 0 _ _ _ HRW.out;have s1:=cell_of_row wv sb 1 _ _ _ HRW.out;have sf:=fun o=>frozen_of_row wv sb o _ _ HRW.out;simp at s0 s1;go_upto_region 7 with (fail)
       go_cut [] (fun wc=>wc.heap[sb]?=some (.cells #[.int .i64 b0,.int .i64 (max (-1) m.round)] 179 (0,0))∧Below w1.heap.size w1 wc)
       case first=>
        go_wp2
        go_meet;exact ⟨heap_setC HRW.out _,HBW.out.setCell (by rw [HSB.out];exact Nat.le_refl _) _⟩
       case rest=>
        obtain ⟨hrw,hbw⟩:=hcut;obtain ⟨wu,rfl⟩:∃wu:World,wu=wc:=⟨_,rfl⟩;obtain ⟨b1,hb1⟩:∃b1,b1=(max (-1) m.round):=⟨_,rfl⟩;rw [←hb1] at hrw;have HB1E:=Hd hb1;clear HRW HBW s0 s1 sf mc0 mc1 mc2 mc3 mc4 mc5 mc6 mc7 mfz;have HRW:=Hd hrw;have HBW:=Hd hbw;clear hrw hbw hb1;have HNv:=Hd (HN1.out.below HBW.out);have s0:=cell_of_row wu sb 0 _ _ _ HRW.out;have s1:=cell_of_row wu sb 1 _ _ _ HRW.out;simp at s0 s1;obtain ⟨mc0,mc1,mc2,mc3,mc4,mc5,mc6,mc7,mfz⟩:=MRow.of ((HBW.out.block mb (gE HR1.out).1).trans HR1.out);have c13:=HNv.out.nc.c13;have xfz:=HNv.out.nc.fz;obtain ⟨ob,hup,hnf⟩:=HNv.out.drew.lay_stand m.frm b0 b1;have HNF:=Hd hnf;clear hnf;go_upto_region 8 with (fail)
        go_region
        go_wp2
        refine bodyPost_end (results_none rfl _ _ _) rfl ⟨rfl,?_⟩;have e:s.putVote m = {s with votes:=putA (m.frm,m.kind,m.height,m.round) m.dig s.votes,stand:=putA m.frm (b0,b1) s.stand}:=by
         rw [putVote_new (by rw [HG.out];rfl),HA3.out];rw [if_pos k5,HB0E.out,HB1E.out]
        rw [e];refine .of (p:=p) HNF.out ?_;have g1:Chg R w wa:=Chg.of_below HB0.out (fun k h1 h2=>by omega);have g2:Chg R wa w1:=(Chg.drew R wa).trans (HCH.out.mono (fun k _ hk=>.inl (hk ▸ HN0.out.maps.own _ (by simp [Ptr.maps]))));have g3:Chg R w1 wu:=Chg.of_below HBW.out (fun k h1 h2=>by omega);have g4:Chg R wu (wu.drew.putObj p.stand ob):=(Chg.drew R wu).trans (Chg.put _ _ _ (.inl (HN0.out.maps.own _ (by simp [Ptr.maps]))));exact (g1.trans (g2.mono (fun k _ h=>.inl h))).trans ((g3.trans (g4.mono (fun k _ h=>.inl h))).mono (fun k _ h=>.inl h))
      have e5:(m.kind == 5)=false:=by simpa using k5
      have s0:=cell_of_row wv sb 0 _ _ _ HRW.out;have s1:=cell_of_row wv sb 1 _ _ _ HRW.out;simp at s0 s1;go_upto_region 8 with (fail)
      clear s0 s1 mc0 mc1 mc2 mc3 mc4 mc5 mc6 mc7 mfz;have HNv:=Hd (HN1.out.below HBW.out);have s0:=cell_of_row wv sb 0 _ _ _ HRW.out;have s1:=cell_of_row wv sb 1 _ _ _ HRW.out;simp at s0 s1;obtain ⟨mc0,mc1,mc2,mc3,mc4,mc5,mc6,mc7,mfz⟩:=MRow.of ((HBW.out.block mb (gE HR1.out).1).trans HR1.out);have c13:=HNv.out.nc.c13;have xfz:=HNv.out.nc.fz;obtain ⟨ob,hup,hnf⟩:=HNv.out.drew.lay_stand m.frm b0 (-1);have HNF:=Hd hnf;clear hnf;go_region
      go_wp2
      refine bodyPost_end (results_none rfl _ _ _) rfl ⟨rfl,?_⟩;have e:s.putVote m = {s with votes:=putA (m.frm,m.kind,m.height,m.round) m.dig s.votes,stand:=putA m.frm (b0,(-1)) s.stand}:=by
       rw [putVote_new (by rw [HG.out];rfl),HA3.out];rw [if_neg k5,HB0E.out]
      rw [e];refine .of (p:=p) HNF.out ?_;have g1:Chg R w wa:=Chg.of_below HB0.out (fun k h1 h2=>by omega);have g2:Chg R wa w1:=(Chg.drew R wa).trans (HCH.out.mono (fun k _ hk=>.inl (hk ▸ HN0.out.maps.own _ (by simp [Ptr.maps]))));have g3:Chg R w1 wv:=Chg.of_below HBW.out (fun k h1 h2=>by omega);have g4:Chg R wv (wv.drew.putObj p.stand ob):=(Chg.drew R wv).trans (Chg.put _ _ _ (.inl (HN0.out.maps.own _ (by simp [Ptr.maps]))));exact (g1.trans (g2.mono (fun k _ h=>.inl h))).trans ((g3.trans (g4.mono (fun k _ h=>.inl h))).mono (fun k _ h=>.inl h))
    have HA3:=Hd (show (getA m.frm s.stand).getD (-1,-1)=(q0,q1) from by rw [HA2.out];rw [(HIO2.out.1 rfl).1,(HIO2.out.1 rfl).2]);clear HIO2 HA2;go_upto_region 5 with (fail)
    go_cut [] (fun wc=>wc.heap[sb]?=some (.cells #[.int .i64 (max q0 m.round),.int .i64 q1] 179 (0,0))∧Below w1.heap.size w1 wc)
    case first=>
     go_wp2
     go_meet;exact ⟨heap_setC HROW2.out _,HB2.out.setCell (by rw [HSB.out];exact Nat.le_refl _) _⟩
    case rest=>
     obtain ⟨hrw,hbw⟩:=hcut;obtain ⟨wv,rfl⟩:∃wv:World,wv=wc:=⟨_,rfl⟩;obtain ⟨b0,hb0⟩:∃b0,b0=(max q0 m.round):=⟨_,rfl⟩;rw [←hb0] at hrw;have HB0E:=Hd hb0;have HRW:=Hd hrw;have HBW:=Hd hbw;clear hrw hbw hb0 s0 s1 sf mc0 mc1 mc2 mc3 mc4 mc5 mc6 mc7 mfz;obtain ⟨mc0,mc1,mc2,mc3,mc4,mc5,mc6,mc7,mfz⟩:=MRow.of ((HBW.out.block mb (gE HR1.out).1).trans HR1.out);by_cases k5:m.kind=5
     ·have e5:(m.kind == 5)=true:=by simpa using k5
      have s0:=cell_of_row wv sb 0 _ _ _ HRW.out;have s1:=cell_of_row wv sb 1 _ _ _ HRW.out;have sf:=fun o=>frozen_of_row wv sb o _ _ HRW.out;simp at s0 s1;go_upto_region 7 with (fail)
      go_cut [] (fun wc=>wc.heap[sb]?=some (.cells #[.int .i64 b0,.int .i64 (max q1 m.round)] 179 (0,0))∧Below w1.heap.size w1 wc)
      case first=>
       go_wp2
       go_meet;exact ⟨heap_setC HRW.out _,HBW.out.setCell (by rw [HSB.out];exact Nat.le_refl _) _⟩
      case rest=>
       obtain ⟨hrw,hbw⟩:=hcut;obtain ⟨wu,rfl⟩:∃wu:World,wu=wc:=⟨_,rfl⟩;obtain ⟨b1,hb1⟩:∃b1,b1=(max q1 m.round):=⟨_,rfl⟩;rw [←hb1] at hrw;have HB1E:=Hd hb1;clear HRW HBW s0 s1 sf mc0 mc1 mc2 mc3 mc4 mc5 mc6 mc7 mfz;have HRW:=Hd hrw;have HBW:=Hd hbw;clear hrw hbw hb1;have HNv:=Hd (HN1.out.below HBW.out);have s0:=cell_of_row wu sb 0 _ _ _ HRW.out;have s1:=cell_of_row wu sb 1 _ _ _ HRW.out;simp at s0 s1;obtain ⟨mc0,mc1,mc2,mc3,mc4,mc5,mc6,mc7,mfz⟩:=MRow.of ((HBW.out.block mb (gE HR1.out).1).trans HR1.out);have c13:=HNv.out.nc.c13;have xfz:=HNv.out.nc.fz;obtain ⟨ob,hup,hnf⟩:=HNv.out.drew.lay_stand m.frm b0 b1;have HNF:=Hd hnf;clear hnf;go_upto_region 8 with (fail)
       go_region
       go_wp2
       refine bodyPost_end (results_none rfl _ _ _) rfl ⟨rfl,?_⟩;have e:s.putVote m = {s with votes:=putA (m.frm,m.kind,m.height,m.round) m.dig s.votes,stand:=putA m.frm (b0,b1) s.stand}:=by
        rw [putVote_new (by rw [HG.out];rfl),HA3.out];rw [if_pos k5,HB0E.out,HB1E.out]
       rw [e];refine .of (p:=p) HNF.out ?_;have g1:Chg R w wa:=Chg.of_below HB0.out (fun k h1 h2=>by omega);have g2:Chg R wa w1:=(Chg.drew R wa).trans (HCH.out.mono (fun k _ hk=>.inl (hk ▸ HN0.out.maps.own _ (by simp [Ptr.maps]))));have g3:Chg R w1 wu:=Chg.of_below HBW.out (fun k h1 h2=>by omega);have g4:Chg R wu (wu.drew.putObj p.stand ob):=(Chg.drew R wu).trans (Chg.put _ _ _ (.inl (HN0.out.maps.own _ (by simp [Ptr.maps]))));exact (g1.trans (g2.mono (fun k _ h=>.inl h))).trans ((g3.trans (g4.mono (fun k _ h=>.inl h))).mono (fun k _ h=>.inl h))
     have e5:(m.kind == 5)=false:=by simpa using k5
     have s0:=cell_of_row wv sb 0 _ _ _ HRW.out;have s1:=cell_of_row wv sb 1 _ _ _ HRW.out;simp at s0 s1;go_upto_region 8 with (fail)
     clear s0 s1 mc0 mc1 mc2 mc3 mc4 mc5 mc6 mc7 mfz;have HNv:=Hd (HN1.out.below HBW.out);have s0:=cell_of_row wv sb 0 _ _ _ HRW.out;have s1:=cell_of_row wv sb 1 _ _ _ HRW.out;simp at s0 s1;obtain ⟨mc0,mc1,mc2,mc3,mc4,mc5,mc6,mc7,mfz⟩:=MRow.of ((HBW.out.block mb (gE HR1.out).1).trans HR1.out);have c13:=HNv.out.nc.c13;have xfz:=HNv.out.nc.fz;obtain ⟨ob,hup,hnf⟩:=HNv.out.drew.lay_stand m.frm b0 q1;have HNF:=Hd hnf;clear hnf;go_region
     go_wp2
     refine bodyPost_end (results_none rfl _ _ _) rfl ⟨rfl,?_⟩;have e:s.putVote m = {s with votes:=putA (m.frm,m.kind,m.height,m.round) m.dig s.votes,stand:=putA m.frm (b0,q1) s.stand}:=by
      rw [putVote_new (by rw [HG.out];rfl),HA3.out];rw [if_neg k5,HB0E.out]
     rw [e];refine .of (p:=p) HNF.out ?_;have g1:Chg R w wa:=Chg.of_below HB0.out (fun k h1 h2=>by omega);have g2:Chg R wa w1:=(Chg.drew R wa).trans (HCH.out.mono (fun k _ hk=>.inl (hk ▸ HN0.out.maps.own _ (by simp [Ptr.maps]))));have g3:Chg R w1 wv:=Chg.of_below HBW.out (fun k h1 h2=>by omega);have g4:Chg R wv (wv.drew.putObj p.stand ob):=(Chg.drew R wv).trans (Chg.put _ _ _ (.inl (HN0.out.maps.own _ (by simp [Ptr.maps]))));exact (g1.trans (g2.mono (fun k _ h=>.inl h))).trans ((g3.trans (g4.mono (fun k _ h=>.inl h))).mono (fun k _ h=>.inl h))
  have HG:=Hd hg;rw [hg] at HVM;clear hg;go_wp2
  refine bodyPost_ret (results_none rfl _ _ _) rfl ?_;have e:s.putVote m=s:=putVote_old (by rw [HG.out];rfl);rw [e];refine ⟨rfl,.of (p:=p) ?_ ?_⟩
  ·exact HN0.out.drew.put_votes (s':=s) (fun b hb hn=>HCH.out.block b hb hn) HCH.out.size HVM.out
  exact ((Chg.of_below HB0.out (fun k h1 h2=>by omega)).trans ((Chg.drew _ _).trans (HCH.out.mono (fun k _ hk=>.inl (.inl (hk ▸ HN0.out.maps.own _ (by simp [Ptr.maps])))))))
end
section
open Go.RowKit
theorem Tryz.infoMsg:(Tryz.prog.info? 36).map (fun i=>(i.zero,i.size,i.bytes))=some (some zM,8,88):=by kernel_rfl
theorem NodeP.mine_grown {R:Nat→Prop} {w w':World} {x:Nat} {p:Ptr} {s:StB} (h:NodeP R w x p s) {row:Option Nat} (hg:w.grownBy w' row) (hrow:∀g,row=some g→p.mine.ownBlock=some g∨w.heap.size≤g):∀g cur t fr,R g→w.heap[g]?=some (Obj.cells cur t fr)→t≠36→w'.heap[g]?=w.heap[g]?:=by
 intro g cur t fr hr hc ht;have hlt:g<w.heap.size:=(gE hc).1;refine hg.block g hlt (fun e=>?_);rcases hrow g e.symm with q | q
 ·obtain ⟨_,hm⟩:=h.rest.mine.1;obtain ⟨_,h2 | ⟨g2,cap,c2,hv,_,h3,_⟩⟩:=hm.2
  ·rw [h2.1] at q;cases q
  rw [hv] at q;simp [Value.ownBlock] at q;subst q;rw [h3] at hc;cases hc;exact ht rfl
 omega
theorem NodeP.maps_grown {R:Nat→Prop} {w w':World} {x:Nat} {p:Ptr} {s:StB} (h:NodeP R w x p s) {row:Option Nat} (hg:w.grownBy w' row) (hrow:∀g,row=some g→p.mine.ownBlock=some g∨w.heap.size≤g):∀b∈p.maps,w'.heap[b]?=w.heap[b]?:=by
 intro b hb;obtain ⟨es,c,hm⟩:=h.maps.isMap b hb;have hlt:b<w.heap.size:=(gE hm).1;refine hg.block b hlt (fun e=>?_);rcases hrow b e.symm with q | q
 ·obtain ⟨_,hm2⟩:=h.rest.mine.1;obtain ⟨_,h2 | ⟨g2,cap,c2,hv,_,h3,_⟩⟩:=hm2.2
  ·rw [h2.1] at q;cases q
  rw [hv] at q;simp [Value.ownBlock] at q;subst q;rw [h3] at hm;cases hm
 omega
theorem NodeP.mine_put {R:Nat→Prop} {w w':World} {x:Nat} {p:Ptr} {s:StB} (h:NodeP R w x p s) {m:MsgB} {sl v':Value} {sls:List Value} {row:Option Nat} (hg:w.grownBy w' row) (hrow:∀g,row=some g→p.mine.ownBlock=some g∨w.heap.size≤g)
  (hA:All2 (fun sl m=>LRow R w sl m.list) sls s.mine) (hsl:LRow R w sl m.list) (hown:w'.ownsRow 0 36 8 v' (s.mine.length+1) (((sls.zip s.mine).flatMap fun q=>(encM q.2 q.1).toList) ++ (encM m sl).toList))
  (hv:∀g,v'.ownBlock=some g→p.mine.ownBlock=some g∨w.heap.size≤g) :
  NodeP (fun k=>R k∨v'.ownBlock=some k) (w'.setCell ⟨x,14,none⟩ v') x {p with mine:=v'} {s with mine:=s.mine ++ [m]}:=by
 have hk:=h.mine_grown hg hrow;have hstr:∀g cur fr,R g→w.heap[g]?=some (Obj.cells cur 9 fr)→w'.heap[g]?=w.heap[g]?:=fun g cur fr hr hc=>hk g cur _ fr hr hc (by decide);have hx:w'.heap[x]?=some (.cells (nodeRow s p) 117 (0,0)):=(hk x _ _ _ h.mem h.node (by decide)).trans h.node;have hlt:x<w.heap.size:=(gE h.node).1;have hother:∀k,k≠x→(w'.setCell ⟨x,14,none⟩ v').heap[k]?=w'.heap[k]?:=fun k hk=>Below.heap_setCell w' ⟨x,14,none⟩ _ k hk;have hm2:Maps R w' p s:=h.maps.kept (h.maps_grown hg hrow) (fun g cur fr hr hc=>hstr g cur fr hr hc);have hne:∀{g:Nat} {cur:Array Value} {t:TypeId} {fr:Nat×Nat},w'.heap[g]?=some (Obj.cells cur t fr)→t≠117→g≠x:=fun {g cur t fr} hc ht e=>by
  subst e;rw [hx] at hc;cases hc;exact ht rfl
 have hstr2:∀g cur fr,R g→w'.heap[g]?=some (Obj.cells cur 9 fr)→(w'.setCell ⟨x,14,none⟩ v').heap[g]?=w'.heap[g]?:=fun g cur fr _ hc=>hother g (hne hc (by decide));have hval2:∀g cur fr,R g→w'.heap[g]?=some (Obj.cells cur 120 fr)→(w'.setCell ⟨x,14,none⟩ v').heap[g]?=w'.heap[g]?:=fun g cur fr _ hc=>hother g (hne hc (by decide));have hval1:∀g cur fr,R g→w.heap[g]?=some (Obj.cells cur 120 fr)→w'.heap[g]?=w.heap[g]?:=fun g cur fr hr hc=>hk g cur _ fr hr hc (by decide);have hm3:Maps R (w'.setCell ⟨x,14,none⟩ v') p s:=hm2.kept (fun b hb=>hother b (fun e=>by
  obtain ⟨es,c,q⟩:=hm2.isMap b hb;subst e;rw [hx] at q;cases q)) hstr2
 refine ⟨heap_setC hx v',.inl h.mem,(hm3.mono (fun k hk=>.inl hk)).same,?_,fun k hk=>?_⟩
 ·have hb:=(hk p.box _ _ _ h.rest.box.1 h.rest.box.2 (by decide)).trans h.rest.box.2;have hlen:=hA.len;refine ⟨⟨.inl h.rest.box.1,(hother _ (hne hb (by decide))).trans hb⟩,((h.rest.lock.kept hstr hval1).kept hstr2 hval2).mono (fun k hk=>.inl hk),((h.rest.valid.kept hstr hval1).kept hstr2 hval2).mono (fun k hk=>.inl hk),((h.rest.own.kept hstr hval1).kept hstr2 hval2).mono (fun k hk=>.inl hk),⟨?_,fun g hg2=>.inl (h.rest.order.2 g hg2)⟩,⟨sls ++ [sl],?_,?_⟩,fun g hg2=>.inr hg2⟩
  ·refine owns_blk (owns_blk h.rest.order.1 (fun g cur hg2 hc=>hk g cur _ _ (h.rest.order.2 g hg2) hc (by decide))) (fun g cur hg2 hc=>hother g (hne hc (by decide)))
  ·refine All2.append (hA.mono (fun a b q=>((q.kept hstr).kept hstr2).mono (fun k hk=>.inl hk))) (((hsl.kept hstr).kept hstr2).mono (fun k hk=>.inl hk))
  have e:((sls ++ [sl]).zip (s.mine ++ [m])).flatMap (fun q=>(encM q.2 q.1).toList)=((sls.zip s.mine).flatMap fun q=>(encM q.2 q.1).toList) ++ (encM m sl).toList:=by
   rw [List.zip_append hlen,List.flatMap_append];simp
  show World.ownsRow _ 0 _ 8 v' (s.mine ++ [m]).length _;rw [e,List.length_append];exact owns_blk hown (fun g cur _ hc=>hother g (hne hc (by decide)))
 have hsz:(w'.setCell ⟨x,14,none⟩ v').heap.size=w'.heap.size:=by simp [World.setCell]
 rw [hsz];rcases hk with hk | hk
 ·exact Nat.lt_of_lt_of_le (h.lt k hk) hg.size
 obtain ⟨_,h2 | ⟨g2,cap,c2,hv2,_,h3,_⟩⟩:=hown
 ·rw [h2.1] at hk;cases hk
 rw [hv2] at hk;simp [Value.ownBlock] at hk;subst hk;exact (gE h3).1
end
section
open Go.RowKit
theorem NodeP.setW {R:Nat→Prop} {w:World} {x:Nat} {p p':Ptr} {s s':StB} (h:NodeP R w x p s) (i:Nat) (v:Value) (hrow:(nodeRow s p).setIfInBounds i v=nodeRow s' p')
  (hm:∀w2,Maps R w2 p s→Maps R w2 p' s') (hr:Rest R (w.setCell ⟨x,i,none⟩ v) p s→Rest R (w.setCell ⟨x,i,none⟩ v) p' s'):NodeP R (w.setCell ⟨x,i,none⟩ v) x p' s':=by
 have hk:∀k,k≠x→(w.setCell ⟨x,i,none⟩ v).heap[k]?=w.heap[k]?:=fun k hk=>by
  simp [World.setCell,Array.getElem?_modify,Ne.symm hk]
 have hne:∀g cur t fr,R g→w.heap[g]?=some (.cells cur t fr)→t≠117→(w.setCell ⟨x,i,none⟩ v).heap[g]?=w.heap[g]?:=fun g cur t fr _ hg ht=>hk g (fun e=>by
  subst e;rw [h.node] at hg;injection hg with hg;injection hg with _ hg _;exact ht hg.symm)
 refine ⟨by rw [←hrow];exact heap_setC h.node v,h.mem,hm _ (h.maps.kept (fun b hb=>hk b (fun e=>?_)) (fun g cur fr hr hg=>hne g cur _ fr hr hg (by decide))),hr (h.rest.kept hne),fun k hk=>by simpa [World.setCell] using h.lt k hk⟩;obtain ⟨es,c,hb'⟩:=h.maps.isMap b hb;subst e;rw [h.node] at hb';cases hb'
theorem ValP.of {R:Nat→Prop} {w:World} {x i g:Nat} {v:ValB} {sl u:Value} {cs:Array Value} {fr:Nat×Nat} (hx:w.heap[x]?=some (.cells cs 117 fr)) (hR:R g) (hg:w.heap[g]?=some (.cells #[iv v.round,.string v.dig,sl] 120 (0,0))) (hl:LRow R w sl v.list):ValP R (w.setCell ⟨x,i,none⟩ u) (some g) (some v):=by
 have hk:∀(k:Nat) (cur:Array Value) (t:TypeId) (fr:Nat×Nat),w.heap[k]?=some (Obj.cells cur t fr)→t≠117→(w.setCell ⟨x,i,none⟩ u).heap[k]?=w.heap[k]?:=fun k cur t fr hc ht=>Below.heap_setCell w ⟨x,i,none⟩ _ k (fun e=>by
  subst e;rw [hx] at hc;injection hc with hc;injection hc with _ hc _;exact ht hc.symm)
 exact ⟨hR,sl,(hk g _ _ _ hg (by decide)).trans hg,hl.kept (fun k cur fr _ hc=>hk k cur _ fr hc (by decide))⟩
theorem NodeP.put_lock {R:Nat→Prop} {w:World} {x g:Nat} {p:Ptr} {s:StB} {v:ValB} {sl:Value} (h:NodeP R w x p s) (hR:R g) (hg:w.heap[g]?=some (.cells #[iv v.round,.string v.dig,sl] 120 (0,0))) (hl:LRow R w sl v.list):NodeP R (w.setCell ⟨x,5,none⟩ (pv g)) x {p with lock:=some g} {s with lock:=some v}:=
 h.setW 5 (pv g) rfl (fun _ q=>q.same) (fun q=>⟨q.box,ValP.of h.node hR hg hl,q.valid,q.own,q.order,q.mine⟩)
theorem NodeP.put_valid {R:Nat→Prop} {w:World} {x g:Nat} {p:Ptr} {s:StB} {v:ValB} {sl:Value} (h:NodeP R w x p s) (hR:R g) (hg:w.heap[g]?=some (.cells #[iv v.round,.string v.dig,sl] 120 (0,0))) (hl:LRow R w sl v.list):NodeP R (w.setCell ⟨x,6,none⟩ (pv g)) x {p with valid:=some g} {s with valid:=some v}:=
 h.setW 6 (pv g) rfl (fun _ q=>q.same) (fun q=>⟨q.box,q.lock,ValP.of h.node hR hg hl,q.own,q.order,q.mine⟩)
theorem NodeP.put_own {R:Nat→Prop} {w:World} {x g:Nat} {p:Ptr} {s:StB} {v:ValB} {sl:Value} (h:NodeP R w x p s) (hR:R g) (hg:w.heap[g]?=some (.cells #[iv v.round,.string v.dig,sl] 120 (0,0))) (hl:LRow R w sl v.list):NodeP R (w.setCell ⟨x,7,none⟩ (pv g)) x {p with own:=some g} {s with own:=some v}:=
 h.setW 7 (pv g) rfl (fun _ q=>q.same) (fun q=>⟨q.box,q.lock,q.valid,ValP.of h.node hR hg hl,q.order,q.mine⟩)
end
end Go.Proofs.YtifcdjmcoibblaaGreatDoor
