/- Cln -/
import Derived.Test.YtifcdjmcoibblaaGreatDoorLq09
import Derived.Test.YtifcdjmcoibblaaGreatDoorLq10
import Derived.Test.YtifcdjmcoibblaaGreatDoorLq15
import Derived.Test.YtifcdjmcoibblaaGreatDoorLq01
set_option linter.unusedVariables false
set_option linter.unusedSimpArgs false
set_option linter.unusedSectionVars false
set_option maxRecDepth 100000
set_option maxHeartbeats 80000000
namespace Go.Proofs.YtifcdjmcoibblaaGreatDoor
section
open Go.RowKit
def New (w w':World) (k:Nat):Prop:=w.heap.size≤k∧k<w'.heap.size
theorem clone_any {R:Nat→Prop} {w:World} {v:Value} {l:List ByteArray} (h:LRow R w v l) (hl:l.length≤1000) :
  Calls Tryz.prog 67 #[v] w fun e w'=>∃v',e = .returned v'∧LRow (New w w') w' v' l∧Below w.heap.size w w':=by
 obtain ⟨ao,cap,rfl,⟨hc0,hc⟩,h3⟩:=h;rcases h3 with rfl | ⟨g,o,cur,fr,rfl,hr,hg,hcur⟩
 ·rcases ao with _ | a
  ·refine (Tryz.slices_Clone_string_nil 0 cap w).mono ?_;rintro e w' ⟨rfl,rfl⟩;exact ⟨_,rfl,LRow.nil _ _,Below.refl _ _⟩
  refine (Tryz.slices_Clone_string_zero a cap w).mono ?_;rintro e w' ⟨v',rfl,ho,_,hb⟩;exact ⟨_,rfl,LRow.of_owns (l:=[]) ho (fun g h1 h2=>⟨h1,h2⟩),hb⟩
 refine (Tryz.slices_Clone_string g o l.length cap l w (Nat.le_refl _) (by omega) (fun j hj=>?_)).mono ?_
 ·rw [cell_of_row w g _ cur _ _ hg,hcur j l[j] (List.getElem?_eq_getElem hj),List.getD_eq_getElem?_getD,List.getElem?_eq_getElem hj];rfl
 rintro e w' ⟨v',rfl,ho,_,hb⟩;rw [List.take_length] at ho;exact ⟨_,rfl,LRow.of_owns ho (fun g h1 h2=>⟨h1,h2⟩),hb⟩
def keepP (R:Nat→Prop) (w:World) (mb:Nat) (ml:List (Int×MsgB)) (key:Int) (m:MsgB) (e:Ending) (w':World):Prop:=
 e = .returned (.bool (getA key ml).isNone)∧(∃L',RawMap w' mb L'∧All2 (RMsg (fun k=>R k∨New w w' k) w') L' (keepA ml key m))∧Chg (fun k=>k=mb) w w'
theorem keepA_some {D L:Type} [Dg D] [Inhabited L] {l:List (Int×Msg D L)} {k:Int} {m x:Msg D L} (h:getA k l=some x):keepA l k m=l:=by unfold keepA;rw [h]
theorem keepA_none {D L:Type} [Dg D] [Inhabited L] {l:List (Int×Msg D L)} {k:Int} {m:Msg D L} (h:getA k l=none):keepA l k m=putA k m l:=by unfold keepA;rw [h]
theorem RMsg.both {R R':Nat→Prop} {w w':World} {e:Value×Value} {p:Int×MsgB} (h:RMsg R w e p) (hr:∀k,R k→R' k) (hk:∀g cur fr,R g→w.heap[g]?=some (.cells cur 9 fr)→w'.heap[g]?=w.heap[g]?):RMsg R' w' e p:=⟨h.1,(h.2.kept hk).mono hr⟩
theorem keep_any {R R0:Nat→Prop} {w:World} {mb:Nat} {L:List (Value×Value)} {ml:List (Int×MsgB)} {v:Value} {m:MsgB} (hM:RawMap w mb L) (hA:All2 (RMsg R w) L ml) (hm:MsgV R0 w v m) (h0:∀k,R0 k→k<w.heap.size) (hl:m.list.length≤1000) (key:Int) :
  Calls Tryz.prog 77 #[.map (some mb),iv key,v] w (keepP R w mb ml key m):=by
 obtain ⟨sl,rfl,ao,cap,rfl,hcap,hrow⟩:=hm;obtain ⟨b1,hb1⟩:∃b1,b1=w.heap.size:=⟨_,rfl⟩;have HB1:=Hd hb1;have HB0:=Hd ((Below.refl _ w).alloc (Nat.le_refl _) (.cells (encM m (.slice ao m.list.length cap)) 36));have HR0:=Hd (World.alloc_heap_new w (.cells (encM m (.slice ao m.list.length cap)) 36));have HL:=Hd (show LRow R0 w (.slice ao m.list.length cap) m.list from ⟨ao,cap,rfl,hcap,hrow⟩);have H0:=Hd h0;have HM:=Hd hM;have HA:=Hd hA;clear hrow hcap hb1 h0 hM hA;unfold encM iv at *;go_enter Tryz.func77,Tryz.ntmps77
 go_upto_region 1 with (fail)
 obtain ⟨wa,hwa⟩:∃wa,wa=w.alloc (.cells #[.int .i64 m.kind,.int .i64 m.frm,.int .i64 m.to,.int .i64 m.height,.int .i64 m.round,.int .i64 m.valid,.string m.dig,.slice ao m.list.length cap] 36):=⟨_,rfl⟩;rw [←HB1.out] at HR0 ⊢;rw [←hwa] at HB0 HR0 ⊢;clear hwa;have HMA:=Hd (HM.out.kept (HB0.out.block mb HM.out.lt));have HAA:=Hd (show All2 (RMsg R wa) L ml from HA.out.mono (fun a b q=>q.kept (fun g cur fr _ hg=>HB0.out.block g (gE hg).1)));rcases look_rel (r:=MsgV R wa) Tryz.underlying110 ⟨L,HMA.out,HAA.out⟩ (zMsg wa) key true with ⟨hg,hlk⟩ | ⟨m2,u,hg,hu,hlk⟩
 ·unfold zM iv at hlk;have HG:=Hd hg;clear hg;obtain ⟨zc,hzc⟩:∃zc,zc=Obj.cells #[.int .i64 0,.int .i64 0,.int .i64 0,.int .i64 0,.int .i64 0,.int .i64 0,.string (ByteArray.mk #[]),.slice none 0 0] 36:=⟨_,rfl⟩;obtain ⟨wb,hwb⟩:∃wb,wb=wa.alloc zc:=⟨_,rfl⟩;have HBB:=Hd (show Below w.heap.size w wb from by rw [hwb];exact HB0.out.alloc HB0.out.size _);have HBA:=Hd (show Below wa.heap.size wa wb from by rw [hwb];exact (Below.refl _ wa).alloc (Nat.le_refl _) _);have hb1l:b1<wa.heap.size:=(gE HR0.out).1;have HRB:=Hd ((HBA.out.block b1 hb1l).trans HR0.out);obtain ⟨c0,c1,c2,c3,c4,c5,c6,c7,fz⟩:=MRow.of HRB.out;have CL:=Hd (clone_any (HL.out.below H0.out HBB.out) hl);clear hb1l;go_upto_region 4 with (fail)
  rw [←hzc,←hwb];have HWB:=Hd hwb;clear hwb hzc;go_wp2_with fail
  refine CL.out.mono ?_;rintro e w3 ⟨v',rfl,hrow,hb⟩;obtain ⟨ao2,cap2,rfl,hcap2,hrow2⟩:=hrow;have HL3:=Hd (show LRow (New wb w3) w3 (.slice ao2 m.list.length cap2) m.list from ⟨ao2,cap2,rfl,hcap2,hrow2⟩);have HB3:=Hd hb;have HR3:=Hd ((hb.block b1 (gE HRB.out).1).trans HRB.out);clear c0 c1 c2 c3 c4 c5 c6 c7 fz hrow2 hcap2 hb;obtain ⟨c0,c1,c2,c3,c4,c5,c6,c7,fz⟩:=MRow.of HR3.out;have hk4:∀k,k≠b1→(w3.setCell ⟨b1,7,none⟩ (.slice ao2 m.list.length cap2)).heap[k]?=w3.heap[k]?:=fun k hk=>Below.heap_setCell w3 ⟨b1,7,none⟩ _ k hk;have hs4:(w3.setCell ⟨b1,7,none⟩ (.slice ao2 m.list.length cap2)).heap.size=w3.heap.size:=by simp [World.setCell]
  have hmb1:mb≠b1:=by have:=HM.out.lt;have:=HB1.out;omega
  have HM4:=Hd (show RawMap (w3.setCell ⟨b1,7,none⟩ (.slice ao2 m.list.length cap2)) mb L from (HMA.out.kept (((HBA.out.trans (HB3.out.mono HBA.out.size)).block mb HMA.out.lt))).kept (hk4 mb hmb1));have HK4:=Hd hk4;have HS4:=Hd hs4;have HN:=Hd hmb1;clear hk4 hs4 hmb1;go_wp2_with (refine wpList_mapUpdate_raw _ rfl (.tmp 20) (.tmp 21) (.tmp 22) 110 (by rfl) 3 36 Tryz.underlying110 keyI mb L (by rfl) HM4.out (good_rel (r:=MsgV R wa) _ HAA.out) (.int .i64 key) (.agg #[.int .i64 m.kind,.int .i64 m.frm,.int .i64 m.to,.int .i64 m.height,.int .i64 m.round,.int .i64 m.valid,.string m.dig,.slice ao2 m.list.length cap2]) (by rfl) (by rfl) ⟨key,rfl⟩ ?_;intro ob hob;have HO:=Hd hob;clear hob)
  go_ret;have hb2:wb.heap.size≤w3.heap.size:=HB3.out.size;have hwb:w.heap.size≤wb.heap.size:=HBB.out.size;have hsz:((w3.setCell ⟨b1,7,none⟩ (.slice ao2 m.list.length cap2)).putObj mb ob).heap.size=w3.heap.size:=by rw [←HS4.out];simp [World.putObj]
  have hblk:∀k,k≠b1→k≠mb→((w3.setCell ⟨b1,7,none⟩ (.slice ao2 m.list.length cap2)).putObj mb ob).heap[k]?=w3.heap[k]?:=fun k h1 h2=>(World.putObj_heap_other h2).trans (HK4.out k h1);have hold:∀k,k<w.heap.size→k≠mb→((w3.setCell ⟨b1,7,none⟩ (.slice ao2 m.list.length cap2)).putObj mb ob).heap[k]?=w.heap[k]?:=fun k h1 h2=>(hblk k (by have:=HB1.out;omega) h2).trans ((HB3.out.block k (Nat.lt_of_lt_of_le h1 hwb)).trans (HBB.out.block k h1));have hsl:∀(g:Nat) cur fr,w.heap[g]?=some (Obj.cells cur 9 fr)→((w3.setCell ⟨b1,7,none⟩ (.slice ao2 m.list.length cap2)).putObj mb ob).heap[g]?=w.heap[g]?:=fun g cur fr hg=>hold g (gE hg).1 (fun e=>by
   obtain ⟨es,c,h1,_⟩:=HM.out;rw [e,h1] at hg;cases hg)
  refine ⟨by rw [HG.out];rfl,⟨_,HO.out,?_⟩,?_⟩
  ·rw [keepA_none HG.out];refine putV_rel (r:=MsgV _ _) key ?_ (HA.out.mono (fun a b q=>q.both (fun k hk=>.inl hk) (fun g cur fr _ hg=>hsl g cur fr hg)));refine ⟨_,rfl,(HL3.out.kept (fun g cur fr hr hg=>hblk g (fun e=>?_) (fun e=>?_))).mono (fun k hk=>.inr ⟨Nat.le_trans hwb hk.1,by rw [hsz];exact hk.2⟩)⟩
   ·have h1:=hr.1;have:=HBB.out.size;have h2:b1<wb.heap.size:=(gE HRB.out).1;omega
   have h1:=hr.1;have:=HM.out.lt;omega
  exact ⟨HB3.out.os.trans HBB.out.os,HB3.out.tape.trans HBB.out.tape,HB3.out.output.trans HBB.out.output,by rw [hsz];omega,fun k h1 h2=>hold k h1 h2⟩
 obtain ⟨sl2,rfl,ao2,cap2,rfl,hcap2,hrow2⟩:=hu;unfold encM iv at hlk;have HG:=Hd hg;clear hg hcap2 hrow2;go_wp2
 go_ret;refine ⟨by rw [HG.out];rfl,⟨L,?_,?_⟩,?_⟩
 ·exact HMA.out.kept (((Below.refl _ wa).alloc (Nat.le_refl _) _).block mb HMA.out.lt)
 ·rw [keepA_some HG.out];exact HAA.out.mono (fun a b q=>q.both (fun k hk=>.inl hk) (fun g cur fr _ hg=>((Below.refl _ wa).alloc (Nat.le_refl _) _).block g (gE hg).1))
 exact Chg.of_below (HB0.out.alloc HB0.out.size _) (fun k h1 h2=>by omega)
end
end Go.Proofs.YtifcdjmcoibblaaGreatDoor
