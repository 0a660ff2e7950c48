/- NVal -/
import Derived.Test.YtifcdjmcoibblaaGreatDoorFq11
import Derived.Test.YtifcdjmcoibblaaGreatDoorFq23
import Derived.Test.YtifcdjmcoibblaaGreatDoorFq01
set_option linter.unusedVariables false
set_option linter.unusedSimpArgs false
set_option linter.unusedSectionVars false
set_option maxRecDepth 100000
set_option maxHeartbeats 80000000
namespace Go.Proofs.YtifcdjmcoibblaaGreatDoor
section
open Go.RowKit
def digV (l:List ByteArray):ByteArray:=strB (shaW (bytesN (if ascS l then valS l else ByteArray.empty)))
theorem digV_asc {l:List ByteArray} (h:ascS l=true):digV l=digS l:=by unfold digV digS;rw [if_pos h]
theorem newValue_any {R:Nat→Prop} {w:World} {v:Value} {l:List ByteArray} (h:LRow R w v l) (hlt:∀k,R k→k<w.heap.size) (hl:l.length≤60) (hG:Glob w) (round:Int) :
  Calls Tryz.prog 62 #[iv round,v] w fun e w'=>∃u,e = .returned (.tuple #[.agg #[iv round,.string (digV l),u],.bool (ascS l)])∧LRow (New w w') w' u l∧Below w.heap.size w w':=by
 obtain ⟨ao,cap,rfl,hcap,hrow⟩:=h.row;have HG:=Hd hG;have VA:=Hd (fun W (hW:Below w.heap.size w W)=>value_any ao l.length cap l W rfl hl hcap (hrow.later hW));have SU:=Hd (fun W (hW:Below w.heap.size w W)=>sum_any (if ascS l then valS l else ByteArray.empty) W (by
  split
  ·rename_i q;exact Nat.le_trans (valS_size q hl) (by decide)
  exact Nat.zero_le _) (hG.later hW))
 have CL:=Hd (fun W (hW:Below w.heap.size w W)=>clone_any (h.below hlt hW) (by omega));obtain ⟨sv,hsv⟩:∃sv,sv=(if ascS l then valS l else ByteArray.empty):=⟨_,rfl⟩;have HD:=Hd (show digV l=strB (shaW (bytesN sv)) from by rw [hsv];rfl);rw [←hsv] at VA SU;have HE:=Hd (show (errS (ascS l) == 0)=ascS l from by cases ascS l <;> rfl);clear hsv h hcap hrow hG;obtain ⟨er,her⟩:∃er,er=errS (ascS l):=⟨_,rfl⟩;rw [←her] at HE VA;clear her;have HB0:=Hd ((Below.refl _ w).alloc (Nat.le_refl _) (.cells #[.int .i64 0,.string (ByteArray.mk #[]),.slice none 0 0] 120));have HR0:=Hd (World.alloc_heap_new w (.cells #[.int .i64 0,.string (ByteArray.mk #[]),.slice none 0 0] 120));unfold iv;go_enter Tryz.func62,Tryz.ntmps62
 go_upto_region 1 with (fail)
 obtain ⟨wa,hwa⟩:∃wa,wa=w.alloc (.cells #[.int .i64 0,.string (ByteArray.mk #[]),.slice none 0 0] 120):=⟨_,rfl⟩;rw [←hwa] at HB0 HR0 ⊢;obtain ⟨vb,hvb⟩:∃vb,vb=w.heap.size:=⟨_,rfl⟩;rw [←hvb] at HR0 ⊢;have HVB:=Hd hvb;clear hwa hvb;go_upto_region 2 with (go_at_call 57;refine (VA.out _ HB0.out).mono ?_;rintro e w1 ⟨rfl,hb⟩;have HB1:=Hd hb;clear hb)
 have B1:=Hd (HB0.out.trans (HB1.out.mono HB0.out.size));have hvl:vb<wa.heap.size:=(gE HR0.out).1;have R1:=Hd ((HB1.out.block vb hvl).trans HR0.out);clear hvl;have S1:=Hd (SU.out _ B1.out);have C1:=Hd (fun W (hW:Below w.heap.size w W)=>CL.out W hW);have KV:=Hd (show ∀W,Below w1.heap.size w1 W→W.heap[vb]?=some (.cells #[.int .i64 0,.string (ByteArray.mk #[]),.slice none 0 0] 120 (0,0)) from fun W hW=>(hW.block vb (gE R1.out).1).trans R1.out);rw [←HD.out] at S1;obtain ⟨dv,hdv⟩:∃dv,dv=digV l:=⟨_,rfl⟩;have HDV:=Hd hdv;rw [←hdv] at S1;clear hdv;go_upto_region 2 with (fail)
 go_wp2_with (first
  | (go_at_call 72;refine S1.out.mono ?_;rintro e w2 ⟨rfl,hb⟩;have HB2:=Hd hb;clear hb)
  | (go_at_call 67;refine (C1.out _ (B1.out.trans (HB2.out.mono B1.out.size))).mono ?_;rintro e w3 ⟨u,rfl,hrow,hb⟩;obtain ⟨ao3,cap3,rfl,hcap3,hrw3⟩:=hrow;have HL3:=Hd (show LRow (New w2 w3) w3 (.slice ao3 l.length cap3) l from ⟨ao3,cap3,rfl,hcap3,hrw3⟩);have HB3:=Hd hb;clear hb hcap3 hrw3;have hvb3:=KV.out _ (HB2.out.trans (HB3.out.mono HB2.out.size));have v0:=cell_of_row w3 vb 0 _ _ _ hvb3;have v1:=cell_of_row w3 vb 1 _ _ _ hvb3;have v2:=cell_of_row w3 vb 2 _ _ _ hvb3;have vf0:=frozen_of_row w3 vb 0 _ _ hvb3;have vf1:=frozen_of_row w3 vb 1 _ _ hvb3;have vf2:=frozen_of_row w3 vb 2 _ _ hvb3;have HV3:=Hd hvb3;clear hvb3;simp at v0 v1 v2))
 have B3:=Hd (B1.out.trans ((HB2.out.trans (HB3.out.mono HB2.out.size)).mono B1.out.size));have hvw:w.heap.size≤vb:=by rw [HVB.out];exact Nat.le_refl _
 refine bodyPost_ret (results_row_tmp rfl _ _ vb _ _ _ _ rfl (set3 HV3.out) Tryz.underlying120 rfl (by kernel_rfl)) rfl ⟨.slice ao3 l.length cap3,by rw [←HDV.out,←HE.out];rfl,?_,below3 B3.out hvw _ _ _⟩;have hvl1:vb<w1.heap.size:=(gE R1.out).1;have s1:=HB1.out.size;have s2:=HB2.out.size;have s0:=HB0.out.size;refine (HL3.out.kept (fun g cur fr hr hc=>?_)).mono (fun k hk=>⟨by have:=hk.1;omega,by have:=hk.2;simpa [World.setCell] using this⟩);have h1:=hr.1;have hg:g≠vb:=by omega
 rw [Below.heap_setCell _ ⟨vb,2,none⟩ _ g hg,Below.heap_setCell _ ⟨vb,1,none⟩ _ g hg,Below.heap_setCell _ ⟨vb,0,none⟩ _ g hg]
end
end Go.Proofs.YtifcdjmcoibblaaGreatDoor
