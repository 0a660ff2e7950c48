/- Kys Srk Out Psh -/
import Derived.Test.YtifcdjmcoibblaaGreatDoorLq14
import Derived.Test.YtifcdjmcoibblaaGreatDoorLq28
import Derived.Test.YtifcdjmcoibblaaGreatDoorLq08
import Derived.Test.YtifcdjmcoibblaaGreatDoorLq01
import Derived.Test.YtifcdjmcoibblaaGreatDoorLq15
import Derived.Sort.OwnSortedInts
import Derived.Test.YtifcdjmcoibblaaGreatDoorLq23
import Derived.Test.YtifcdjmcoibblaaGreatDoorLq22
set_option linter.unusedVariables false
set_option linter.unusedSimpArgs false
set_option linter.unusedSectionVars false
set_option maxRecDepth 100000
set_option maxHeartbeats 80000000
namespace Go.Proofs.YtifcdjmcoibblaaGreatDoor
section
open Go.RowKit
attribute [local go_sem] Oper.semAt_some
def encKI (k:Int):Array Value:=#[.int .i64 k]
theorem lt_of_blk {w:World} {b:Nat} {o:Obj} (h:w.heap[b]?=some o):b<w.heap.size:=(gE h).1
def PartK (l:List (Int×(Int×Int))) (pre:List Int) (left:List (Value×Value)):Prop:=
 ∃lf:List (Int×(Int×Int)),left=lf.map encSt∧(pre ++ lf.map (·.1)).Perm (l.map (·.1))
theorem PartK.step {l:List (Int×(Int×Int))} {pre:List Int} {left p post:List (Value×Value)} {k v:Value} (h:PartK l pre left) (hl:left=p ++ (k,v) :: post) :
  ∃i a b,k = .int .i64 i∧v = .agg #[.int .i64 a,.int .i64 b]∧i∈l.map (·.1)∧pre.length<l.length∧PartK l (pre ++ [i]) (p ++ post):=by
 obtain ⟨lf,rfl,hp⟩:=h;obtain ⟨lp,⟨i,a,b⟩,lq,rfl,e2,rfl,rfl⟩:=map_split hl;cases e2;have hm:i∈l.map (·.1):=hp.mem_iff.1 (by simp);refine ⟨i,a,b,rfl,rfl,hm,by have:=hp.length_eq;simp at this;omega,lp ++ lq,by rw [List.map_append],?_⟩;refine List.Perm.trans ?_ hp;rw [List.append_assoc];refine List.Perm.append_left _ ?_;simpa using (List.perm_middle (a:=i) (l₁:=lp.map (·.1)) (l₂:=lq.map (·.1))).symm
theorem PartK.fin {l:List (Int×(Int×Int))} {pre:List Int} (h:PartK l pre []):pre.Perm (l.map (·.1)):=by
 obtain ⟨lf,e,hp⟩:=h;have:lf = []:=by simpa using e.symm
 subst this;simpa using hp
theorem qkeys_any (M:Nat) (w:World) :
  Calls Tryz.prog 110 #[.map (some M)] w fun e w'=>e = .returned (.func (.func 166) #[] #[.pointer (some ⟨w.heap.size,0,none⟩)])∧w'=w.alloc (.cells #[.map (some M)] 106):=by
 go_enter Tryz.func110,Tryz.ntmps110
 go_wp2
 go_ret;exact ⟨rfl,rfl⟩
theorem qkeys_seq {w:World} {M:Nat} {l:List (Int×(Int×Int))} (n:Nat) (h:RawMap w M (l.map encSt)) (bx:Nat) (hbx:w.cell? ⟨bx,0,none⟩=some (.map (some M))) :
  SeqOwn n Tryz.prog 166 #[.pointer (some ⟨bx,0,none⟩)] encKI (fun pre x=>x∈l.map (·.1)∧pre.length<l.length) (fun k=>k=M) (fun xs=>xs.Perm (l.map (·.1))) w:=by
 intro lp J O W hW hO hJ hY h0;obtain ⟨L,hLL⟩:∃L,L=l.map encSt:=⟨_,rfl⟩;have HP:=Hd (show PartK l [] L from ⟨l,hLL,by simp⟩);rw [←hLL] at h;have hL:RawMap W M L:=h.kept (hW.block M h.lt);have hbc:W.cell? ⟨bx,0,none⟩=some (.map (some M)):=by rw [hW.cell (p:=⟨bx,0,none⟩) (World.block_lt_of_cell? _ _ hbx)];exact hbx
 have HJ:=Hd hJ;have HY:=Hd hY;have HL:=Hd hL;have HOM:=Hd (show ¬O M from fun q=>(hO M q).2 rfl);have HOB:=Hd (show ¬O W.heap.size from fun q=>by have:=(hO _ q).1;have:=hW.size;omega);have H0:=Hd h0;have HMS:=Hd (show M<W.heap.size from hL.lt);clear hJ hY hLL hL hbx hO h0 hW h;refine callsIn_of_wp Tryz.func166 rfl trivial ?_ rfl;simp only [Tryz.ntmps166,List.size_toArray,List.length_cons,List.length_nil,Nat.reduceAdd,Nat.reduceSub,Array.replicate_succ,Array.replicate_zero,List.push_toArray,List.append_toArray,List.nil_append,List.cons_append];gi_wp2_with (gi_at_range;refine wpListIn_range_raw _ rfl _ 106 (by rfl) 3 165 Tryz.underlying106 M L (by rfl) HL.out ?_;intro ob hob;have RG0:=Hd hob;have JJ0:=Hd (HJ.out _ _ _ _ _ H0.out (Chg.alloc (fun _=>False) W ob) (fun k h=>h.elim));clear hob)
 obtain ⟨it,hit⟩:∃it,W.heap.size=it:=⟨_,rfl⟩;rw [hit] at RG0 HOB ⊢;have HIT:=Hd hit;clear hit;try go_frame
 gi_loopw [] (fun wr=>∃(pre:List Int) (left:List (Value×Value)) (O1:Nat→Prop),J pre O1 wr∧RawRange wr M it L left∧PartK l pre left∧¬O1 M∧¬O1 it) (fun wr=>wr.rangeLeft M it)
 case atStart=>exact ⟨[],L,O,JJ0.out,RG0.out,HP.out,HOM.out,HOB.out⟩
 case round=>
  obtain ⟨pre,left,O1,hj,hrg,hpt,hom,hoi⟩:=hrel;have JJ:=Hd hj;have RG:=Hd hrg;have LEN:=Hd hrg.left_len;have PT:=Hd hpt;have OM:=Hd hom;have OI:=Hd hoi;clear hj hrg hpt hom hoi;gi_wp2_with (gi_at_next;refine wpListIn_next_raw _ rfl _ (by rfl) M it L left (by rfl) RG.out ?_ ?_)
  ·intro hl;subst hl;gi_wp2
   go_end0
   exact ⟨⟨_,rfl⟩,_,_,PT.out.fin,JJ.out⟩
  intro k x p post w2 hl hm hr2 hg2 hs2 hen2;obtain ⟨i,qa,qb,rfl,rfl,he,hpl,hpt2⟩:=PT.out.step hl;have HLL:=Hd hl;have PT2:=Hd hpt2;have RG2:=Hd hr2;have J2:=Hd (HJ.out _ _ _ _ _ JJ.out (Chg.grown (C:=fun k=>k=it) hg2 (fun k e=>by cases e;rfl)) (fun k hk=>by subst hk;exact ⟨by rw [HIT.out];exact Nat.le_refl _,OI.out⟩));obtain ⟨fn,tmps,assign,body,hy,hR⟩:=HY.out _ _ _ _ ⟨he,hpl⟩ J2.out;dsimp only [encKI] at hy;have HRD:=Hd hR;clear hl hm hr2 hg2 hs2 hpt2 hR;gi_wp2
  refine ⟨fun h=>absurd h (by simp [Fence.wide]),HRD.out.mono ?_⟩;rintro e3 W3 ⟨rfl,O2,hj3,hc3,ho3⟩;have RR:=Hd (show RawRange W3 M it L (p ++ post)∧¬O2 M∧¬O2 it from ⟨RG2.out.kept (hc3.block _ RG2.out.map.lt OM.out) (hc3.block _ (by obtain ⟨_,_,_,_,_,_,_,_,_,q,_⟩:=RG2.out;exact lt_of_blk q) OI.out),(fun q=>by rcases ho3 _ q with q | q;exact OM.out q;have:=RG2.out.map.lt;omega),(fun q=>by rcases ho3 _ q with q | q;exact OI.out q;obtain ⟨_,_,_,_,_,_,_,_,_,q2,_⟩:=RG2.out;have:=lt_of_blk q2;omega)⟩);have J3:=Hd hj3;clear hj3 hc3 ho3;gi_wp2
  go_roundw
  case rel=>exact ⟨_,_,O2,J3.out,RR.out.1,PT2.out,RR.out.2.1,RR.out.2.2⟩
  case measure=>rw [RR.out.1.left_len,LEN.out,HLL.out];simp
end
section
open Go.RowKit Go.Sort Go.Lib
attribute [local go_sem] Oper.semAt_some
def encI1 (k:Int):List Value:=[.int .i64 k]
theorem encI1_len (x:Int):(encI1 x).length=1:=rfl
theorem encI1_one (x:Int):∀u∈encI1 x,u.oneCell'=true:=by intro u hu;simp [encI1] at hu;subst hu;rfl
theorem flat_I1 (l:List Int):l.flatMap encI1=l.map (Value.int .i64):=by
 induction l with
 | nil=>rfl
 | cons a l ih=>rw [List.flatMap_cons,ih];rfl
theorem Tryz.infoI1:(Tryz.prog.info? 3).map (fun i=>(i.zero,i.size,i.bytes))=some (some (.int .i64 0),1,8):=by kernel_rfl
theorem merge_sortI {l l':List Int} (hp:l.Perm l'):(l.mergeSort fun x y=>decide (x≤y))=sortI l':=by
 have hs:∀(a:Int) (m:List Int),m.Pairwise (·≤·)→(insI a m).Pairwise (·≤·)∧(insI a m).Perm (a :: m):=by
  intro a m;induction m with
  | nil=>intro _;simp [insI]
  | cons b m ih=>
   intro hm;unfold insI;by_cases hab:a≤b
   ·simp only [hab,if_true];exact ⟨List.pairwise_cons.2 ⟨fun y hy=>by rcases List.mem_cons.1 hy with rfl | hy;exact hab;exact Int.le_trans hab ((List.pairwise_cons.1 hm).1 y hy),hm⟩,List.Perm.refl _⟩
   simp only [hab,if_false];obtain ⟨h1,h2⟩:=ih (List.pairwise_cons.1 hm).2;refine ⟨List.pairwise_cons.2 ⟨fun y hy=>?_,h1⟩,(List.Perm.cons b h2).trans (List.Perm.swap _ _ _)⟩;rcases List.mem_cons.1 (h2.mem_iff.1 hy) with rfl | hy
   ·omega
   exact (List.pairwise_cons.1 hm).1 y hy
 have h2:(sortI l').Pairwise (·≤·)∧(sortI l').Perm l':=by
  unfold sortI;clear hp;induction l' with
  | nil=>simp
  | cons a m ih=>exact ⟨(hs a _ ih.1).1,(hs a _ ih.1).2.trans (List.Perm.cons a ih.2)⟩
 refine List.Perm.eq_of_pairwise (le:=(·≤·)) (fun a b _ _ h1 h2=>Int.le_antisymm h1 h2) ?_ h2.1 ?_
 ·have:=List.pairwise_mergeSort (le:=fun x y:Int=>decide (x≤y)) (fun a b c h1 h2=>by
   rw [decide_eq_true_eq] at *;exact Int.le_trans h1 h2) (fun a b=>by
   rw [Bool.or_eq_true,decide_eq_true_eq,decide_eq_true_eq];exact Int.le_total a b) l
  exact this.imp (by intro a b h;rwa [decide_eq_true_eq] at h)
 exact (List.mergeSort_perm _ _).trans (hp.trans h2.2.symm)
theorem appseq_any (n bx M:Nat) (l:List (Int×(Int×Int))) (w:World) (hn:l.length≤1000) (hm:RawMap w M (l.map encSt)) (hb:w.cell? ⟨bx,0,none⟩=some (.map (some M))) :
  CallsIn Fence.wide n Tryz.prog 184 #[.slice none 0 0,.func (.func 166) #[] #[.pointer (some ⟨bx,0,none⟩)]] w fun e w'=>∃(v:Value) (xs:List Int),e = .returned v∧xs.Perm (l.map (·.1))∧w'.ownsRow w.heap.size 3 1 v xs.length (xs.flatMap encI1)∧Below w.heap.size w w':=by
 obtain ⟨i0,hi,hz0,hz1,hz2⟩:=info_parts Tryz.infoI1;have HR:=Hd hm;clear hm;refine callsIn_of_wp_marks Tryz.func184 rfl trivial ?_ rfl;simp only [Tryz.ntmps184,List.size_toArray,List.length_cons,List.length_nil,Nat.reduceAdd,Nat.reduceSub,Array.replicate_succ,Array.replicate_zero,List.push_toArray,List.append_toArray,List.nil_append,List.cons_append];gi_wp2
 obtain ⟨W2,hW2⟩:∃W2,w.alloc (.cells #[.slice none 0 0] 47)=W2:=⟨_,rfl⟩;have hs2:W2.heap.size=w.heap.size+1:=by rw [←hW2];simp
 have B2:=Hd (show Below w.heap.size w W2 by rw [←hW2];exact (Below.refl _ w).alloc (Nat.le_refl _) _);have BX:=Hd (show Boxed W2 w.heap.size 47 (.slice none 0 0) by rw [←hW2];exact Boxed.new w _ _);have BM:=Hd (show W2.cell? ⟨bx,0,none⟩=some (.map (some M)) by rw [←hW2];exact cell_up hb _);have RM:=Hd (show RawMap W2 M (l.map encSt) from HR.out.kept (B2.out.block M HR.out.lt));rw [hW2];have HS2:=Hd hs2;clear hW2 hs2;refine wpIn_range_own (gf:=166) (lb:=#[.pointer (some ⟨bx,0,none⟩)]) rfl (enters_of Tryz.func166 (by kernel_rfl) rfl)
  (qkeys_seq _ RM.out bx BM.out) (fun _=>rfl)
  (fun pre O W=>∃v,BoxRow w W w.heap.size 47 3 1 pre.length v (pre.flatMap encI1) O) (fun k=>k=w.heap.size∨(Value.slice none 0 0).ownBlock=some k) ?hO0 ?hI ?h0
  (fun pre x a' O W=>a' = {tmps:=#[.slice none 0 0,.func (.func 166) #[] #[.pointer (some ⟨bx,0,none⟩)],.pointer (some ⟨w.heap.size,0,none⟩),undef,.slice none 0 0,.int .i64 x,.func (.func 166) #[] #[.pointer (some ⟨bx,0,none⟩)],.int .i64 x,undef,undef,undef,undef,undef],defers:=[]} ∧
   ∃v,BoxRow w W w.heap.size 47 3 1 pre.length v (pre.flatMap encI1) O) ?hM ?assign ?body ?done
 case hO0=>
  intro k hk;rcases hk with rfl | hk
  ·exact ⟨by have:=HS2.out;omega,fun h=>by have:=HR.out.lt;omega⟩
  simp [Value.ownBlock] at hk
 case hI=>rintro s O A A' C ⟨v,h⟩ hc hC;exact ⟨v,h.chg hc (fun k hk=>⟨by have:=(hC k hk).1;have:=HS2.out;omega,(hC k hk).2⟩)⟩
 case h0=>exact ⟨_,fun k=>Iff.rfl,BX.out,World.ownsRow_nil _ _ _ _,B2.out,Nat.le_refl _⟩
 case hM=>rintro s x a' O A A' C ⟨e,v,h⟩ hc hC;exact ⟨e,v,h.chg hc (fun k hk=>⟨by have:=(hC k hk).1;have:=HS2.out;omega,(hC k hk).2⟩)⟩
 case assign=>
  intro l' pre x O W K hx hi hK;dsimp only [encKI];gi_wp2
  exact hK _ O W ⟨rfl,hi⟩ (Chg.refl _ _) (fun k h=>.inl h)
 case body=>
  rintro l' pre x a' O W hx ⟨rfl,v,hbr⟩;have BR:=Hd hbr;have hcell:=hbr.box.cell;have hpl:pre.length≤1000:=by
   have:=hx.2;omega
  clear hbr hx;gi_wp2_with (first
   | (gi_at_builtin;refine wpListIn_append_own_at _ rfl _ _ 47 rfl w.heap.size 3 i0 (.int .i64 0) 1 8 Tryz.underlying47 hi hz0 hz1 hz2 rfl (by decide) _ _ _ rfl (BR.out.row.alloc _) ⟨W.heap.size,0,none⟩ 1 1 (encI1 x) rfl rfl (cells_at _ _ _ _ rfl) (encI1_one _) (by unfold maxLen;omega) (by omega) (by have:=BR.out.bel.size;simp;omega) ?_;intro v' w1 own gr hnil hloc;obtain ⟨g',cap',rfl⟩:=ownsRow_succ own;obtain ⟨hv1,hap⟩:=BR.out.appended (by decide) own gr hloc;have AP:=Hd hap;have hc1:=hv1.cell;have hf1:=hv1.frozen;clear own gr hnil hloc hap hv1)
   | gi_in)
  obtain ⟨O',h1,h2,h3⟩:=AP.out;exact ⟨O',⟨_,by rw [flat_snoc,List.length_append];exact h1⟩,h2,h3⟩
 case done=>
  rintro D xs O W hD hnD hxs ⟨v,hbr⟩ hK;have HXS:=Hd hxs;have hcell:=hbr.box.cell;have BR:=Hd hbr;obtain ⟨ao,cap,hv,h1,h2⟩:=rowK_of_owns encI1_len (by decide) hbr.row;subst hv;clear hbr hxs;gi_wp2
  refine ⟨by simp,.inl ⟨_,_,rfl,run_takeDeferred hK,?_⟩⟩;have hB:=BR.out.chg (Chg.put W D (.deferred none) (C:=fun k=>k=D) rfl) (fun k hk=>by subst hk;exact ⟨by have:=HS2.out;omega,hnD⟩);exact ⟨_,results_tmp rfl _ _ _,.slice ao xs.length cap,xs,rfl,HXS.out,hB.row,hB.bel⟩
theorem collect_any (n bx M:Nat) (l:List (Int×(Int×Int))) (w:World) (hn:l.length≤1000) (hm:RawMap w M (l.map encSt)) (hb:w.cell? ⟨bx,0,none⟩=some (.map (some M))) :
  CallsIn Fence.wide n Tryz.prog 138 #[.func (.func 166) #[] #[.pointer (some ⟨bx,0,none⟩)]] w fun e w'=>∃(v:Value) (xs:List Int),e = .returned v∧xs.Perm (l.map (·.1))∧w'.ownsRow w.heap.size 3 1 v xs.length (xs.flatMap encI1)∧Below w.heap.size w w':=by
 have AS:=Hd (fun m=>appseq_any m bx M l w hn hm hb);clear hm hb;refine callsIn_of_wp Tryz.func138 rfl trivial ?_ rfl;simp only [Tryz.ntmps138,List.size_toArray,List.length_cons,List.length_nil,Nat.reduceAdd,Nat.reduceSub,Array.replicate_succ,Array.replicate_zero,List.push_toArray,List.append_toArray,List.nil_append,List.cons_append];gi_wp2
 refine ⟨trivial,fun h=>absurd h (by simp [Fence.wide]),(AS.out _).mono ?_⟩;rintro e W2 ⟨v,xs,rfl,hpm,h2⟩;have PM:=Hd hpm;have H2:=Hd h2;obtain ⟨ao2,cap2,rfl,_,_⟩:=rowK_of_owns encI1_len (by decide) h2.1;clear h2 hpm;gi_wp2
 go_ret;exact ⟨_,_,rfl,PM.out,H2.out⟩
theorem sorted_any (n bx M:Nat) (l:List (Int×(Int×Int))) (w:World) (hn:l.length≤1000) (hm:RawMap w M (l.map encSt)) (hb:w.cell? ⟨bx,0,none⟩=some (.map (some M))) :
  CallsIn Fence.wide n Tryz.prog 83 #[.func (.func 166) #[] #[.pointer (some ⟨bx,0,none⟩)]] w fun e w'=>∃v,e = .returned v∧w'.ownsRow w.heap.size 3 1 v l.length ((sortI (l.map (·.1))).map (Value.int .i64))∧Below w.heap.size w w':=by
 have CO:=Hd (fun m=>collect_any m bx M l w hn hm hb);clear hm hb;refine callsIn_of_wp Tryz.func83 rfl trivial ?_ rfl;simp only [Tryz.ntmps83,List.size_toArray,List.length_cons,List.length_nil,Nat.reduceAdd,Nat.reduceSub,Array.replicate_succ,Array.replicate_zero,List.push_toArray,List.append_toArray,List.nil_append,List.cons_append];gi_wp2
 refine ⟨trivial,fun h=>absurd h (by simp [Fence.wide]),(CO.out _).mono ?_⟩;rintro e W2 ⟨v,xs,rfl,hpm,hrow,hbl⟩;have hxl:xs.length=l.length:=by have:=hpm.length_eq;simpa using this
 have hsl:=merge_sortI hpm;rw [flat_I1] at hrow;rcases hrow.2 with ⟨rfl,hz⟩ | ⟨gb,cp,cur,rfl,hbase,hgb,r1,r2,r3,r4⟩
 ·have hx:xs = []:=List.eq_nil_of_length_eq_zero hz;subst hx;have hl0:l = []:=List.eq_nil_of_length_eq_zero (by simpa using hxl.symm);subst hl0;have HB:=Hd hbl;clear hrow hbl hpm hxl hsl;gi_wp2
  refine wide_call (Tryz.slices_Sort_int_none none 0 W2) ?_;rintro e w' ⟨rfl,rfl⟩;gi_wp2
  go_ret;exact ⟨_,rfl,by simpa [sortI] using World.ownsRow_nil w' w.heap.size 3 1,HB.out⟩
 have hr4:cur.toList.take xs.length=xs.map (Value.int .i64):=by simpa using r4
 have hH:Holds (Value.int .i64) W2 gb 0 xs.toArray:=holds_of_blockI hgb hr4;have hcall:=Tryz.slices_Sort_int gb 0 cp xs W2 hH (lt_of_blk hgb) (by omega);rw [hsl,hxl] at hcall;have CA:=Hd hcall;have FIN:=Hd (show ∀m os,(grow (putRow (Value.int .i64) (Sort.ahead W2 m) gb 0 (sortI (l.map (·.1))).toArray) os).ownsRow w.heap.size 3 1 (.slice (some ⟨gb,0,none⟩) l.length cp) l.length ((sortI (l.map (·.1))).map (Value.int .i64))∧Below w.heap.size w (grow (putRow (Value.int .i64) (Sort.ahead W2 m) gb 0 (sortI (l.map (·.1))).toArray) os) from fun m os=>by
  have h1:=ownsRow_sortedI (os:=os) (n:=m) (ts:=sortI (l.map (·.1))) (ss:=xs) (by rw [←hsl,List.length_mergeSort]) hbase hgb r1 r2 r3;rw [hxl] at h1;exact ⟨h1,hbl.grown (grownBy_sortedI _) hbl.size (fun j hj=>by cases hj;exact hbase)⟩)
 rw [hxl];clear hrow hbl hH hcall hr4 hgb r1 r2 r3 r4 hpm hxl hsl;gi_wp2
 refine wide_call CA.out ?_;rintro e w' ⟨rfl,m,os,rfl⟩;have F2:=Hd (FIN.out m os);gi_wp2
 go_ret;exact ⟨_,rfl,F2.out⟩
end
section
open Go.RowKit
def flatM (sls:List Value) (ms:List MsgB):List Value:=(sls.zip ms).flatMap fun q=>(encM q.2 q.1).toList
def NewZ (Z:Nat→Prop) (w W:World) (k:Nat):Prop:=New w W k∧¬Z k
def OutR (Z:Nat→Prop) (w W:World) (v:Value) (ms:List MsgB):Prop:=
 ∃sls,All2 (fun sl m=>LRow (NewZ Z w W) W sl m.list) sls ms∧W.ownsRow w.heap.size 36 8 v ms.length (flatM sls ms)∧∀g,v.ownBlock=some g→¬Z g
structure Kp (W W':World):Prop where
 size:W.heap.size≤W'.heap.size
 block:∀(k:Nat) (o:Obj),W.heap[k]?=some o→(∀cur fr,o≠Obj.cells cur 36 fr)→W'.heap[k]?=some o
theorem Kp.refl (W:World):Kp W W:=⟨Nat.le_refl _,fun _ _ h _=>h⟩
theorem Kp.trans {X Y Z:World} (h:Kp X Y) (h2:Kp Y Z):Kp X Z:=⟨Nat.le_trans h.size h2.size,fun k o hk ho=>h2.block k o (h.block k o hk ho) ho⟩
theorem Kp.of_below {W W':World} (h:Below W.heap.size W W'):Kp W W':=⟨h.size,fun k o hk _=>(h.block k (gE hk).1).trans hk⟩
theorem flatM_app {a c:List Value} {b d:List MsgB} (h:a.length=b.length):flatM (a ++ c) (b ++ d)=flatM a b ++ flatM c d:=by
 unfold flatM;rw [List.zip_append h,List.flatMap_append]
theorem All2.app {α β:Type} {r:α→β→Prop} {l l2:List α} {m m2:List β} (h:All2 r l m) (h2:All2 r l2 m2):All2 r (l ++ l2) (m ++ m2):=by
 induction h with
 | nil=>exact h2
 | cons h1 _ ih=>exact .cons h1 ih
theorem OutR.nil (Z:Nat→Prop) (w W:World):OutR Z w W (.slice none 0 0) []:=⟨[],.nil,World.ownsRow_nil _ _ _ _,fun g hg=>by simp [Value.ownBlock] at hg⟩
theorem row_mem {W:World} {b:Nat} {v:Value} {n:Nat} {xs:List Value} (h:W.ownsRow b 36 8 v n xs) (g:Nat) (hg:v.ownBlock=some g):b≤g∧∃cur,W.heap[g]?=some (.cells cur 36 (0,0)):=by
 rcases h.2 with ⟨rfl,_⟩ | ⟨g0,cap,cur,rfl,h1,h2,_⟩
 ·simp [Value.ownBlock] at hg
 have:g0=g:=by simpa [Value.ownBlock] using hg
 subst this;exact ⟨h1,cur,h2⟩
theorem OutR.kept {Z:Nat→Prop} {w W W':World} {v:Value} {ms:List MsgB} (h:OutR Z w W v ms) (hs:W.heap.size≤W'.heap.size) (hk:∀k,w.heap.size≤k→k<W.heap.size→¬Z k→W'.heap[k]?=W.heap[k]?):OutR Z w W' v ms:=by
 obtain ⟨sls,h1,h2,h3⟩:=h;refine ⟨sls,h1.mono (fun a b q=>(q.kept (fun g cur fr hr hc=>hk g hr.1.1 hr.1.2 hr.2)).mono (fun k hk=>⟨⟨hk.1.1,Nat.lt_of_lt_of_le hk.1.2 hs⟩,hk.2⟩)),owns_blk h2 (fun g cur hg hc=>?_),h3⟩;exact hk g (row_mem h2 g hg).1 (gE hc).1 (h3 g hg)
theorem OutR.later {Z:Nat→Prop} {w W W':World} {v:Value} {ms:List MsgB} (h:OutR Z w W v ms) (hb:Below W.heap.size W W'):OutR Z w W' v ms:=h.kept hb.size (fun k _ hk _=>hb.block k hk)
theorem OutR.other {Z Z':Nat→Prop} {w W:World} {v:Value} {ms:List MsgB} (h:OutR Z w W v ms) (hz:∀k,Z' k→w.heap.size≤k→k<W.heap.size→Z k):OutR Z' w W v ms:=by
 obtain ⟨sls,h1,h2,h3⟩:=h;refine ⟨sls,h1.mono (fun a b q=>q.mono (fun k hk=>⟨hk.1,fun z=>hk.2 (hz k z hk.1.1 hk.1.2)⟩)),h2,fun g hg z=>?_⟩;obtain ⟨a,cur,b⟩:=row_mem h2 g hg;exact h3 g hg (hz g z a (gE b).1)
theorem out_push {Z:Nat→Prop} {w W W2 w7:World} {v v2:Value} {sls sl2 XS news:List Value} {ms nw:List MsgB} {n:Nat} (hA1:All2 (fun sl m=>LRow (NewZ Z w W) W sl m.list) sls ms)
  (ho:W.ownsRow w.heap.size 36 8 v ms.length XS) (hz:∀g,v.ownBlock=some g→¬Z g) (hb:Below W.heap.size W W2) (hw:Below w.heap.size w W) (hzW:∀k,Z k→k<W2.heap.size)
  (hA2:All2 (fun sl m=>LRow (NewZ Z w W2) W2 sl m.list) sl2 nw) (own:w7.ownsRow w.heap.size 36 8 v2 n (XS ++ news)) (hX:XS=flatM sls ms) (hN:news=flatM sl2 nw) (hn:n=ms.length+nw.length)
  (gr:W2.grownBy w7 v.ownBlock) (hloc:∀g,v2.ownBlock=some g→v.ownBlock=some g∨W2.heap.size≤g):OutR Z w w7 v2 (ms ++ nw)∧Kp W w7∧Below w.heap.size w w7:=by
 subst hX hN hn;have hm:=row_mem ho;have hs:=hb.size;have hs7:=gr.size;have hkeep:∀(k:Nat) (o:Obj),W2.heap[k]?=some o→(∀cur fr,o≠Obj.cells cur 36 fr)→w7.heap[k]?=some o:=fun k o hk hne=>by
  rw [←hk];refine gr.block k (gE hk).1 (fun e=>?_);obtain ⟨_,cur,hc⟩:=hm k e.symm;have h3:=(hb.block k (gE hc).1).trans hc;rw [hk] at h3;exact hne cur (0,0) (by injection h3)
 refine ⟨⟨sls ++ sl2,?_,?_,?_⟩,⟨Nat.le_trans hs hs7,fun k o hk hne=>hkeep k o ((hb.block k (gE hk).1).trans hk) hne⟩,?_⟩
 ·have k2:All2 (fun sl m=>LRow (NewZ Z w W2) W2 sl m.list) (sls ++ sl2) (ms ++ nw):=(hA1.mono (fun a b q=>(q.kept (fun g cur fr hr hc=>hb.block g hr.1.2)).mono (fun k hk=>⟨⟨hk.1.1,Nat.lt_of_lt_of_le hk.1.2 hs⟩,hk.2⟩))).app hA2;exact k2.mono (fun a b q=>(q.kept (fun g cur fr hr hc=>(hkeep g _ hc (fun c f e=>by injection e with _ e _;exact absurd e (by decide))).trans hc.symm)).mono (fun k hk=>⟨⟨hk.1.1,Nat.lt_of_lt_of_le hk.1.2 hs7⟩,hk.2⟩))
 ·rw [flatM_app hA1.len,List.length_append];exact own
 ·intro g hg z;rcases hloc g hg with q | q
  ·exact hz g q z
  have:=hzW g z;omega
 exact grown_own (hw.trans (hb.mono hw.size)) (Nat.le_refl _) (ownsRow_blk ho (fun g hg hl=>hb.block g hl)) gr
theorem LRow.newer {w W W2:World} {v:Value} {l:List ByteArray} (h:LRow (New w W) W v l) (hb:Below W.heap.size W W2):LRow (New w W2) W2 v l:=
 (h.kept (fun g cur fr hr _=>hb.block g hr.2)).mono (fun k hk=>⟨hk.1,Nat.lt_of_lt_of_le hk.2 hb.size⟩)
theorem RawMap.clear {P:Program} {T K E:TypeId} (hT:P.underlying T=some (.map K E)) {w:World} {b:Nat} {L:List (Value×Value)} (h:RawMap w b L) (ty:TypeId) :
  ∃o,(Builtin.clear_ #[T] ty #[.map (some b)]).run P w = .ok (.tuple #[]) (w.putObj b o)∧∀W:World,W.heap[b]?=some o→RawMap W b []:=by
 obtain ⟨es,clk,hb,_,hp,hc⟩:=h;refine ⟨.map #[] clk,?_,fun W hW=>⟨#[],clk,hW,rfl,List.Pairwise.nil,by simp⟩⟩;simp [Builtin.clear_,run_underlying hT,MapKept.run_getObj_map hb,MapKept.run_setObj_map _ hb,World.putObj]
theorem NodeP.clear_ques {R:Nat→Prop} {w:World} {x:Nat} {p:Ptr} {s:StB} (h:NodeP R w x p s) (ty:TypeId) :
  ∃o,(Builtin.clear_ #[106] ty #[.map (some p.ques)]).run Tryz.prog w = .ok (.tuple #[]) (w.putObj p.ques o)∧NodeP R (w.putObj p.ques o) x p {s with ques:=[]}∧Chg R w (w.putObj p.ques o):=by
 obtain ⟨o,h1,h2⟩:=h.maps.ques.clear (P:=Tryz.prog) Tryz.underlying106 ty;have h3:=h2 _ (World.putObj_heap_same (o:=o) h.maps.ques.lt);refine ⟨o,h1,h.put_ques (fun k _ hk=>World.putObj_heap_other hk) (by simp [World.putObj]) (by simpa using h3),Chg.put _ _ _ (h.maps.own _ (by simp [Ptr.maps]))⟩
theorem OutR.opened {Z:Nat→Prop} {w W:World} {v:Value} {ms:List MsgB} (h:OutR Z w W v ms) (hw:Below w.heap.size w W):∃XS:List Value,
  (∀W2,Below W.heap.size W W2→W2.ownsRow w.heap.size 36 8 v ms.length XS) ∧
  (∀(W2 w7:World) (v2:Value) (n:Nat) (news sl2:List Value) (nw:List MsgB),Below W.heap.size W W2→(∀k,Z k→k<W2.heap.size)→All2 (fun sl m=>LRow (NewZ Z w W2) W2 sl m.list) sl2 nw →
   w7.ownsRow w.heap.size 36 8 v2 n (XS ++ news)→news=flatM sl2 nw→n=ms.length+nw.length→W2.grownBy w7 v.ownBlock→(∀g,v2.ownBlock=some g→v.ownBlock=some g∨W2.heap.size≤g)→OutR Z w w7 v2 (ms ++ nw)∧Kp W w7∧Below w.heap.size w w7):=by
 obtain ⟨sls,h1,h2,h3⟩:=h;refine ⟨flatM sls ms,fun W2 hb=>ownsRow_blk h2 (fun g _ hl=>hb.block g hl),fun W2 w7 v2 n news sl2 nw hb hz hA own hN hn gr hloc=>?_⟩;exact out_push h1 h2 h3 hb hw hz hA own rfl hN hn gr hloc
theorem flatM_one (sl:Value) (m:MsgB):(encM m sl).toList=flatM [sl] [m]:=by simp [flatM]
end
section
open Go.RowKit
theorem encM_size (m:MsgB) (v:Value):(encM m v).toList.length=8:=rfl
theorem flatM_len:∀{sls:List Value} {ms:List MsgB},sls.length=ms.length→(flatM sls ms).length=ms.length * 8
 | [],[],_=>rfl
 | a :: sls,m :: ms,h=>by
  have:=flatM_len (sls:=sls) (ms:=ms) (by simpa using h);unfold flatM at this ⊢;rw [List.zip_cons_cons,List.flatMap_cons,List.length_append,this,encM_size,List.length_cons];omega
theorem flatM_ones {r:Nat→Prop} {W:World}:∀{sls:List Value} {ms:List MsgB},All2 (fun sl m=>LRow r W sl m.list) sls ms→∀u∈flatM sls ms,u.oneCell'=true
 | _,_,.nil=>by intro u hu;simp [flatM] at hu
 | _,_,.cons h1 h2=>by
  intro u hu;unfold flatM at hu;rw [List.zip_cons_cons,List.flatMap_cons,List.mem_append] at hu;rcases hu with hu | hu
  ·obtain ⟨ao,cap,e,_⟩:=h1;simp only at hu;rw [e] at hu;exact encM_one _ _ _ _ u hu
  exact flatM_ones h2 u hu
def cutW (n:Nat) (W:World):World:={W with heap:=W.heap.extract 0 n}
theorem cutW_size {n:Nat} {W:World} (h:n≤W.heap.size):(cutW n W).heap.size=n:=by simp [cutW,Nat.min_eq_left h]
theorem cutW_below {n:Nat} {W:World} (h:n≤W.heap.size):Below n (cutW n W) W:=
 ⟨rfl,rfl,rfl,by rw [cutW_size h];exact h,fun k hk=>by simp [cutW,Array.getElem?_extract,hk];omega⟩
theorem OutR.rebase {Z:Nat→Prop} {w w2 W:World} {v:Value} {ms:List MsgB} (h:OutR Z w W v ms) (hs:w2.heap.size=w.heap.size):OutR Z w2 W v ms:=by
 obtain ⟨sls,h1,h2,h3⟩:=h;exact ⟨sls,h1.mono (fun a b q=>q.mono (fun k hk=>⟨⟨by rw [hs];exact hk.1.1,hk.1.2⟩,hk.2⟩)),by rw [hs];exact h2,h3⟩
section
variable {Z:Nat→Prop} {w wr W2:World} {v:Value} {ms nw:List MsgB} {sl2:List Value} {o:Oper} {a:Act} {Q:Exit→Act→World→Prop}
theorem wp_push {K:Act→World→Prop} (s x:Operand) (ho:o.op = .call {callee:=.builtin .append,args:=#[s,x],argTypes:=#[33,33]})
  (hs:a.eval s=v) (hO:OutR Z w wr v ms) (hB:Below w.heap.size w wr) (hE:Below wr.heap.size wr W2) (hz:∀k,Z k→k<W2.heap.size)
  (ad:Addr) (c:Nat) (hx:a.eval x = .slice (some ad) nw.length c) (hA:All2 (fun sl m=>LRow (NewZ Z w W2) W2 sl m.list) sl2 nw) (hn:∀j u,(flatM sl2 nw)[j]?=some u→W2.cell? (ad.add j)=some u)
  (hlen:ms.length+nw.length≤100000000) (h:∀v' w',OutR Z w w' v' (ms ++ nw)→Kp wr w'→Below w.heap.size w w'→(∀k,Z k→w'.heap[k]?=W2.heap[k]?)→K (a.put o.dst v') w'):o.wp Tryz.prog a W2 K Q:=by
 obtain ⟨XS,own,fin⟩:=hO.opened hB;obtain ⟨_,_,_,hzz⟩:=id hO;obtain ⟨ti,hi,hz0,hz1,hz2⟩:=info_parts Tryz.infoMsg;refine wp_append_new s x 33 ho w.heap.size 36 ti zM 8 88 Tryz.underlying33 hi hz0 hz1 hz2 (by rfl) (by decide) v ms.length XS hs (own W2 hE) ad nw.length c (flatM sl2 nw) hx (flatM_len hA.len) hn (flatM_ones hA) (by unfold maxLen;omega) (by omega) (Nat.le_trans hB.size hE.size) ?_;intro v' w' o2 gr hl;obtain ⟨r1,r2,r3⟩:=fin W2 w' v' _ _ sl2 nw hE hz hA o2 rfl rfl gr hl;exact h v' w' r1 r2 r3 (fun k hk=>gr.block k (hz k hk) (fun e=>hzz k e.symm hk))
theorem step_push {ops:Array Oper} {K:Act→World→Prop} {F:Prop} (hw:Region.wanted o (yielded ops a.tmps)=true) (s x:Operand) (ho:o.op = .call {callee:=.builtin .append,args:=#[s,x],argTypes:=#[33,33]})
  (hs:a.eval s=v) (hO:OutR Z w wr v ms) (hB:Below w.heap.size w wr) (hE:Below wr.heap.size wr W2) (hz:∀k,Z k→k<W2.heap.size)
  (ad:Addr) (c:Nat) (hx:a.eval x = .slice (some ad) nw.length c) (hA:All2 (fun sl m=>LRow (NewZ Z w W2) W2 sl m.list) sl2 nw) (hn:∀j u,(flatM sl2 nw)[j]?=some u→W2.cell? (ad.add j)=some u)
  (hlen:ms.length+nw.length≤100000000) (h:∀v' w',OutR Z w w' v' (ms ++ nw)→Kp wr w'→Below w.heap.size w w'→(∀k,Z k→w'.heap[k]?=W2.heap[k]?)→K (a.put o.dst v') w') :
  if Region.wanted o (yielded ops a.tmps)=true then Oper.wp Tryz.prog o a W2 K Q else F:=by
 rw [if_pos hw];exact wp_push s x ho hs hO hB hE hz ad c hx hA hn hlen h
theorem wpList_push {ops:Array Oper} {rest:List Oper} (hgd:o.guard=none) (s x:Operand) (ho:o.op = .call {callee:=.builtin .append,args:=#[s,x],argTypes:=#[33,33]})
  (hs:a.eval s=v) (hO:OutR Z w wr v ms) (hB:Below w.heap.size w wr) (hE:Below wr.heap.size wr W2) (hz:∀k,Z k→k<W2.heap.size)
  (ad:Addr) (c:Nat) (hx:a.eval x = .slice (some ad) nw.length c) (hA:All2 (fun sl m=>LRow (NewZ Z w W2) W2 sl m.list) sl2 nw) (hn:∀j u,(flatM sl2 nw)[j]?=some u→W2.cell? (ad.add j)=some u)
  (hlen:ms.length+nw.length≤100000000) (h:∀v' w',OutR Z w w' v' (ms ++ nw)→Kp wr w'→Below w.heap.size w w'→(∀k,Z k→w'.heap[k]?=W2.heap[k]?)→wpList Tryz.prog ops Q rest (a.put o.dst v') w'):wpList Tryz.prog ops Q (o :: rest) a W2:=
 wpList_plain hgd fun _ hK=>wp_push s x ho hs hO hB hE hz ad c hx hA hn hlen fun v' w' h2 h3 h4 h5=>hK _ _ (h v' w' h2 h3 h4 h5)
theorem wpList_push_row {Z3:Nat→Prop} {w3:World} {v3:Value} {ops:Array Oper} {rest:List Oper} (hgd:o.guard=none) (s x:Operand) (ho:o.op = .call {callee:=.builtin .append,args:=#[s,x],argTypes:=#[33,33]})
  (hs:a.eval s=v) (hO:OutR Z w W2 v ms) (hB:Below w.heap.size w W2) (hz:∀k,Z k→k<W2.heap.size) (hx:a.eval x=v3) (hO3:OutR Z3 w3 W2 v3 nw) (h3:∀k,NewZ Z3 w3 W2 k→NewZ Z w W2 k)
  (hlen:ms.length+nw.length≤100000000) (h:∀v' w',OutR Z w w' v' (ms ++ nw)→Kp W2 w'→Below w.heap.size w w'→(∀k,Z k→w'.heap[k]?=W2.heap[k]?)→wpList Tryz.prog ops Q rest (a.put o.dst v') w'):wpList Tryz.prog ops Q (o :: rest) a W2:=by
 obtain ⟨sl3,k1,k2,k3⟩:=hO3;rcases k2.2 with ⟨rfl,h0⟩ | ⟨g,cap,cur,rfl,hb,hg,hr⟩
 ·obtain ⟨ti,hi,hz0,hz1,hz2⟩:=info_parts Tryz.infoMsg;obtain rfl:nw = []:=List.eq_nil_of_length_eq_zero h0;obtain ⟨XS,own,fin⟩:=hO.opened hB;refine wpList_append_own_none hgd s x 33 ho w.heap.size 36 ti 8 Tryz.underlying33 hi v ms.length XS hs (own W2 (Below.refl _ _)) hx ?_;exact h v W2 (by simpa using hO) (Kp.refl W2) hB (fun _ _=>rfl)
 refine wpList_push hgd s x ho hs hO hB (Below.refl _ _) hz ⟨g,0,none⟩ cap hx (k1.mono (fun a b q=>q.mono h3)) (fun j u hu=>k2.cells (g:=g) rfl j u hu) hlen h
end
end
end Go.Proofs.YtifcdjmcoibblaaGreatDoor
