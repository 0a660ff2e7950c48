/- BoxR Srk Frr EFct Fky Fso -/
import Derived.Test.YtifcdjmcoibblaaGreatDoorFq02
import Derived.Test.YtifcdjmcoibblaaGreatDoorFq01
import Derived.Test.YtifcdjmcoibblaaGreatDoorFq11
import Derived.Test.YtifcdjmcoibblaaGreatDoorFq04
import Derived.Sort.OwnSortedInts
import Derived.Deep.LoopGhost
import Derived.Deep.DeepCutAuto
import Derived.StillTailTactics
import Derived.Test.YtifcdjmcoibblaaGreatDoorFq03
import Derived.Deep.RegionHeld3
import Derived.Deep.RegionLaw
import Derived.BigQuiet
import Derived.Test.YtifcdjmcoibblaaGreatDoorFq09
import Derived.Lib.SlicesS
import Derived.Sort.Walk0
import Derived.Sort.OwnSorted
import Derived.Lib.SmallJoins
import Derived.Lib.RowBridge
set_option linter.unusedVariables false
set_option linter.unusedSimpArgs false
set_option linter.unusedSectionVars false
set_option maxRecDepth 100000
set_option maxHeartbeats 80000000
namespace Go.Proofs.YtifcdjmcoibblaaGreatDoor
section
open Go.RowKit
theorem ownsRow_blk {w w':World} {base e size n:Nat} {v:Value} {xs:List Value} (h:w.ownsRow base e size v n xs) (hb:∀g,v.ownBlock=some g→g<w.heap.size→w'.heap[g]?=w.heap[g]?):w'.ownsRow base e size v n xs:=by
 obtain ⟨h1,h | ⟨g,cap,cur,rfl,h2,h3,h4⟩⟩:=h
 ·exact ⟨h1,.inl h⟩
 exact ⟨h1,.inr ⟨g,cap,cur,rfl,h2,(hb g rfl (gE h3).1).trans h3,h4⟩⟩
theorem Boxed.blk {w w':World} {B t:Nat} {v:Value} (h:Boxed w B t v) (hb:w'.heap[B]?=w.heap[B]?):Boxed w' B t v:=hb.trans h
theorem owns_ltK {w:World} {base e size n:Nat} {v:Value} {xs:List Value} (h:w.ownsRow base e size v n xs) (g:Nat) (hg:v.ownBlock=some g):base≤g∧g<w.heap.size:=by
 obtain ⟨h1,h | ⟨g',cap,cur,rfl,h2,h3,h4⟩⟩:=h
 ·rw [h.1] at hg;simp [Value.ownBlock] at hg
 simp [Value.ownBlock] at hg;subst hg;exact ⟨h2,(gE h3).1⟩
structure BoxRow (w W:World) (B t e size n:Nat) (v:Value) (xs:List Value) (O:Nat→Prop):Prop where
 own:∀k,O k↔k=B∨v.ownBlock=some k
 box:Boxed W B t v
 row:W.ownsRow w.heap.size e size v n xs
 bel:Below w.heap.size w W
 bas:w.heap.size≤B
theorem BoxRow.chg {w A A':World} {B t e size n:Nat} {v:Value} {xs:List Value} {O C:Nat→Prop} (h:BoxRow w A B t e size n v xs O) (hc:Chg C A A') (hC:∀k,C k→w.heap.size≤k∧¬O k):BoxRow w A' B t e size n v xs O:=
 ⟨h.own,Boxed.blk h.box (hc.block B h.box.lt (fun c=>(hC B c).2 ((h.own B).2 (.inl rfl)))),ownsRow_blk h.row (fun g hg hl=>hc.block g hl (fun c=>(hC g c).2 ((h.own g).2 (.inr hg)))),
  h.bel.trans (hc.below h.bel.size (fun k hk=>(hC k hk).1)),h.bas⟩
theorem BoxRow.appended {w W w1:World} {B t e size n m:Nat} {v v':Value} {xs ys:List Value} {tmp:Obj} {O:Nat→Prop} (h:BoxRow w W B t e size n v xs O) (hte:t≠e)
  (hown':w1.ownsRow w.heap.size e size v' m ys) (hgrow:(W.alloc tmp).grownBy w1 v.ownBlock) (hloc:v'.ownBlock=v.ownBlock∨v'.ownBlock=some (W.alloc tmp).heap.size) :
  Boxed w1 B t v∧∃O',BoxRow w (w1.setCell ⟨B,0,none⟩ v') B t e size m v' ys O'∧Chg O W (w1.setCell ⟨B,0,none⟩ v')∧∀k,O' k→O k∨W.heap.size≤k:=by
 have hv1:Boxed w1 B t v:=(h.box.alloc tmp).kept hgrow (h.box.not_row hte h.row);have hB:B<W.heap.size:=h.box.lt;have hg:Chg O W w1:=(Chg.alloc O W tmp).trans (Chg.grown hgrow (fun k e=>.inl ((h.own k).2 (.inr e))));have hs:Chg O W (w1.setCell ⟨B,0,none⟩ v'):=hg.trans (Chg.grown (grownBy_setCell' w1 B v') (fun k e=>by cases e;exact .inl ((h.own B).2 (.inl rfl))));refine ⟨hv1,fun k=>k=B∨v'.ownBlock=some k,⟨fun k=>Iff.rfl,hv1.set v',hown'.kept (grownBy_setCell' w1 B v') (.inr (hv1.not_row hte hown').symm),?_,h.bas⟩,hs,fun k hk=>?_⟩
 ·refine h.bel.trans (hs.below h.bel.size (fun k hk=>?_));rcases (h.own k).1 hk with rfl | hk
  ·exact h.bas
  exact (owns_ltK h.row k hk).1
 rcases hk with rfl | hk
 ·exact .inl ((h.own k).2 (.inl rfl))
 rcases hloc with e | e
 ·exact .inl ((h.own k).2 (.inr (by rw [←e];exact hk)))
 rw [e] at hk;simp at hk;exact .inr (by omega)
end
section
open Go.RowKit Go.Sort Go.Lib
attribute [local go_sem] Oper.semAt_some
def encI1 (k:Int):List Value:=[.int .i64 k]
theorem encI1_len (x:Int):(encI1 x).length=1:=rfl
theorem encI1_one (x:Int):∀u∈encI1 x,u.oneCell'=true:=by intro u hu;simp [encI1] at hu;subst hu;rfl
theorem flat_I1 (l:List Int):l.flatMap encI1=l.map (Value.int .i64):=by
 induction l with
 | nil=>rfl
 | cons a l ih=>rw [List.flatMap_cons,ih];rfl
theorem Tryz.infoI1:(Tryz.prog.info? 3).map (fun i=>(i.zero,i.size,i.bytes))=some (some (.int .i64 0),1,8):=by kernel_rfl
theorem merge_sortI {l l':List Int} (hp:l.Perm l'):(l.mergeSort fun x y=>decide (x≤y))=sortI l':=by
 have hs:∀(a:Int) (m:List Int),m.Pairwise (·≤·)→(insI a m).Pairwise (·≤·)∧(insI a m).Perm (a :: m):=by
  intro a m;induction m with
  | nil=>intro _;simp [insI]
  | cons b m ih=>
   intro hm;unfold insI;by_cases hab:a≤b
   ·simp only [hab,if_true];exact ⟨List.pairwise_cons.2 ⟨fun y hy=>by rcases List.mem_cons.1 hy with rfl | hy;exact hab;exact Int.le_trans hab ((List.pairwise_cons.1 hm).1 y hy),hm⟩,List.Perm.refl _⟩
   simp only [hab,if_false];obtain ⟨h1,h2⟩:=ih (List.pairwise_cons.1 hm).2;refine ⟨List.pairwise_cons.2 ⟨fun y hy=>?_,h1⟩,(List.Perm.cons b h2).trans (List.Perm.swap _ _ _)⟩;rcases List.mem_cons.1 (h2.mem_iff.1 hy) with rfl | hy
   ·omega
   exact (List.pairwise_cons.1 hm).1 y hy
 have h2:(sortI l').Pairwise (·≤·)∧(sortI l').Perm l':=by
  unfold sortI;clear hp;induction l' with
  | nil=>simp
  | cons a m ih=>exact ⟨(hs a _ ih.1).1,(hs a _ ih.1).2.trans (List.Perm.cons a ih.2)⟩
 refine List.Perm.eq_of_pairwise (le:=(·≤·)) (fun a b _ _ h1 h2=>Int.le_antisymm h1 h2) ?_ h2.1 ?_
 ·have:=List.pairwise_mergeSort (le:=fun x y:Int=>decide (x≤y)) (fun a b c h1 h2=>by
   rw [decide_eq_true_eq] at *;exact Int.le_trans h1 h2) (fun a b=>by
   rw [Bool.or_eq_true,decide_eq_true_eq,decide_eq_true_eq];exact Int.le_total a b) l
  exact this.imp (by intro a b h;rwa [decide_eq_true_eq] at h)
 exact (List.mergeSort_perm _ _).trans (hp.trans h2.2.symm)
theorem appseq_any (n bx M:Nat) (l:List (Int×(Int×Int))) (w:World) (hn:l.length≤1000) (hm:RawMap w M (l.map encSt)) (hb:w.cell? ⟨bx,0,none⟩=some (.map (some M))) :
  CallsIn Fence.wide n Tryz.prog 184 #[.slice none 0 0,.func (.func 166) #[] #[.pointer (some ⟨bx,0,none⟩)]] w fun e w'=>∃(v:Value) (xs:List Int),e = .returned v∧xs.Perm (l.map (·.1))∧w'.ownsRow w.heap.size 3 1 v xs.length (xs.flatMap encI1)∧Below w.heap.size w w':=by
 obtain ⟨i0,hi,hz0,hz1,hz2⟩:=info_parts Tryz.infoI1;have HR:=Hd hm;clear hm;refine callsIn_of_wp_marks Tryz.func184 rfl trivial ?_ rfl;simp only [Tryz.ntmps184,List.size_toArray,List.length_cons,List.length_nil,Nat.reduceAdd,Nat.reduceSub,Array.replicate_succ,Array.replicate_zero,List.push_toArray,List.append_toArray,List.nil_append,List.cons_append];gi_wp2
 obtain ⟨W2,hW2⟩:∃W2,w.alloc (.cells #[.slice none 0 0] 47)=W2:=⟨_,rfl⟩;have hs2:W2.heap.size=w.heap.size+1:=by rw [←hW2];simp
 have B2:=Hd (show Below w.heap.size w W2 by rw [←hW2];exact (Below.refl _ w).alloc (Nat.le_refl _) _);have BX:=Hd (show Boxed W2 w.heap.size 47 (.slice none 0 0) by rw [←hW2];exact Boxed.new w _ _);have BM:=Hd (show W2.cell? ⟨bx,0,none⟩=some (.map (some M)) by rw [←hW2];exact cell_up hb _);have RM:=Hd (show RawMap W2 M (l.map encSt) from HR.out.kept (B2.out.block M HR.out.lt));rw [hW2];have HS2:=Hd hs2;clear hW2 hs2;refine wpIn_range_own (gf:=166) (lb:=#[.pointer (some ⟨bx,0,none⟩)]) rfl (enters_of Tryz.func166 (by kernel_rfl) rfl)
  (qkeys_seq _ RM.out bx BM.out) (fun _=>rfl)
  (fun pre O W=>∃v,BoxRow w W w.heap.size 47 3 1 pre.length v (pre.flatMap encI1) O) (fun k=>k=w.heap.size∨(Value.slice none 0 0).ownBlock=some k) ?hO0 ?hI ?h0
  (fun pre x a' O W=>a' = {tmps:=#[.slice none 0 0,.func (.func 166) #[] #[.pointer (some ⟨bx,0,none⟩)],.pointer (some ⟨w.heap.size,0,none⟩),undef,.slice none 0 0,.int .i64 x,.func (.func 166) #[] #[.pointer (some ⟨bx,0,none⟩)],.int .i64 x,undef,undef,undef,undef,undef],defers:=[]} ∧
   ∃v,BoxRow w W w.heap.size 47 3 1 pre.length v (pre.flatMap encI1) O) ?hM ?assign ?body ?done
 case hO0=>
  intro k hk;rcases hk with rfl | hk
  ·exact ⟨by have:=HS2.out;omega,fun h=>by have:=HR.out.lt;omega⟩
  simp [Value.ownBlock] at hk
 case hI=>rintro s O A A' C ⟨v,h⟩ hc hC;exact ⟨v,h.chg hc (fun k hk=>⟨by have:=(hC k hk).1;have:=HS2.out;omega,(hC k hk).2⟩)⟩
 case h0=>exact ⟨_,fun k=>Iff.rfl,BX.out,World.ownsRow_nil _ _ _ _,B2.out,Nat.le_refl _⟩
 case hM=>rintro s x a' O A A' C ⟨e,v,h⟩ hc hC;exact ⟨e,v,h.chg hc (fun k hk=>⟨by have:=(hC k hk).1;have:=HS2.out;omega,(hC k hk).2⟩)⟩
 case assign=>
  intro l' pre x O W K hx hi hK;dsimp only [encKI];gi_wp2
  exact hK _ O W ⟨rfl,hi⟩ (Chg.refl _ _) (fun k h=>.inl h)
 case body=>
  rintro l' pre x a' O W hx ⟨rfl,v,hbr⟩;have BR:=Hd hbr;have hcell:=hbr.box.cell;have hpl:pre.length≤1000:=by
   have:=hx.2;omega
  clear hbr hx;gi_wp2_with (first
   | (gi_at_builtin;refine wpListIn_append_own_at _ rfl _ _ 47 rfl w.heap.size 3 i0 (.int .i64 0) 1 8 Tryz.underlying47 hi hz0 hz1 hz2 rfl (by decide) _ _ _ rfl (BR.out.row.alloc _) ⟨W.heap.size,0,none⟩ 1 1 (encI1 x) rfl rfl (cells_at _ _ _ _ rfl) (encI1_one _) (by unfold maxLen;omega) (by omega) (by have:=BR.out.bel.size;simp;omega) ?_;intro v' w1 own gr hnil hloc;obtain ⟨g',cap',rfl⟩:=ownsRow_succ own;obtain ⟨hv1,hap⟩:=BR.out.appended (by decide) own gr hloc;have AP:=Hd hap;have hc1:=hv1.cell;have hf1:=hv1.frozen;clear own gr hnil hloc hap hv1)
   | gi_in)
  obtain ⟨O',h1,h2,h3⟩:=AP.out;exact ⟨O',⟨_,by rw [flat_snoc,List.length_append];exact h1⟩,h2,h3⟩
 case done=>
  rintro D xs O W hD hnD hxs ⟨v,hbr⟩ hK;have HXS:=Hd hxs;have hcell:=hbr.box.cell;have BR:=Hd hbr;obtain ⟨ao,cap,hv,h1,h2⟩:=rowK_of_owns encI1_len (by decide) hbr.row;subst hv;clear hbr hxs;gi_wp2
  refine ⟨by simp,.inl ⟨_,_,rfl,run_takeDeferred hK,?_⟩⟩;have hB:=BR.out.chg (Chg.put W D (.deferred none) (C:=fun k=>k=D) rfl) (fun k hk=>by subst hk;exact ⟨by have:=HS2.out;omega,hnD⟩);exact ⟨_,results_tmp rfl _ _ _,.slice ao xs.length cap,xs,rfl,HXS.out,hB.row,hB.bel⟩
theorem collect_any (n bx M:Nat) (l:List (Int×(Int×Int))) (w:World) (hn:l.length≤1000) (hm:RawMap w M (l.map encSt)) (hb:w.cell? ⟨bx,0,none⟩=some (.map (some M))) :
  CallsIn Fence.wide n Tryz.prog 138 #[.func (.func 166) #[] #[.pointer (some ⟨bx,0,none⟩)]] w fun e w'=>∃(v:Value) (xs:List Int),e = .returned v∧xs.Perm (l.map (·.1))∧w'.ownsRow w.heap.size 3 1 v xs.length (xs.flatMap encI1)∧Below w.heap.size w w':=by
 have AS:=Hd (fun m=>appseq_any m bx M l w hn hm hb);clear hm hb;refine callsIn_of_wp Tryz.func138 rfl trivial ?_ rfl;simp only [Tryz.ntmps138,List.size_toArray,List.length_cons,List.length_nil,Nat.reduceAdd,Nat.reduceSub,Array.replicate_succ,Array.replicate_zero,List.push_toArray,List.append_toArray,List.nil_append,List.cons_append];gi_wp2
 refine ⟨trivial,fun h=>absurd h (by simp [Fence.wide]),(AS.out _).mono ?_⟩;rintro e W2 ⟨v,xs,rfl,hpm,h2⟩;have PM:=Hd hpm;have H2:=Hd h2;obtain ⟨ao2,cap2,rfl,_,_⟩:=rowK_of_owns encI1_len (by decide) h2.1;clear h2 hpm;gi_wp2
 go_ret;exact ⟨_,_,rfl,PM.out,H2.out⟩
theorem sorted_any (n bx M:Nat) (l:List (Int×(Int×Int))) (w:World) (hn:l.length≤1000) (hm:RawMap w M (l.map encSt)) (hb:w.cell? ⟨bx,0,none⟩=some (.map (some M))) :
  CallsIn Fence.wide n Tryz.prog 83 #[.func (.func 166) #[] #[.pointer (some ⟨bx,0,none⟩)]] w fun e w'=>∃v,e = .returned v∧w'.ownsRow w.heap.size 3 1 v l.length ((sortI (l.map (·.1))).map (Value.int .i64))∧Below w.heap.size w w':=by
 have CO:=Hd (fun m=>collect_any m bx M l w hn hm hb);clear hm hb;refine callsIn_of_wp Tryz.func83 rfl trivial ?_ rfl;simp only [Tryz.ntmps83,List.size_toArray,List.length_cons,List.length_nil,Nat.reduceAdd,Nat.reduceSub,Array.replicate_succ,Array.replicate_zero,List.push_toArray,List.append_toArray,List.nil_append,List.cons_append];gi_wp2
 refine ⟨trivial,fun h=>absurd h (by simp [Fence.wide]),(CO.out _).mono ?_⟩;rintro e W2 ⟨v,xs,rfl,hpm,hrow,hbl⟩;have hxl:xs.length=l.length:=by have:=hpm.length_eq;simpa using this
 have hsl:=merge_sortI hpm;rw [flat_I1] at hrow;rcases hrow.2 with ⟨rfl,hz⟩ | ⟨gb,cp,cur,rfl,hbase,hgb,r1,r2,r3,r4⟩
 ·have hx:xs = []:=List.eq_nil_of_length_eq_zero hz;subst hx;have hl0:l = []:=List.eq_nil_of_length_eq_zero (by simpa using hxl.symm);subst hl0;have HB:=Hd hbl;clear hrow hbl hpm hxl hsl;gi_wp2
  refine wide_call (Tryz.slices_Sort_int_none none 0 W2) ?_;rintro e w' ⟨rfl,rfl⟩;gi_wp2
  go_ret;exact ⟨_,rfl,by simpa [sortI] using World.ownsRow_nil w' w.heap.size 3 1,HB.out⟩
 have hr4:cur.toList.take xs.length=xs.map (Value.int .i64):=by simpa using r4
 have hH:Holds (Value.int .i64) W2 gb 0 xs.toArray:=holds_of_blockI hgb hr4;have hcall:=Tryz.slices_Sort_int gb 0 cp xs W2 hH (lt_of_blk hgb) (by omega);rw [hsl,hxl] at hcall;have CA:=Hd hcall;have FIN:=Hd (show ∀m os,(grow (putRow (Value.int .i64) (Sort.ahead W2 m) gb 0 (sortI (l.map (·.1))).toArray) os).ownsRow w.heap.size 3 1 (.slice (some ⟨gb,0,none⟩) l.length cp) l.length ((sortI (l.map (·.1))).map (Value.int .i64))∧Below w.heap.size w (grow (putRow (Value.int .i64) (Sort.ahead W2 m) gb 0 (sortI (l.map (·.1))).toArray) os) from fun m os=>by
  have h1:=ownsRow_sortedI (os:=os) (n:=m) (ts:=sortI (l.map (·.1))) (ss:=xs) (by rw [←hsl,List.length_mergeSort]) hbase hgb r1 r2 r3;rw [hxl] at h1;exact ⟨h1,hbl.grown (grownBy_sortedI _) hbl.size (fun j hj=>by cases hj;exact hbase)⟩)
 rw [hxl];clear hrow hbl hH hcall hr4 hgb r1 r2 r3 r4 hpm hxl hsl;gi_wp2
 refine wide_call CA.out ?_;rintro e w' ⟨rfl,m,os,rfl⟩;have F2:=Hd (FIN.out m os);gi_wp2
 go_ret;exact ⟨_,rfl,F2.out⟩
end
section
namespace Fk
open Go.RowKit
def mergeR:List (ByteArray×Nat)→List (ByteArray×Nat)
 | (a,p) :: (b,q) :: r=>if q=p then mergeR ((nodeD b a,2 * p) :: r) else (a,p) :: (b,q) :: r
 | l=>l
termination_by l=>l.length
theorem mergeR_same {a b:ByteArray} {p:Nat} {r:List (ByteArray×Nat)}:mergeR ((a,p) :: (b,p) :: r)=mergeR ((nodeD b a,2 * p) :: r):=by rw [mergeR,if_pos rfl]
theorem mergeR_diff {a b:ByteArray} {p q:Nat} {r:List (ByteArray×Nat)} (h:q≠p):mergeR ((a,p) :: (b,q) :: r)=(a,p) :: (b,q) :: r:=by rw [mergeR,if_neg h]
theorem mergeR_one {a:ByteArray×Nat}:mergeR [a] = [a]:=by rw [mergeR];intro a p b q r h;cases h
def pushR (st:List (ByteArray×Nat)) (s:ByteArray):List (ByteArray×Nat):=mergeR ((leafD s,1) :: st)
def stackR (l:List ByteArray):List (ByteArray×Nat):=l.foldl pushR []
def sumR (st:List (ByteArray×Nat)):Nat:=(st.map (·.2)).foldr (· + ·) 0
theorem stackR_snoc (l:List ByteArray) (s:ByteArray):stackR (l ++ [s])=mergeR ((leafD s,1) :: stackR l):=by unfold stackR;rw [List.foldl_append];rfl
def rootF (l:List ByteArray):ByteArray:=match stackR l with
 | []=>sumS ⟨#[]⟩
 | (a,_) :: r=>r.foldl (fun out e=>nodeD e.1 out) a
def encI (n:Nat):List Value:=[.int .i64 (n:Int)]
theorem encI_len (x:Nat):(encI x).length=1:=rfl
theorem encI_one (x:Nat):∀u∈encI x,u.oneCell'=true:=by intro u hu;simp [encI] at hu;subst hu;rfl
structure RtI (w W:World) (v3 v4:Value) (st:List (ByteArray×Nat)) (j:Nat):Prop where
 r3:W.ownsRow w.heap.size 9 1 v3 st.length ((st.reverse.map (·.1)).flatMap encT)
 r4:W.ownsRow w.heap.size 3 1 v4 st.length ((st.reverse.map (·.2)).flatMap encI)
 low:Below w.heap.size w W
 sum:sumR st=j
 sz:∀e∈st,e.1.size=32
 pos:∀e∈st,1≤e.2
theorem RtI.later {w W W':World} {v3 v4:Value} {st:List (ByteArray×Nat)} {j:Nat} (h:RtI w W v3 v4 st j) (hb:Below W.heap.size W W'):RtI w W' v3 v4 st j:=
 ⟨ownsRow_blk h.r3 (fun g _ hl=>hb.block g hl),ownsRow_blk h.r4 (fun g _ hl=>hb.block g hl),h.low.trans (hb.mono h.low.size),h.sum,h.sz,h.pos⟩
theorem sumR_len:∀(st:List (ByteArray×Nat)),(∀e∈st,1≤e.2)→st.length≤sumR st
 | [],_=>Nat.le_refl _
 | e :: st,h=>by
  have h1:=sumR_len st (fun x hx=>h x (by simp [hx]));have h2:=h e (by simp);show st.length+1≤e.2+sumR st;omega
theorem owns_take {W:World} {base e n m:Nat} {g cap:Nat} {xs:List Value} (h:W.ownsRow base e 1 (.slice (some ⟨g,0,none⟩) n cap) n xs) (hm:m≤n):W.ownsRow base e 1 (.slice (some ⟨g,0,none⟩) m cap) m (xs.take m):=by
 obtain ⟨h1,⟨q,_⟩ | ⟨g',cap',cur,q,h2,h3,h4,h5,h6,h7⟩⟩:=h
 ·cases q
 cases q;refine ⟨by rw [List.length_take];omega,.inr ⟨g,cap,cur,rfl,h2,h3,by omega,h5,h6,?_⟩⟩;rw [←h7,List.take_take];congr 1
 simp at h1 ⊢;omega
end Fk
end
section
namespace Fk
open Go.RowKit
theorem results_cellF {P:Program} {fn:Func} {a:Tmp} {t:TypeId} {pa:Addr} {cs:List Value} {tmps:Array Value} {w:World} (h:fn.results = #[.cell a t]) (ha:tmps.getD a undef = .pointer (some pa))
  (hta:(isAgg t).run P w = .ok true w) (hsz:(sizeOf t).run P w = .ok cs.length w) (hc:∀j v,cs[j]?=some v→w.cell? (pa.add j)=some v):(results fn tmps).run P w = .ok (.agg cs.toArray) w:=by
 have e1:asAddr (tmps.getD a undef)=pure pa:=by rw [ha];rfl
 unfold results;rw [h];simp only [List.mapM_toArray,List.mapM_cons,List.mapM_nil,e1];simp [loadVar,hta,hsz,run_loadCells_list w pa cs hc]
structure PF where
 n:Nat→Int
 t:ByteArray
def encP (f:PF):List Value:=[.int .i64 (f.n 0),.int .i64 (f.n 1),.int .i64 (f.n 2),.int .i64 (f.n 3),.int .i64 (f.n 4),.int .i64 (f.n 5),.int .i64 (f.n 6),.int .i64 (f.n 7),.int .i64 (f.n 8),.int .i64 (f.n 9),.int .i64 (f.n 10),.int .i64 (f.n 11),.int .i64 (f.n 12),.int .i64 (f.n 13),.int .i64 (f.n 14),.int .i64 (f.n 15),.int .i64 (f.n 16),.string f.t]
theorem encP_len (f:PF):(encP f).length=18:=rfl
structure Fd where
 i:Nat
 lo:Int
 hi:Int
def encFd (b:Nat) (x:Fd):List Value:=[.pointer (some ⟨b,x.i,none⟩),.int .i64 x.lo,.int .i64 x.hi]
theorem encFd_len (b:Nat) (x:Fd):(encFd b x).length=3:=rfl
theorem fid_any (a:Addr) (w:World):Calls Tryz.prog 281 #[.pointer (some a)] w fun e w'=>e = .returned (.agg #[.pointer (some a),.int .i64 1,.int .i64 1000000])∧Below w.heap.size w w':=by
 have B1:=Hd ((Below.refl w.heap.size w).alloc (Nat.le_refl _) (.cells #[.pointer (some a),.int .i64 1,.int .i64 1000000] 286));have C1:=Hd (cells_at w [.pointer (some a),.int .i64 1,.int .i64 1000000] 286 w.heap.size rfl);go_enter Tryz.func281,Tryz.ntmps281
 go_wp2
 exact bodyPost_ret (results_cellF rfl rfl (by kernel_rfl) (by kernel_rfl) C1.out) rfl ⟨rfl,B1.out⟩
theorem fterritory_any (a:Addr) (w:World):Calls Tryz.prog 282 #[.pointer (some a)] w fun e w'=>e = .returned (.agg #[.pointer (some a),.int .i64 0,.int .i64 7])∧Below w.heap.size w w':=by
 have B1:=Hd ((Below.refl w.heap.size w).alloc (Nat.le_refl _) (.cells #[.pointer (some a),.int .i64 0,.int .i64 7] 286));have C1:=Hd (cells_at w [.pointer (some a),.int .i64 0,.int .i64 7] 286 w.heap.size rfl);go_enter Tryz.func282,Tryz.ntmps282
 go_wp2
 exact bodyPost_ret (results_cellF rfl rfl (by kernel_rfl) (by kernel_rfl) C1.out) rfl ⟨rfl,B1.out⟩
theorem fperiod_any (a:Addr) (w:World):Calls Tryz.prog 283 #[.pointer (some a)] w fun e w'=>e = .returned (.agg #[.pointer (some a),.int .i64 0,.int .i64 1199])∧Below w.heap.size w w':=by
 have B1:=Hd ((Below.refl w.heap.size w).alloc (Nat.le_refl _) (.cells #[.pointer (some a),.int .i64 0,.int .i64 1199] 286));have C1:=Hd (cells_at w [.pointer (some a),.int .i64 0,.int .i64 1199] 286 w.heap.size rfl);go_enter Tryz.func283,Tryz.ntmps283
 go_wp2
 exact bodyPost_ret (results_cellF rfl rfl (by kernel_rfl) (by kernel_rfl) C1.out) rfl ⟨rfl,B1.out⟩
theorem RowK_flat {α:Type} {k:Nat} {enc:α→List Value} (hk:∀x,(enc x).length=k) (w:World) (l:List α) (t:TypeId):RowK k enc (w.alloc (.cells (l.flatMap enc).toArray t)) (some ⟨w.heap.size,0,none⟩) l:=fun i x hx=>by
 refine ⟨w.heap.size,0,rfl,by simp,fun j v hv=>?_⟩;rw [Nat.zero_add];refine cell_box w _ _ _ _ ?_ _ rfl;rw [List.getElem?_toArray];exact flat_get hk l i x j v hx hv
theorem BelowN {b:Nat} {w w1 w':World} (h:Below b w w1) (h2:Below w1.heap.size w1 w') (hb:b≤w.heap.size):Below b w w':=h.trans (h2.mono (Nat.le_trans hb h.size))
theorem BelowA {b:Nat} {w w1:World} (h:Below b w w1) (hb:b≤w.heap.size) (o:Obj):Below b w (w1.alloc o):=h.alloc (Nat.le_trans hb h.size) o
def FieldsE (w:World) (b:Nat) (L:List Fd) (e:Ending) (w':World):Prop:=
 ∃g,e = .returned (.slice (some ⟨g,0,none⟩) L.length L.length)∧w.heap.size≤g∧RowK 3 (encFd b) w' (some ⟨g,0,none⟩) L∧Below w.heap.size w w'
def playL:List Fd:=[⟨1,1,1000000⟩,⟨5,1,1000000⟩,⟨6,1,1000000⟩,⟨7,1,1000000⟩,⟨8,0,7⟩,⟨4,0,3155759999⟩,⟨13,0,86400000⟩,⟨16,0,1⟩]
theorem play_any (b:Nat) (w:World):Calls Tryz.prog 253 #[.pointer (some ⟨b,0,none⟩)] w (FieldsE w b playL):=by
 have FIN:=Hd (fun (W:World) (h:Below w.heap.size w W)=>(show FieldsE w b [⟨1,1,1000000⟩,⟨5,1,1000000⟩,⟨6,1,1000000⟩,⟨7,1,1000000⟩,⟨8,0,7⟩,⟨4,0,3155759999⟩,⟨13,0,86400000⟩,⟨16,0,1⟩] (.returned (.slice (some ⟨W.heap.size,0,none⟩) 8 8)) _ from ⟨W.heap.size,rfl,h.size,RowK_flat (encFd_len b) W [⟨1,1,1000000⟩,⟨5,1,1000000⟩,⟨6,1,1000000⟩,⟨7,1,1000000⟩,⟨8,0,7⟩,⟨4,0,3155759999⟩,⟨13,0,86400000⟩,⟨16,0,1⟩] 286,h.alloc h.size _⟩));have B0:=Below.refl w.heap.size w;go_enter Tryz.func253,Tryz.ntmps253
 go_wp2_with fail
 go_region_held3 (fun w'=>Below w.heap.size w w')
  (first | (exact B0) | (exact B0.drew) | (exact BelowN (by assumption) hb1 (Nat.le_refl _)) | (exact BelowA (by assumption) (Nat.le_refl _) _) | assumption | (exact Below.drew (by assumption)))
  (first
   | (go_at_call 281;(with_reducible refine (fid_any _ _).mono ?_);rintro e w' ⟨rfl,hb1⟩)
   | (go_at_call 283;(with_reducible refine (fperiod_any _ _).mono ?_);rintro e w' ⟨rfl,hb1⟩)
   | (go_at_call 282;(with_reducible refine (fterritory_any _ _).mono ?_);rintro e w' ⟨rfl,hb1⟩))
 go_wp2_with fail
 go_ret;refine FIN.out _ ?_;repeat (first | exact B0.drew | refine BelowN ?_ (by assumption) (Nat.le_refl _))
def markL:List Fd:=[⟨6,1,1000000⟩,⟨1,1,1000000⟩,⟨16,1,3⟩]
theorem mark_any (b:Nat) (w:World):Calls Tryz.prog 255 #[.pointer (some ⟨b,0,none⟩)] w (FieldsE w b markL):=by
 have FIN:=Hd (fun (W:World) (h:Below w.heap.size w W)=>(show FieldsE w b [⟨6,1,1000000⟩,⟨1,1,1000000⟩,⟨16,1,3⟩] (.returned (.slice (some ⟨W.heap.size,0,none⟩) 3 3)) _ from ⟨W.heap.size,rfl,h.size,RowK_flat (encFd_len b) W [⟨6,1,1000000⟩,⟨1,1,1000000⟩,⟨16,1,3⟩] 286,h.alloc h.size _⟩));have B0:=Below.refl w.heap.size w;go_enter Tryz.func255,Tryz.ntmps255
 go_wp2_with fail
 go_region_held3 (fun w'=>Below w.heap.size w w')
  (first | (exact B0) | (exact B0.drew) | (exact BelowN (by assumption) hb1 (Nat.le_refl _)) | (exact BelowA (by assumption) (Nat.le_refl _) _) | assumption | (exact Below.drew (by assumption)))
  (first
   | (go_at_call 281;(with_reducible refine (fid_any _ _).mono ?_);rintro e w' ⟨rfl,hb1⟩)
   | (go_at_call 283;(with_reducible refine (fperiod_any _ _).mono ?_);rintro e w' ⟨rfl,hb1⟩)
   | (go_at_call 282;(with_reducible refine (fterritory_any _ _).mono ?_);rintro e w' ⟨rfl,hb1⟩))
 go_wp2_with fail
 go_ret;refine FIN.out _ ?_;repeat (first | exact B0.drew | refine BelowN ?_ (by assumption) (Nat.le_refl _))
def claimL (f:PF):List Fd:=[⟨1,1,1000000⟩,⟨7,1,1000000⟩,⟨9,1,1000000⟩,⟨10,1,2⟩,⟨8,1,255⟩,⟨11,0,IntKind.i64.wrap (f.n 12 - 1)⟩,⟨12,1,1200⟩,⟨14,0,1000000⟩]
theorem claim_any (b:Nat) (f:PF) (w:World) (hc:w.cell? ⟨b,12,none⟩=some (.int .i64 (f.n 12))):Calls Tryz.prog 256 #[.pointer (some ⟨b,0,none⟩)] w (FieldsE w b (claimL f)):=by
 have FIN:=Hd (fun (W:World) (h:Below w.heap.size w W)=>(show FieldsE w b [⟨1,1,1000000⟩,⟨7,1,1000000⟩,⟨9,1,1000000⟩,⟨10,1,2⟩,⟨8,1,255⟩,⟨11,0,IntKind.i64.wrap (f.n 12 - 1)⟩,⟨12,1,1200⟩,⟨14,0,1000000⟩] (.returned (.slice (some ⟨W.heap.size,0,none⟩) 8 8)) _ from ⟨W.heap.size,rfl,h.size,RowK_flat (encFd_len b) W [⟨1,1,1000000⟩,⟨7,1,1000000⟩,⟨9,1,1000000⟩,⟨10,1,2⟩,⟨8,1,255⟩,⟨11,0,IntKind.i64.wrap (f.n 12 - 1)⟩,⟨12,1,1200⟩,⟨14,0,1000000⟩] 286,h.alloc h.size _⟩));have B0:=Below.refl w.heap.size w;have C0:=Hd (fun (W:World) (h:Below w.heap.size w W)=>(show W.cell? ⟨b,12,none⟩=some (.int .i64 (f.n 12)) from by rw [h.cell (p:=⟨b,12,none⟩) (World.block_lt_of_cell? _ _ hc)];exact hc));go_enter Tryz.func256,Tryz.ntmps256
 go_wp2_with fail
 go_region_held3 (fun w'=>Below w.heap.size w w'∧w'.cell? ⟨b,12,none⟩=some (.int .i64 (f.n 12)))
  (first | (exact ⟨B0,hc⟩) | (exact ⟨B0.drew,C0.out _ B0.drew⟩) | (exact ⟨BelowN (And.left (by assumption)) hb1 (Nat.le_refl _),C0.out _ (BelowN (And.left (by assumption)) hb1 (Nat.le_refl _))⟩) | (exact ⟨BelowA (And.left (by assumption)) (Nat.le_refl _) _,C0.out _ (BelowA (And.left (by assumption)) (Nat.le_refl _) _)⟩) | assumption)
  (first
   | (go_at_call 281;(with_reducible refine (fid_any _ _).mono ?_);rintro e w' ⟨rfl,hb1⟩)
   | (go_at_call 283;(with_reducible refine (fperiod_any _ _).mono ?_);rintro e w' ⟨rfl,hb1⟩)
   | (go_at_call 282;(with_reducible refine (fterritory_any _ _).mono ?_);rintro e w' ⟨rfl,hb1⟩))
 go_wp2_with fail
 go_ret;refine FIN.out _ ?_;repeat (first | exact B0.drew | refine BelowN ?_ (by assumption) (Nat.le_refl _))
def contractL:List Fd:=[⟨9,1,1000000⟩,⟨11,0,1199⟩]
theorem contract_any (b:Nat) (w:World):Calls Tryz.prog 258 #[.pointer (some ⟨b,0,none⟩)] w (FieldsE w b contractL):=by
 have FIN:=Hd (fun (W:World) (h:Below w.heap.size w W)=>(show FieldsE w b [⟨9,1,1000000⟩,⟨11,0,1199⟩] (.returned (.slice (some ⟨W.heap.size,0,none⟩) 2 2)) _ from ⟨W.heap.size,rfl,h.size,RowK_flat (encFd_len b) W [⟨9,1,1000000⟩,⟨11,0,1199⟩] 286,h.alloc h.size _⟩));have B0:=Below.refl w.heap.size w;go_enter Tryz.func258,Tryz.ntmps258
 go_wp2_with fail
 go_region_held3 (fun w'=>Below w.heap.size w w')
  (first | (exact B0) | (exact B0.drew) | (exact BelowN (by assumption) hb1 (Nat.le_refl _)) | (exact BelowA (by assumption) (Nat.le_refl _) _) | assumption | (exact Below.drew (by assumption)))
  (first
   | (go_at_call 281;(with_reducible refine (fid_any _ _).mono ?_);rintro e w' ⟨rfl,hb1⟩)
   | (go_at_call 283;(with_reducible refine (fperiod_any _ _).mono ?_);rintro e w' ⟨rfl,hb1⟩)
   | (go_at_call 282;(with_reducible refine (fterritory_any _ _).mono ?_);rintro e w' ⟨rfl,hb1⟩))
 go_wp2_with fail
 go_ret;refine FIN.out _ ?_;repeat (first | exact B0.drew | refine BelowN ?_ (by assumption) (Nat.le_refl _))
def revenueL:List Fd:=[⟨1,1,1000000⟩,⟨3,0,1199⟩,⟨8,0,7⟩,⟨13,0,10000000000⟩,⟨15,0,20⟩]
theorem revenue_any (b:Nat) (w:World):Calls Tryz.prog 260 #[.pointer (some ⟨b,0,none⟩)] w (FieldsE w b revenueL):=by
 have FIN:=Hd (fun (W:World) (h:Below w.heap.size w W)=>(show FieldsE w b [⟨1,1,1000000⟩,⟨3,0,1199⟩,⟨8,0,7⟩,⟨13,0,10000000000⟩,⟨15,0,20⟩] (.returned (.slice (some ⟨W.heap.size,0,none⟩) 5 5)) _ from ⟨W.heap.size,rfl,h.size,RowK_flat (encFd_len b) W [⟨1,1,1000000⟩,⟨3,0,1199⟩,⟨8,0,7⟩,⟨13,0,10000000000⟩,⟨15,0,20⟩] 286,h.alloc h.size _⟩));have B0:=Below.refl w.heap.size w;go_enter Tryz.func260,Tryz.ntmps260
 go_wp2_with fail
 go_region_held3 (fun w'=>Below w.heap.size w w')
  (first | (exact B0) | (exact B0.drew) | (exact BelowN (by assumption) hb1 (Nat.le_refl _)) | (exact BelowA (by assumption) (Nat.le_refl _) _) | assumption | (exact Below.drew (by assumption)))
  (first
   | (go_at_call 281;(with_reducible refine (fid_any _ _).mono ?_);rintro e w' ⟨rfl,hb1⟩)
   | (go_at_call 283;(with_reducible refine (fperiod_any _ _).mono ?_);rintro e w' ⟨rfl,hb1⟩)
   | (go_at_call 282;(with_reducible refine (fterritory_any _ _).mono ?_);rintro e w' ⟨rfl,hb1⟩))
 go_wp2_with fail
 go_ret;refine FIN.out _ ?_;repeat (first | exact B0.drew | refine BelowN ?_ (by assumption) (Nat.le_refl _))
def subscriptionL:List Fd:=[⟨5,1,1000000⟩,⟨3,0,1199⟩,⟨8,0,7⟩,⟨13,0,1000000000⟩,⟨15,0,20⟩]
theorem subscription_any (b:Nat) (w:World):Calls Tryz.prog 261 #[.pointer (some ⟨b,0,none⟩)] w (FieldsE w b subscriptionL):=by
 have FIN:=Hd (fun (W:World) (h:Below w.heap.size w W)=>(show FieldsE w b [⟨5,1,1000000⟩,⟨3,0,1199⟩,⟨8,0,7⟩,⟨13,0,1000000000⟩,⟨15,0,20⟩] (.returned (.slice (some ⟨W.heap.size,0,none⟩) 5 5)) _ from ⟨W.heap.size,rfl,h.size,RowK_flat (encFd_len b) W [⟨5,1,1000000⟩,⟨3,0,1199⟩,⟨8,0,7⟩,⟨13,0,1000000000⟩,⟨15,0,20⟩] 286,h.alloc h.size _⟩));have B0:=Below.refl w.heap.size w;go_enter Tryz.func261,Tryz.ntmps261
 go_wp2_with fail
 go_region_held3 (fun w'=>Below w.heap.size w w')
  (first | (exact B0) | (exact B0.drew) | (exact BelowN (by assumption) hb1 (Nat.le_refl _)) | (exact BelowA (by assumption) (Nat.le_refl _) _) | assumption | (exact Below.drew (by assumption)))
  (first
   | (go_at_call 281;(with_reducible refine (fid_any _ _).mono ?_);rintro e w' ⟨rfl,hb1⟩)
   | (go_at_call 283;(with_reducible refine (fperiod_any _ _).mono ?_);rintro e w' ⟨rfl,hb1⟩)
   | (go_at_call 282;(with_reducible refine (fterritory_any _ _).mono ?_);rintro e w' ⟨rfl,hb1⟩))
 go_wp2_with fail
 go_ret;refine FIN.out _ ?_;repeat (first | exact B0.drew | refine BelowN ?_ (by assumption) (Nat.le_refl _))
def rateL:List Fd:=[⟨15,1,20⟩,⟨3,0,1199⟩,⟨13,1,10000000⟩]
theorem rate_any (b:Nat) (w:World):Calls Tryz.prog 263 #[.pointer (some ⟨b,0,none⟩)] w (FieldsE w b rateL):=by
 have FIN:=Hd (fun (W:World) (h:Below w.heap.size w W)=>(show FieldsE w b [⟨15,1,20⟩,⟨3,0,1199⟩,⟨13,1,10000000⟩] (.returned (.slice (some ⟨W.heap.size,0,none⟩) 3 3)) _ from ⟨W.heap.size,rfl,h.size,RowK_flat (encFd_len b) W [⟨15,1,20⟩,⟨3,0,1199⟩,⟨13,1,10000000⟩] 286,h.alloc h.size _⟩));have B0:=Below.refl w.heap.size w;go_enter Tryz.func263,Tryz.ntmps263
 go_wp2_with fail
 go_region_held3 (fun w'=>Below w.heap.size w w')
  (first | (exact B0) | (exact B0.drew) | (exact BelowN (by assumption) hb1 (Nat.le_refl _)) | (exact BelowA (by assumption) (Nat.le_refl _) _) | assumption | (exact Below.drew (by assumption)))
  (first
   | (go_at_call 281;(with_reducible refine (fid_any _ _).mono ?_);rintro e w' ⟨rfl,hb1⟩)
   | (go_at_call 283;(with_reducible refine (fperiod_any _ _).mono ?_);rintro e w' ⟨rfl,hb1⟩)
   | (go_at_call 282;(with_reducible refine (fterritory_any _ _).mono ?_);rintro e w' ⟨rfl,hb1⟩))
 go_wp2_with fail
 go_ret;refine FIN.out _ ?_;repeat (first | exact B0.drew | refine BelowN ?_ (by assumption) (Nat.le_refl _))
def advanceL:List Fd:=[⟨1,1,1000000⟩,⟨5,1,1000⟩,⟨3,0,1199⟩,⟨13,0,100000000000⟩]
theorem advance_any (b:Nat) (w:World):Calls Tryz.prog 265 #[.pointer (some ⟨b,0,none⟩)] w (FieldsE w b advanceL):=by
 have FIN:=Hd (fun (W:World) (h:Below w.heap.size w W)=>(show FieldsE w b [⟨1,1,1000000⟩,⟨5,1,1000⟩,⟨3,0,1199⟩,⟨13,0,100000000000⟩] (.returned (.slice (some ⟨W.heap.size,0,none⟩) 4 4)) _ from ⟨W.heap.size,rfl,h.size,RowK_flat (encFd_len b) W [⟨1,1,1000000⟩,⟨5,1,1000⟩,⟨3,0,1199⟩,⟨13,0,100000000000⟩] 286,h.alloc h.size _⟩));have B0:=Below.refl w.heap.size w;go_enter Tryz.func265,Tryz.ntmps265
 go_wp2_with fail
 go_region_held3 (fun w'=>Below w.heap.size w w')
  (first | (exact B0) | (exact B0.drew) | (exact BelowN (by assumption) hb1 (Nat.le_refl _)) | (exact BelowA (by assumption) (Nat.le_refl _) _) | assumption | (exact Below.drew (by assumption)))
  (first
   | (go_at_call 281;(with_reducible refine (fid_any _ _).mono ?_);rintro e w' ⟨rfl,hb1⟩)
   | (go_at_call 283;(with_reducible refine (fperiod_any _ _).mono ?_);rintro e w' ⟨rfl,hb1⟩)
   | (go_at_call 282;(with_reducible refine (fterritory_any _ _).mono ?_);rintro e w' ⟨rfl,hb1⟩))
 go_wp2_with fail
 go_ret;refine FIN.out _ ?_;repeat (first | exact B0.drew | refine BelowN ?_ (by assumption) (Nat.le_refl _))
def rulesL:List Fd:=[⟨11,0,1199⟩]
theorem rules_any (b:Nat) (w:World):Calls Tryz.prog 266 #[.pointer (some ⟨b,0,none⟩)] w (FieldsE w b rulesL):=by
 have FIN:=Hd (fun (W:World) (h:Below w.heap.size w W)=>(show FieldsE w b [⟨11,0,1199⟩] (.returned (.slice (some ⟨W.heap.size,0,none⟩) 1 1)) _ from ⟨W.heap.size,rfl,h.size,RowK_flat (encFd_len b) W [⟨11,0,1199⟩] 286,h.alloc h.size _⟩));have B0:=Below.refl w.heap.size w;go_enter Tryz.func266,Tryz.ntmps266
 go_wp2_with fail
 go_wp2_with (first
   | (go_at_call 281;(with_reducible refine (fid_any _ _).mono ?_);rintro e w' ⟨rfl,hb1⟩)
   | (go_at_call 283;(with_reducible refine (fperiod_any _ _).mono ?_);rintro e w' ⟨rfl,hb1⟩)
   | (go_at_call 282;(with_reducible refine (fterritory_any _ _).mono ?_);rintro e w' ⟨rfl,hb1⟩))
 go_ret;exact FIN.out _ hb1
def methodL:List Fd:=[⟨8,0,7⟩,⟨11,0,1199⟩,⟨16,1,2⟩]
theorem method_any (b:Nat) (w:World):Calls Tryz.prog 268 #[.pointer (some ⟨b,0,none⟩)] w (FieldsE w b methodL):=by
 have FIN:=Hd (fun (W:World) (h:Below w.heap.size w W)=>(show FieldsE w b [⟨8,0,7⟩,⟨11,0,1199⟩,⟨16,1,2⟩] (.returned (.slice (some ⟨W.heap.size,0,none⟩) 3 3)) _ from ⟨W.heap.size,rfl,h.size,RowK_flat (encFd_len b) W [⟨8,0,7⟩,⟨11,0,1199⟩,⟨16,1,2⟩] 286,h.alloc h.size _⟩));have B0:=Below.refl w.heap.size w;go_enter Tryz.func268,Tryz.ntmps268
 go_wp2_with fail
 go_region_held3 (fun w'=>Below w.heap.size w w')
  (first | (exact B0) | (exact B0.drew) | (exact BelowN (by assumption) hb1 (Nat.le_refl _)) | (exact BelowA (by assumption) (Nat.le_refl _) _) | assumption | (exact Below.drew (by assumption)))
  (first
   | (go_at_call 281;(with_reducible refine (fid_any _ _).mono ?_);rintro e w' ⟨rfl,hb1⟩)
   | (go_at_call 283;(with_reducible refine (fperiod_any _ _).mono ?_);rintro e w' ⟨rfl,hb1⟩)
   | (go_at_call 282;(with_reducible refine (fterritory_any _ _).mono ?_);rintro e w' ⟨rfl,hb1⟩))
 go_wp2_with fail
 go_ret;refine FIN.out _ ?_;repeat (first | exact B0.drew | refine BelowN ?_ (by assumption) (Nat.le_refl _))
end Fk
end
section
namespace Fk
open Go.RowKit
attribute [local go_sem] Oper.semAt_some
def encKS (k:ByteArray):Array Value:=#[.string k]
def encFt (e:ByteArray×PF):Value×Value:=(.string e.1,.agg (encP e.2).toArray)
theorem lt_of_blk {w:World} {b:Nat} {o:Obj} (h:w.heap[b]?=some o):b<w.heap.size:=(gE h).1
def PartK (l:List (ByteArray×PF)) (pre:List ByteArray) (left:List (Value×Value)):Prop:=
 ∃lf:List (ByteArray×PF),left=lf.map encFt∧(pre ++ lf.map (·.1)).Perm (l.map (·.1))
theorem PartK.step {l:List (ByteArray×PF)} {pre:List ByteArray} {left p post:List (Value×Value)} {k v:Value} (h:PartK l pre left) (hl:left=p ++ (k,v) :: post) :
  ∃i,k = .string i∧i∈l.map (·.1)∧pre.length<l.length∧PartK l (pre ++ [i]) (p ++ post):=by
 obtain ⟨lf,rfl,hp⟩:=h;obtain ⟨lp,⟨i,f⟩,lq,rfl,e2,rfl,rfl⟩:=map_split hl;cases e2;have hm:i∈l.map (·.1):=hp.mem_iff.1 (by simp);refine ⟨i,rfl,hm,by have:=hp.length_eq;simp at this;omega,lp ++ lq,by rw [List.map_append],?_⟩;refine List.Perm.trans ?_ hp;rw [List.append_assoc];refine List.Perm.append_left _ ?_;simpa using (List.perm_middle (a:=i) (l₁:=lp.map (·.1)) (l₂:=lq.map (·.1))).symm
theorem PartK.fin {l:List (ByteArray×PF)} {pre:List ByteArray} (h:PartK l pre []):pre.Perm (l.map (·.1)):=by
 obtain ⟨lf,e,hp⟩:=h;have:lf = []:=by simpa using e.symm
 subst this;simpa using hp
theorem qkeys_any (M:Nat) (w:World) :
  Calls Tryz.prog 144 #[.map (some M)] w fun e w'=>e = .returned (.func (.func 191) #[] #[.pointer (some ⟨w.heap.size,0,none⟩)])∧w'=w.alloc (.cells #[.map (some M)] 141):=by
 go_enter Tryz.func144,Tryz.ntmps144
 go_wp2
 go_ret;exact ⟨rfl,rfl⟩
theorem qkeys_seq {w:World} {M:Nat} {l:List (ByteArray×PF)} (n:Nat) (h:RawMap w M (l.map encFt)) (bx:Nat) (hbx:w.cell? ⟨bx,0,none⟩=some (.map (some M))) :
  SeqOwn n Tryz.prog 191 #[.pointer (some ⟨bx,0,none⟩)] encKS (fun pre x=>x∈l.map (·.1)∧pre.length<l.length) (fun k=>k=M) (fun xs=>xs.Perm (l.map (·.1))) w:=by
 intro lp J O W hW hO hJ hY h0;obtain ⟨L,hLL⟩:∃L,L=l.map encFt:=⟨_,rfl⟩;have HP:=Hd (show PartK l [] L from ⟨l,hLL,by simp⟩);rw [←hLL] at h;have hL:RawMap W M L:=h.kept (hW.block M h.lt);have hbc:W.cell? ⟨bx,0,none⟩=some (.map (some M)):=by rw [hW.cell (p:=⟨bx,0,none⟩) (World.block_lt_of_cell? _ _ hbx)];exact hbx
 have HJ:=Hd hJ;have HY:=Hd hY;have HL:=Hd hL;have HOM:=Hd (show ¬O M from fun q=>(hO M q).2 rfl);have HOB:=Hd (show ¬O W.heap.size from fun q=>by have:=(hO _ q).1;have:=hW.size;omega);have H0:=Hd h0;have HMS:=Hd (show M<W.heap.size from hL.lt);clear hJ hY hLL hL hbx hO h0 hW h;refine callsIn_of_wp Tryz.func191 rfl trivial ?_ rfl;simp only [Tryz.ntmps191,List.size_toArray,List.length_cons,List.length_nil,Nat.reduceAdd,Nat.reduceSub,Array.replicate_succ,Array.replicate_zero,List.push_toArray,List.append_toArray,List.nil_append,List.cons_append];gi_wp2_with (gi_at_range;refine wpListIn_range_raw _ rfl _ 141 (by rfl) 9 71 Tryz.underlying141 M L (by rfl) HL.out ?_;intro ob hob;have RG0:=Hd hob;have JJ0:=Hd (HJ.out _ _ _ _ _ H0.out (Chg.alloc (fun _=>False) W ob) (fun k h=>h.elim));clear hob)
 obtain ⟨it,hit⟩:∃it,W.heap.size=it:=⟨_,rfl⟩;rw [hit] at RG0 HOB ⊢;have HIT:=Hd hit;clear hit;try go_frame
 gi_loopw [] (fun wr=>∃(pre:List ByteArray) (left:List (Value×Value)) (O1:Nat→Prop),J pre O1 wr∧RawRange wr M it L left∧PartK l pre left∧¬O1 M∧¬O1 it) (fun wr=>wr.rangeLeft M it)
 case atStart=>exact ⟨[],L,O,JJ0.out,RG0.out,HP.out,HOM.out,HOB.out⟩
 case round=>
  obtain ⟨pre,left,O1,hj,hrg,hpt,hom,hoi⟩:=hrel;have JJ:=Hd hj;have RG:=Hd hrg;have LEN:=Hd hrg.left_len;have PT:=Hd hpt;have OM:=Hd hom;have OI:=Hd hoi;clear hj hrg hpt hom hoi;gi_wp2_with (gi_at_next;refine wpListIn_next_raw _ rfl _ (by rfl) M it L left (by rfl) RG.out ?_ ?_)
  ·intro hl;subst hl;gi_wp2
   go_end0
   exact ⟨⟨_,rfl⟩,_,_,PT.out.fin,JJ.out⟩
  intro k x p post w2 hl hm hr2 hg2 hs2 hen2;obtain ⟨i,rfl,he,hpl,hpt2⟩:=PT.out.step hl;have HLL:=Hd hl;have PT2:=Hd hpt2;have RG2:=Hd hr2;have J2:=Hd (HJ.out _ _ _ _ _ JJ.out (Chg.grown (C:=fun k=>k=it) hg2 (fun k e=>by cases e;rfl)) (fun k hk=>by subst hk;exact ⟨by rw [HIT.out];exact Nat.le_refl _,OI.out⟩));obtain ⟨fn,tmps,assign,body,hy,hR⟩:=HY.out _ _ _ _ ⟨he,hpl⟩ J2.out;dsimp only [encKS] at hy;have HRD:=Hd hR;clear hl hm hr2 hg2 hs2 hpt2 hR;gi_wp2
  refine ⟨fun h=>absurd h (by simp [Fence.wide]),HRD.out.mono ?_⟩;rintro e3 W3 ⟨rfl,O2,hj3,hc3,ho3⟩;have RR:=Hd (show RawRange W3 M it L (p ++ post)∧¬O2 M∧¬O2 it from ⟨RG2.out.kept (hc3.block _ RG2.out.map.lt OM.out) (hc3.block _ (by obtain ⟨_,_,_,_,_,_,_,_,_,q,_⟩:=RG2.out;exact lt_of_blk q) OI.out),(fun q=>by rcases ho3 _ q with q | q;exact OM.out q;have:=RG2.out.map.lt;omega),(fun q=>by rcases ho3 _ q with q | q;exact OI.out q;obtain ⟨_,_,_,_,_,_,_,_,_,q2,_⟩:=RG2.out;have:=lt_of_blk q2;omega)⟩);have J3:=Hd hj3;clear hj3 hc3 ho3;gi_wp2
  go_roundw
  case rel=>exact ⟨_,_,O2,J3.out,RR.out.1,PT2.out,RR.out.2.1,RR.out.2.2⟩
  case measure=>rw [RR.out.1.left_len,LEN.out,HLL.out];simp
end Fk
end
section
namespace Fk
open Go.RowKit Go.Sort Go.Lib
attribute [local go_sem] Oper.semAt_some
def unB (l:List UInt8):ByteArray:=⟨l.toArray⟩
theorem unB_data (s:ByteArray):unB s.data.toList=s:=by cases s;simp [unB]
theorem data_unB (l:List UInt8):(unB l).data.toList=l:=by simp [unB]
def rows (xs:List ByteArray):List (List UInt8):=xs.map (·.data.toList)
def sortedL (xs:List ByteArray):List (List UInt8):=(rows xs).mergeSort fun x y=>decide (x≤y)
theorem sortedL_len (xs:List ByteArray):(sortedL xs).length=xs.length:=by unfold sortedL rows;rw [List.length_mergeSort,List.length_map]
theorem sortedL_mem (xs:List ByteArray) (x:List UInt8):x∈sortedL xs↔x∈rows xs:=by unfold sortedL;rw [List.mem_mergeSort]
theorem sortedL_asc (xs:List ByteArray):(sortedL xs).Pairwise (·≤·):=by
 have:=List.pairwise_mergeSort (le:=fun x y:List UInt8=>decide (x≤y)) (fun a b c h1 h2=>by
  rw [decide_eq_true_eq] at *;exact List.le_trans h1 h2) (fun a b=>by
  rw [Bool.or_eq_true,decide_eq_true_eq,decide_eq_true_eq];exact List.le_total a b) (rows xs)
 exact this.imp (fun h=>by simpa using h)
theorem flat_encT (l:List ByteArray):l.flatMap encT=l.map Value.string:=by
 induction l with
 | nil=>rfl
 | cons a r ih=>rw [List.flatMap_cons,ih];rfl
theorem rows_enc (xs:List ByteArray):xs.flatMap encT=(rows xs).map encStr:=by rw [flat_encT];exact Go.Joins.strings_enc xs
theorem enc_rows (ys:List (List UInt8)):ys.map encStr=(ys.map unB).flatMap encT:=by
 have e:rows (ys.map unB)=ys:=by
  unfold rows;rw [List.map_map];conv=>rhs;rw [←List.map_id ys]
  exact List.map_congr_left fun y _=>data_unB y
 rw [rows_enc,e]
def sortK (xs:List ByteArray):List ByteArray:=(sortedL xs).map unB
theorem sortK_len (xs:List ByteArray):(sortK xs).length=xs.length:=by unfold sortK;rw [List.length_map,sortedL_len]
theorem sortK_enc (xs:List ByteArray):(sortedL xs).map encStr=(sortK xs).flatMap encT:=enc_rows _
theorem sortK_mem (xs:List ByteArray) (x:ByteArray):x∈sortK xs↔x∈xs:=by
 unfold sortK;rw [List.mem_map];constructor
 ·rintro ⟨y,hy,rfl⟩;rw [sortedL_mem] at hy;obtain ⟨z,hz,rfl⟩:=List.mem_map.1 hy;rw [unB_data];exact hz
 intro h;exact ⟨x.data.toList,(sortedL_mem _ _).2 (List.mem_map.2 ⟨x,h,rfl⟩),unB_data x⟩
theorem sortedL_perm {xs ys:List ByteArray} (h:xs.Perm ys):sortedL xs=sortedL ys:=by
 refine List.Perm.eq_of_pairwise (le:=(·≤·)) (fun a b _ _ h1 h2=>List.le_antisymm h1 h2) (sortedL_asc xs) (sortedL_asc ys) ?_;unfold sortedL rows;exact (List.mergeSort_perm _ _).trans ((h.map _).trans (List.mergeSort_perm _ _).symm)
theorem sortK_perm {xs ys:List ByteArray} (h:xs.Perm ys):sortK xs=sortK ys:=by unfold sortK;rw [sortedL_perm h]
theorem appseq_any (n bx M:Nat) (l:List (ByteArray×PF)) (w:World) (hn:l.length≤1000) (hm:RawMap w M (l.map encFt)) (hb:w.cell? ⟨bx,0,none⟩=some (.map (some M))) :
  CallsIn Fence.wide n Tryz.prog 234 #[.slice none 0 0,.func (.func 191) #[] #[.pointer (some ⟨bx,0,none⟩)]] w fun e w'=>∃(v:Value) (xs:List ByteArray),e = .returned v∧xs.Perm (l.map (·.1))∧w'.ownsRow w.heap.size 9 1 v xs.length (xs.flatMap encT)∧Below w.heap.size w w':=by
 obtain ⟨i0,hi,hz0,hz1,hz2⟩:=info_parts Tryz.infoStr;have HR:=Hd hm;clear hm;refine callsIn_of_wp_marks Tryz.func234 rfl trivial ?_ rfl;simp only [Tryz.ntmps234,List.size_toArray,List.length_cons,List.length_nil,Nat.reduceAdd,Nat.reduceSub,Array.replicate_succ,Array.replicate_zero,List.push_toArray,List.append_toArray,List.nil_append,List.cons_append];gi_wp2
 obtain ⟨W2,hW2⟩:∃W2,w.alloc (.cells #[.slice none 0 0] 30)=W2:=⟨_,rfl⟩;have hs2:W2.heap.size=w.heap.size+1:=by rw [←hW2];simp
 have B2:=Hd (show Below w.heap.size w W2 by rw [←hW2];exact (Below.refl _ w).alloc (Nat.le_refl _) _);have BX:=Hd (show Boxed W2 w.heap.size 30 (.slice none 0 0) by rw [←hW2];exact Boxed.new w _ _);have BM:=Hd (show W2.cell? ⟨bx,0,none⟩=some (.map (some M)) by rw [←hW2];exact cell_up hb _);have RM:=Hd (show RawMap W2 M (l.map encFt) from HR.out.kept (B2.out.block M HR.out.lt));rw [hW2];have HS2:=Hd hs2;clear hW2 hs2;refine wpIn_range_own (gf:=191) (lb:=#[.pointer (some ⟨bx,0,none⟩)]) rfl (enters_of Tryz.func191 (by kernel_rfl) rfl)
  (qkeys_seq _ RM.out bx BM.out) (fun _=>rfl)
  (fun pre O W=>∃v,BoxRow w W w.heap.size 30 9 1 pre.length v (pre.flatMap encT) O) (fun k=>k=w.heap.size∨(Value.slice none 0 0).ownBlock=some k) ?hO0 ?hI ?h0
  (fun pre x a' O W=>a' = {tmps:=#[.slice none 0 0,.func (.func 191) #[] #[.pointer (some ⟨bx,0,none⟩)],.pointer (some ⟨w.heap.size,0,none⟩),undef,.slice none 0 0,.string x,.func (.func 191) #[] #[.pointer (some ⟨bx,0,none⟩)],.string x,undef,undef,undef,undef,undef],defers:=[]} ∧
   ∃v,BoxRow w W w.heap.size 30 9 1 pre.length v (pre.flatMap encT) O) ?hM ?assign ?body ?done
 case hO0=>
  intro k hk;rcases hk with rfl | hk
  ·exact ⟨by have:=HS2.out;omega,fun h=>by have:=HR.out.lt;omega⟩
  simp [Value.ownBlock] at hk
 case hI=>rintro s O A A' C ⟨v,h⟩ hc hC;exact ⟨v,h.chg hc (fun k hk=>⟨by have:=(hC k hk).1;have:=HS2.out;omega,(hC k hk).2⟩)⟩
 case h0=>exact ⟨_,fun k=>Iff.rfl,BX.out,World.ownsRow_nil _ _ _ _,B2.out,Nat.le_refl _⟩
 case hM=>rintro s x a' O A A' C ⟨e,v,h⟩ hc hC;exact ⟨e,v,h.chg hc (fun k hk=>⟨by have:=(hC k hk).1;have:=HS2.out;omega,(hC k hk).2⟩)⟩
 case assign=>
  intro l' pre x O W K hx hi hK;dsimp only [encKS];gi_wp2
  exact hK _ O W ⟨rfl,hi⟩ (Chg.refl _ _) (fun k h=>.inl h)
 case body=>
  rintro l' pre x a' O W hx ⟨rfl,v,hbr⟩;have BR:=Hd hbr;have hcell:=hbr.box.cell;have hpl:pre.length≤1000:=by
   have:=hx.2;omega
  clear hbr hx;gi_wp2_with (first
   | (gi_at_builtin;refine wpListIn_append_own_at _ rfl _ _ 30 rfl w.heap.size 9 i0 (.string (ByteArray.mk #[])) 1 16 Tryz.underlying30 hi hz0 hz1 hz2 rfl (by decide) _ _ _ rfl (BR.out.row.alloc _) ⟨W.heap.size,0,none⟩ 1 1 (encT x) rfl rfl (cells_at _ _ _ _ rfl) (encT_one _) (by unfold maxLen;omega) (by omega) (by have:=BR.out.bel.size;simp;omega) ?_;intro v' w1 own gr hnil hloc;obtain ⟨g',cap',rfl⟩:=ownsRow_succ own;obtain ⟨hv1,hap⟩:=BR.out.appended (by decide) own gr hloc;have AP:=Hd hap;have hc1:=hv1.cell;have hf1:=hv1.frozen;clear own gr hnil hloc hap hv1)
   | gi_in)
  obtain ⟨O',h1,h2,h3⟩:=AP.out;exact ⟨O',⟨_,by rw [flat_snoc,List.length_append];exact h1⟩,h2,h3⟩
 case done=>
  rintro D xs O W hD hnD hxs ⟨v,hbr⟩ hK;have HXS:=Hd hxs;have hcell:=hbr.box.cell;have BR:=Hd hbr;obtain ⟨ao,cap,hv,h1,h2⟩:=rowK_of_owns encT_len (by decide) hbr.row;subst hv;clear hbr hxs;gi_wp2
  refine ⟨by simp,.inl ⟨_,_,rfl,run_takeDeferred hK,?_⟩⟩;have hB:=BR.out.chg (Chg.put W D (.deferred none) (C:=fun k=>k=D) rfl) (fun k hk=>by subst hk;exact ⟨by have:=HS2.out;omega,hnD⟩);exact ⟨_,results_tmp rfl _ _ _,.slice ao xs.length cap,xs,rfl,HXS.out,hB.row,hB.bel⟩
theorem collect_any (n bx M:Nat) (l:List (ByteArray×PF)) (w:World) (hn:l.length≤1000) (hm:RawMap w M (l.map encFt)) (hb:w.cell? ⟨bx,0,none⟩=some (.map (some M))) :
  CallsIn Fence.wide n Tryz.prog 189 #[.func (.func 191) #[] #[.pointer (some ⟨bx,0,none⟩)]] w fun e w'=>∃(v:Value) (xs:List ByteArray),e = .returned v∧xs.Perm (l.map (·.1))∧w'.ownsRow w.heap.size 9 1 v xs.length (xs.flatMap encT)∧Below w.heap.size w w':=by
 have AS:=Hd (fun m=>appseq_any m bx M l w hn hm hb);clear hm hb;refine callsIn_of_wp Tryz.func189 rfl trivial ?_ rfl;simp only [Tryz.ntmps189,List.size_toArray,List.length_cons,List.length_nil,Nat.reduceAdd,Nat.reduceSub,Array.replicate_succ,Array.replicate_zero,List.push_toArray,List.append_toArray,List.nil_append,List.cons_append];gi_wp2
 refine ⟨trivial,fun h=>absurd h (by simp [Fence.wide]),(AS.out _).mono ?_⟩;rintro e W2 ⟨v,xs,rfl,hpm,h2⟩;have PM:=Hd hpm;have H2:=Hd h2;obtain ⟨ao2,cap2,rfl,_,_⟩:=rowK_of_owns encT_len (by decide) h2.1;clear h2 hpm;gi_wp2
 go_ret;exact ⟨_,_,rfl,PM.out,H2.out⟩
theorem sorted_any (n bx M:Nat) (l:List (ByteArray×PF)) (w:World) (hn:l.length≤1000) (hm:RawMap w M (l.map encFt)) (hb:w.cell? ⟨bx,0,none⟩=some (.map (some M))) :
  CallsIn Fence.wide n Tryz.prog 143 #[.func (.func 191) #[] #[.pointer (some ⟨bx,0,none⟩)]] w fun e w'=>∃(v:Value) (xs:List ByteArray),e = .returned v∧xs.Perm (l.map (·.1))∧w'.ownsRow w.heap.size 9 1 v xs.length ((sortedL xs).map encStr)∧Below w.heap.size w w':=by
 have CO:=Hd (fun m=>collect_any m bx M l w hn hm hb);clear hm hb;refine callsIn_of_wp Tryz.func143 rfl trivial ?_ rfl;simp only [Tryz.ntmps143,List.size_toArray,List.length_cons,List.length_nil,Nat.reduceAdd,Nat.reduceSub,Array.replicate_succ,Array.replicate_zero,List.push_toArray,List.append_toArray,List.nil_append,List.cons_append];gi_wp2
 refine ⟨trivial,fun h=>absurd h (by simp [Fence.wide]),(CO.out _).mono ?_⟩;rintro e W2 ⟨v,xs,rfl,hpm,hrow,hbl⟩;have PM:=Hd hpm;have HL:=Hd (show xs.length≤1000 from by have:=hpm.length_eq;rw [List.length_map] at this;omega);clear hpm;rcases hrow.2 with ⟨rfl,hz⟩ | ⟨gb,cp,cur,rfl,hbase,hgb,r1,r2,r3,r4⟩
 ·have hx:xs = []:=List.eq_nil_of_length_eq_zero hz;subst hx;have HB:=Hd hbl;clear hrow hbl;gi_wp2
  refine wide_call (Tryz.slices_Sort_string_none none 0 W2) ?_;rintro e w' ⟨rfl,rfl⟩;gi_wp2
  go_ret;exact ⟨_,[],rfl,PM.out,by simpa [sortedL,rows] using World.ownsRow_nil w' w.heap.size 9 1,HB.out⟩
 have hr4:cur.toList.take (rows xs).length=(rows xs).map encStr:=by rw [←rows_enc,←r4];unfold rows;simp
 have hrl:(rows xs).length=xs.length:=by unfold rows;simp
 have hH:Holds encStr W2 gb 0 (rows xs).toArray:=holds_of_block hgb hr4;have hcall:=Tryz.slices_Sort_string gb 0 cp (rows xs) W2 hH (lt_of_blk hgb) (by have:=HL.out;omega);rw [hrl] at hcall;have CA:=Hd hcall;have FIN:=Hd (show ∀m os,(grow (putRow encStr (Sort.ahead W2 m) gb 0 (sortedL xs).toArray) os).ownsRow w.heap.size 9 1 (.slice (some ⟨gb,0,none⟩) xs.length cp) xs.length ((sortedL xs).map encStr)∧Below w.heap.size w (grow (putRow encStr (Sort.ahead W2 m) gb 0 (sortedL xs).toArray) os) from fun m os=>by
  have h1:=ownsRow_sorted (os:=os) (n:=m) (ts:=sortedL xs) (ss:=rows xs) (by rw [sortedL_len,hrl]) hbase hgb (by rw [hrl];exact r1) r2 r3;rw [hrl] at h1;exact ⟨h1,hbl.grown (grownBy_sorted _) hbl.size (fun j hj=>by cases hj;exact hbase)⟩)
 clear hrow hbl hH hcall hr4 hgb r1 r2 r3 r4;gi_wp2
 refine wide_call CA.out ?_;rintro e w' ⟨rfl,m,os,rfl⟩;have F2:=Hd (FIN.out m os);unfold sortedL at F2;gi_wp2
 go_ret;exact ⟨_,xs,rfl,PM.out,F2.out.1,F2.out.2⟩
theorem skeys_any (n bx M:Nat) (l:List (ByteArray×PF)) (w:World) (hn:l.length≤1000) (hm:RawMap w M (l.map encFt)) (hb:w.cell? ⟨bx,0,none⟩=some (.map (some M))) :
  CallsIn Fence.wide n Tryz.prog 143 #[.func (.func 191) #[] #[.pointer (some ⟨bx,0,none⟩)]] w fun e w'=>∃v,e = .returned v∧w'.ownsRow w.heap.size 9 1 v l.length ((sortK (l.map (·.1))).flatMap encT)∧Below w.heap.size w w':=
 (sorted_any n bx M l w hn hm hb).mono fun e w' ⟨v,xs,h1,h2,h3,h4⟩=>⟨v,h1,by
  rw [sortK_enc,sortK_perm h2] at h3;have:=h2.length_eq;rw [List.length_map] at this;rw [←this];exact h3,h4⟩
end Fk
end
end Go.Proofs.YtifcdjmcoibblaaGreatDoor
