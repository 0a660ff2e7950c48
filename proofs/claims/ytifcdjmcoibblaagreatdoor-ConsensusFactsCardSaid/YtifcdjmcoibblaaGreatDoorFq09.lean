/- Box Most Chs Sit -/
import Derived.Test.YtifcdjmcoibblaaGreatDoorFq07
import Derived.Test.YtifcdjmcoibblaaGreatDoorFq08
import Derived.Test.YtifcdjmcoibblaaGreatDoorFq01
import Derived.Sort.Walk0
import Derived.Lib.SlicesS
import Derived.Deep.QuietTactic
import Derived.Deep.DeepCutAuto
import Derived.Deep.RegionLaw
set_option linter.unusedVariables false
set_option linter.unusedSimpArgs false
set_option linter.unusedSectionVars false
set_option maxRecDepth 100000
set_option maxHeartbeats 80000000
namespace Go.Proofs.YtifcdjmcoibblaaGreatDoor
section
open Go.RowKit
def encCt (p:ByteArray×Int):Value×Value:=(.string p.1,iv p.2)
theorem encCt_eq (p:ByteArray×Int):encCt p=(Value.string p.1,iv p.2):=rfl
theorem good_ct (w:World) (l:List (ByteArray×Int)):KeysGood goodS w (l.map encCt):=by
 intro p hp;obtain ⟨x,_,rfl⟩:=List.mem_map.1 hp;exact ⟨_,rfl⟩
theorem look_ct {w:World} {b:Nat} {l:List (ByteArray×Int)} (h:RawMap w b (l.map encCt)) (d:ByteArray):(Instr.lookup 224 (.map (some b)) (.string d) false).run Tryz.prog w = .ok (.int .i64 ((getA d l).getD 0)) w:=by
 have:=h.lookup (P:=Tryz.prog) keyS Tryz.underlying224 (good_ct w _) (x:=.string d) ⟨d,rfl⟩ (zI w) false;rw [getV_enc (ek:=.string) (ev:=fun _=>iv) encCt_eq str_inj] at this;refine this.trans ?_;rcases getA d l with _ | q <;> rfl
theorem countsL_snoc (l:List ByteArray) (d:ByteArray):countsL (l ++ [d])=putA d ((getA d (countsL l)).getD 0+1) (countsL l):=by
 unfold countsL;rw [List.foldl_append];rfl
theorem voters_succ (k:Nat) (votes:List (Bal×ByteArray)) (a b c:Int):voters (k+1) votes a b c=voters k votes a b c ++ (match getA ((k:Int),a,b,c) votes with | some d=>[d] | none=>[]):=by
 unfold voters;rw [List.range_succ,List.filterMap_append];congr 1
 rcases h:getA ((k:Int),a,b,c) votes with _ | d <;> simp [h]
theorem counts_le {D:Type} [Dg D] (l:List D) (d:D):0≤(getA d (countsL l)).getD 0∧(getA d (countsL l)).getD 0≤(l.length:Int):=by
 rw [counts_get];split
 ·simp;exact List.count_le_length
 simp
theorem voters_len (k:Nat) (votes:List (Bal×ByteArray)) (a b c:Int):(voters k votes a b c).length≤k:=by
 unfold voters;exact Nat.le_trans (List.length_filterMap_le _ _) (by simp)
structure BoxAt (w:World) (bx vb:Nat) (n:Int) (votes:List (Bal×ByteArray)):Prop where
 cell:w.heap[bx]?=some (.cells #[iv n,mv vb] 221 (0,0))
 map:RawMap w vb (votes.map encVt)
theorem BoxAt.below {w w':World} {bx vb:Nat} {n:Int} {votes:List (Bal×ByteArray)} (h:BoxAt w bx vb n votes) (hb:Below w.heap.size w w'):BoxAt w' bx vb n votes:=
 ⟨(hb.block bx (gE h.cell).1).trans h.cell,h.map.kept (hb.block vb h.map.lt)⟩
theorem BoxAt.look {w:World} {bx vb:Nat} {n:Int} {votes:List (Bal×ByteArray)} (h:BoxAt w bx vb n votes) (a b c d:Int):(Instr.lookup 219 (.map (some vb)) (.agg #[.int .i64 a,.int .i64 b,.int .i64 c,.int .i64 d]) true).run Tryz.prog w = .ok (.tuple #[.string ((getA (a,b,c,d) votes).getD (ByteArray.mk #[])),.bool (getA (a,b,c,d) votes).isSome]) w:=by
 have:=h.map.lookup (P:=Tryz.prog) keyBal Tryz.underlying219 (good_vt w _) (x:=balv (a,b,c,d)) ⟨a,b,c,d,rfl⟩ (zS w) true;rw [getV_enc (ek:=balv) (ev:=fun _=>Value.string) encVt_eq balv_inj] at this;refine this.trans ?_;rcases getA (a,b,c,d) votes with _ | q <;> rfl
theorem NodeP.boxAt {R:Nat→Prop} {w:World} {x:Nat} {p:Ptr} {s:StB} (h:NodeP R w x p s):BoxAt w p.box p.votes s.n s.votes:=⟨h.rest.box.2,h.maps.votes⟩
theorem RawMap.fresh {w:World} {b:Nat} {L:List (Value×Value)} (h:RawMap w b L):∀k,w.heap.size≤k→b≠k:=fun k hk e=>by have:=h.lt;omega
theorem below_put {B:Nat} {a w:World} (h:Below B a w) {b:Nat} (hb:B≤b) (o:Obj):Below B a (w.putObj b o):=
 h.trans ⟨rfl,rfl,rfl,by simp [World.putObj],fun k hk=>World.putObj_heap_other (by omega)⟩
theorem counts_any {w:World} {bx vb:Nat} {n:Int} {votes:List (Bal×ByteArray)} (h:BoxAt w bx vb n votes) (h1:0≤n) (h7:n≤7) (kind height round:Int) :
  Calls Tryz.prog 221 #[pv bx,iv kind,iv height,iv round] w fun e w'=>e = .returned (.map (some w.heap.size))∧RawMap w' w.heap.size ((countsL (voters n.toNat votes kind height round)).map encCt)∧Below w.heap.size w w':=by
 have hmm:=@run_makeMap Tryz.prog;have H:=Hd h;have HB:=Hd (gE h.cell).1;have HM:=Hd (RawMap.made w);clear h;unfold pv iv;go_enter Tryz.func221,Tryz.ntmps221
 go_wp2
 go_loopw [10,11,12] (fun i _ _ wr=>∃k:Nat,(k:Int)≤n∧i = .int .i64 (k:Int)∧Below w.heap.size w wr∧w.heap.size<wr.heap.size∧RawMap wr w.heap.size ((countsL (voters k votes kind height round)).map encCt)) (fun i _ _ _=>n.toNat - (intOf i).toNat)
 case atStart=>exact ⟨0,by omega,rfl,(Below.refl _ _).alloc (Nat.le_refl _) _,by simp,HM.out⟩
 case round=>
  obtain ⟨k,hk,rfl,hb,hsz,hm⟩:=hrel;have HBX:=Hd (show BoxAt wr bx vb n votes from H.out.below hb);have c0:=cell_of_row wr bx 0 _ _ _ HBX.out.cell;have c1:=cell_of_row wr bx 1 _ _ _ HBX.out.cell;have f0:=frozen_of_row wr bx 0 _ _ HBX.out.cell;have f1:=frozen_of_row wr bx 1 _ _ HBX.out.cell;simp [iv,mv] at c0 c1;have HB2:=Hd hb;have HS2:=Hd hsz;have HM2:=Hd hm;clear hb hsz hm;have hlk:=HBX.out.look (k:Int) kind height round;by_cases hlt:(k:Int)<n
  ·rcases hg:getA ((k:Int),kind,height,round) votes with _ | d
   ·rw [hg] at hlk;simp at hlk;have HV:=Hd (show voters (k+1) votes kind height round=voters k votes kind height round from by rw [voters_succ,hg];simp);clear hg;go_wp2
    go_roundw
    case rel=>exact ⟨k+1,by omega,by simp,HB2.out,HS2.out,by rw [HV.out];exact HM2.out⟩
    case measure=>simp [intOf];omega
   rw [hg] at hlk;simp at hlk;have HV:=Hd (show voters (k+1) votes kind height round=voters k votes kind height round ++ [d] from by rw [voters_succ,hg]);clear hg;have hl2:=look_ct HM2.out d;have hle:=counts_le (voters k votes kind height round) d;have hvl:=voters_len k votes kind height round;obtain ⟨c,hc⟩:∃c,c=(getA d (countsL (voters k votes kind height round))).getD 0:=⟨_,rfl⟩;have HC:=Hd hc;rw [←hc] at hl2 hle;obtain ⟨hl0,hle⟩:=hle;have hl7:c≤7:=by omega
   clear hc hle hvl;go_wp2_with (refine wpList_mapUpdate_raw _ rfl (.tmp 40) (.tmp 41) (.tmp 43) 224 (by rfl) 9 3 Tryz.underlying224 keyS w.heap.size _ (by rfl) HM2.out (good_ct _ _) (.string d) (.int .i64 (c+1)) (by rfl) (by rfl) ⟨d,rfl⟩ ?_;intro ob hob;have HO:=Hd hob;clear hob)
   go_roundw
   case rel=>
    refine ⟨k+1,by omega,by simp,below_put HB2.out (Nat.le_refl _) ob,by have:=HS2.out;simpa [World.putObj] using this,?_⟩;rw [HV.out,countsL_snoc,←HC.out];have:=HO.out;rwa [show (Value.int .i64 (c+1))=iv (c+1) from rfl,putV_enc (ek:=.string) (ev:=fun _=>iv) encCt_eq str_inj] at this
   case measure=>simp [intOf];omega
  have e:k=n.toNat:=by omega
  have HK:=Hd e;clear e;go_wp2
  go_ret;rw [←HK.out];exact ⟨rfl,HM2.out,HB2.out⟩
end
section
open Go.RowKit
theorem lt_def (a b:ByteArray):Dg.lt a b=Op.bytesLess a.toList b.toList:=rfl
theorem toList_inj {a b:ByteArray} (h:a.toList=b.toList):a=b:=(Lib.bytes_beq_iff a b).1 (by simp [h])
instance:DgL ByteArray where
 irr a:=by rw [lt_def,bytesLess_eq];simp
 trans a b c:=by
  rw [lt_def,lt_def,lt_def,bytesLess_eq,bytesLess_eq,bytesLess_eq];simp only [decide_eq_true_eq];exact List.lt_trans
 tri a b:=by
  rw [lt_def,lt_def,bytesLess_eq,bytesLess_eq];simp only [decide_eq_false_iff_not,List.not_lt];intro h1 h2;exact toList_inj (List.le_antisymm h2 h1)
def cntD {D:Type} [Dg D] (l:List D) (d:D):Int:=(l.count d:Int)
theorem cntD_get {D:Type} [Dg D] (l:List D) (d:D):(getA d (countsL l)).getD 0=cntD l d:=by
 rw [counts_get];unfold cntD;split
 ·rfl
 rename_i h;simp [List.count_eq_zero.2 h]
theorem RawRange.left_len {w:World} {b r:Nat} {L left:List (Value×Value)} (h:RawRange w b r L left):w.rangeLeft b r=left.length:=by
 obtain ⟨es,clk,since,seen,c0,h1,_,_,_,h5,_,_,_,rfl⟩:=h;unfold World.rangeLeft;rw [h1,h5];simp only [List.length_map];unfold leftOf;rw [←Array.length_toList,Array.toList_filter]
section
variable {w:World} {bx vb:Nat} {n:Int} {votes:List (Bal×ByteArray)}
theorem count_any (h:BoxAt w bx vb n votes) (h1:0≤n) (h7:n≤7) (kind height round:Int) (d:ByteArray) :
  Calls Tryz.prog 174 #[pv bx,iv kind,iv height,iv round,.string d] w fun e w'=>e = .returned (.int .i64 (cntD (voters n.toNat votes kind height round) d))∧Below w.heap.size w w':=by
 have H:=Hd (counts_any h h1 h7 kind height round);clear h;unfold pv iv at *;rw [←cntD_get];go_enter Tryz.func174,Tryz.ntmps174
 go_wp2_with fail
 refine (H.out).mono ?_;rintro _ w1 ⟨rfl,hm,hb⟩;have HB:=Hd hb;have hl:=look_ct hm d;clear hb hm;go_wp2
 go_ret;exact ⟨rfl,HB.out⟩
theorem map_split {α β:Type} {f:α→β} {lf:List α} {pre post:List β} {k:β} (h:lf.map f=pre ++ k :: post):∃lp q lq,lf=lp ++ q :: lq∧f q=k∧lp.map f=pre∧lq.map f=post:=by
 induction pre generalizing lf with
 | nil=>
  cases lf with
  | nil=>simp at h
  | cons a l=>simp at h;exact ⟨[],a,l,rfl,h.1,rfl,h.2⟩
 | cons b pre ih=>
  cases lf with
  | nil=>simp at h
  | cons a l=>
   simp at h;obtain ⟨lp,q,lq,e1,e2,e3,e4⟩:=ih h.2;exact ⟨a :: lp,q,lq,by simp [e1],e2,by simp [h.1,e3],e4⟩
structure MostI (C:List (ByteArray×Int)) (w:World) (m it:Nat) (b:ByteArray×Int) (lf:List (ByteArray×Int)) (wr:World):Prop where
 rng:RawRange wr m it (C.map encCt) (lf.map encCt)
 dn:∃dn,(dn ++ lf).Perm C∧b=dn.foldl bst (ByteArray.mk #[],0)
 bel:Below w.heap.size w wr
 it:w.heap.size≤it
theorem MostI.next {C:List (ByteArray×Int)} {w wr w2:World} {m it:Nat} {b:ByteArray×Int} {lf:List (ByteArray×Int)} (h:MostI C w m it b lf wr) {k v:Value} {pre post:List (Value×Value)} (hl:lf.map encCt=pre ++ (k,v) :: post) (hr:RawRange w2 m it (C.map encCt) (pre ++ post)) (hg:wr.grownBy w2 (some it)) :
  ∃(d:ByteArray) (c:Int) (lf':List (ByteArray×Int)),k = .string d∧v = .int .i64 c∧lf.length=lf'.length+1∧MostI C w m it (bst b (d,c)) lf' w2∧(d,c)∈C:=by
 obtain ⟨lp,⟨d,c⟩,lq,rfl,e2,rfl,rfl⟩:=map_split hl;obtain ⟨dn,h1,h2⟩:=h.dn;cases e2;refine ⟨d,c,lp ++ lq,rfl,rfl,by simp;omega,⟨by rw [List.map_append];exact hr,⟨dn ++ [(d,c)],?_,by rw [List.foldl_append,←h2];rfl⟩,h.bel.grown hg (by have:=h.bel.size;exact this) (fun k e=>by cases e;exact h.it),h.it⟩,h1.mem_iff.1 (by simp)⟩;refine List.Perm.trans ?_ h1;rw [List.append_assoc];exact List.Perm.append_left dn (by simpa using (List.perm_middle (a:=(d,c)) (l₁:=lp) (l₂:=lq)).symm)
theorem mostB_any (h:BoxAt w bx vb n votes) (h1:0≤n) (h7:n≤7) (kind height round:Int) :
  Calls Tryz.prog 172 #[pv bx,iv kind,iv height,iv round] w fun e w'=>e = .returned (.tuple #[.string (mostL (voters n.toNat votes kind height round)).1,.int .i64 (mostL (voters n.toNat votes kind height round)).2])∧Below w.heap.size w w':=by
 have H:=Hd (counts_any h h1 h7 kind height round);clear h;unfold pv iv at *;obtain ⟨vs,hvs⟩:∃vs,voters n.toNat votes kind height round=vs:=⟨_,rfl⟩;rw [hvs] at H ⊢;clear hvs;go_enter Tryz.func172,Tryz.ntmps172
 go_wp2_with fail
 refine (H.out).mono ?_;rintro _ w1 ⟨rfl,hm,hb⟩;have HM:=Hd hm;have HB:=Hd hb;clear hm hb;obtain ⟨m,hmm⟩:∃m,w.heap.size=m:=⟨_,rfl⟩;rw [hmm] at HM ⊢;have HMM:=Hd hmm;clear hmm;go_wp2_with (at_range;go_loud (refine wpList_range_raw _ rfl (.tmp 18) 224 (by rfl) 9 3 Tryz.underlying224 m _ (by rfl) HM.out ?_;intro ob hob;have S0:=Hd (show MostI (countsL vs) w m w1.heap.size (ByteArray.mk #[],0) (countsL vs) (w1.alloc ob) from ⟨hob,⟨[],List.Perm.refl _,rfl⟩,HB.out.alloc HB.out.size _,HB.out.size⟩);clear hob))
 obtain ⟨it,hit⟩:∃it,w1.heap.size=it:=⟨_,rfl⟩;rw [hit] at S0 ⊢;clear hit;go_frame
 go_loopw [10,11,12,13] (fun b c _ _ wr=>∃bd bc lf,b = .string bd∧c = .int .i64 bc∧MostI (countsL vs) w m it (bd,bc) lf wr) (fun _ _ _ _ wr=>wr.rangeLeft m it)
 case atStart=>exact ⟨_,_,_,rfl,rfl,S0.out⟩
 case round=>
  obtain ⟨bd,bc,lf,rfl,rfl,hr⟩:=hrel;have RR:=Hd hr;have RNG:=Hd hr.rng;have LEN:=Hd hr.rng.left_len;clear hr;obtain ⟨LL,hLL⟩:∃LL,LL=lf.map encCt:=⟨_,rfl⟩;obtain ⟨CC,hCC⟩:∃CC,CC=(countsL vs).map encCt:=⟨_,rfl⟩;rw [←hLL,←hCC] at RNG;have HLC:=Hd (And.intro hLL hCC);clear hLL hCC;go_wp2_with (at_next;refine wpList_next_raw _ rfl (.tmp 19) (by rfl) m it CC LL (by rfl) RNG.out ?_ ?_)
  ·intro hl;have hl2:lf = []:=by rw [HLC.out.1] at hl;simpa using hl
   subst hl2;go_wp2
   go_ret2
   obtain ⟨dn,p1,p2⟩:=RR.out.dn;rw [List.append_nil] at p1;have:=most_any vs p1;rw [←show (bd,bc)=mostL vs from p2.trans this];rw [HMM.out.symm];exact ⟨rfl,RR.out.bel⟩
  intro k v pre post w2 hl hm hr2 hg2 hs2 hen2;rw [HLC.out.2] at hr2;obtain ⟨d,c,lf',rfl,rfl,hll,hnx,hmem⟩:=RR.out.next (HLC.out.1.symm.trans hl) hr2 hg2;have NX:=Hd hnx;have HLL:=Hd hll;clear hl hm hr2 hg2 hs2 hll hnx hmem;by_cases g1:bc<c
  ·have BE:=Hd (show bst (bd,bc) (d,c)=(d,c) from if_pos (.inl g1));go_wp2
   go_roundw
   case rel=>have:=NX.out;rw [BE.out] at this;exact ⟨_,_,_,rfl,rfl,this⟩
   case measure=>rw [NX.out.rng.left_len,LEN.out,List.length_map,List.length_map,HLL.out];omega
  by_cases g2:c=bc
  ·subst g2;rcases g3:Op.bytesLess d.toList bd.toList with _ | _
   ·have BE:=Hd (show bst (bd,c) (d,c)=(bd,c) from if_neg (by rintro (q | q);exact g1 q;have:=q.2;rw [lt_def] at this;rw [g3] at this;cases this));go_wp2
    go_roundw
    case rel=>have:=NX.out;rw [BE.out] at this;exact ⟨_,_,_,rfl,rfl,this⟩
    case measure=>rw [NX.out.rng.left_len,LEN.out,List.length_map,List.length_map,HLL.out];omega
   have BE:=Hd (show bst (bd,c) (d,c)=(d,c) from if_pos (.inr ⟨rfl,g3⟩));go_wp2
   go_roundw
   case rel=>have:=NX.out;rw [BE.out] at this;exact ⟨_,_,_,rfl,rfl,this⟩
   case measure=>rw [NX.out.rng.left_len,LEN.out,List.length_map,List.length_map,HLL.out];omega
  have BE:=Hd (show bst (bd,bc) (d,c)=(bd,bc) from if_neg (by rintro (q | q);exact g1 q;exact g2 q.1));have g4:(c == bc)=false:=by simpa using g2
  go_wp2
  go_roundw
  case rel=>have:=NX.out;rw [BE.out] at this;exact ⟨_,_,_,rfl,rfl,this⟩
  case measure=>rw [NX.out.rng.left_len,LEN.out,List.length_map,List.length_map,HLL.out];omega
end
end
section
open Go.RowKit
theorem NodeP.drew {R:Nat→Prop} {w:World} {x:Nat} {p:Ptr} {s:StB} (h:NodeP R w x p s):NodeP R w.drew x p s:=h.below ((Below.refl _ w).drew)
theorem NodeP.up {R:Nat→Prop} {w:World} {x:Nat} {p:Ptr} {s:StB} (h:NodeP R w x p s) (o:Obj):NodeP R (w.alloc o) x p s:=h.below ((Below.refl _ w).alloc (Nat.le_refl _) o)
theorem isEmpty_ne {d:ByteArray} (h:d≠ByteArray.mk #[]):d.toList.isEmpty=false:=by
 rw [List.isEmpty_eq_false_iff];intro q;exact h (toList_inj (by rw [q];simp))
section
variable {R:Nat→Prop} {w:World} {x:Nat} {p:Ptr} {s:StB}
def chosenE (s:StB) (kind round:Int):Value:=.tuple #[.string (s.most kind round).1,.bool (s.chosen kind round).isSome]
theorem chosen_any (h:NodeP R w x p s) (h1:1≤s.n) (h7:s.n≤7) (kind round:Int) :
  Calls Tryz.prog 176 #[pv x,iv kind,iv round] w fun e w'=>e = .returned (chosenE s kind round)∧Below w.heap.size w w':=by
 have M:=Hd (mostB_any h.drew.boxAt (by omega) h7 kind s.height round);have Q:=Hd (fun W=>quorum_any s.n W h1 h7);have c0:=h.nc.c0;have c12:=h.nc.c12;have c17:=h.nc.c17;have hfz:=h.nc.fz;have H:=Hd h;have E1:=Hd (show s.most kind round=mostL (voters s.n.toNat s.votes kind s.height round) from rfl);obtain ⟨v,hv⟩:∃v,s.most kind round=v:=⟨_,rfl⟩;have HV:=Hd hv;rw [←E1.out,hv] at M;obtain ⟨d,c⟩:=v;have hq:0≤quorumN s.n∧quorumN s.n≤7:=by unfold quorumN faultsN;omega
 clear h hv;unfold pv iv at *;go_enter Tryz.func176,Tryz.ntmps176
 go_upto_region 1 with (fail)
 go_region_law (go_simp;go_at_call 172;(with_reducible refine (M.out).mono ?_);rintro e w1 ⟨rfl,hb⟩;have HB:=Hd hb;clear hb)
 all_goals (
  have H1:=Hd (H.out.drew.below HB.out);have HB1:=Hd (show Below w.heap.size w w1 from ((Below.refl _ w).drew).trans HB.out);have d17:=H1.out.nc.c17;have dfz:=H1.out.nc.fz;have HE:=Hd (show s.chosen kind round=if d≠ByteArray.mk #[]∧quorumN s.n≤c then some d else none from by unfold NS.chosen;rw [HV.out];rfl);clear c0 c12 c17 hfz;by_cases hd:d=ByteArray.mk #[]
  ·have HR:=Hd (show chosenE s kind round = .tuple #[.string d,.bool false] from by unfold chosenE;rw [HV.out,HE.out,if_neg (fun q=>q.1 hd)];rfl);subst hd;go_wp2
   go_ret2
   exact ⟨by rw [HR.out];rfl,HB1.out⟩
  have n1:d.toList.isEmpty=false:=isEmpty_ne hd;have hs:(if d≠ByteArray.mk #[]∧quorumN s.n≤c then some d else none:Option ByteArray).isSome=decide (quorumN s.n≤c):=by
   by_cases q:quorumN s.n≤c <;> simp [hd,q]
  have HR:=Hd (show chosenE s kind round = .tuple #[.string d,.bool (decide (quorumN s.n≤c))] from by unfold chosenE;rw [HV.out,HE.out,hs]);clear hs;have HD:=Hd hd;clear hd;go_wp2_with (go_at_call 113;refine (Q.out _).mono ?_;rintro _ _ ⟨rfl,rfl⟩)
  go_ret2
  exact ⟨by rw [HR.out];rfl,HB1.out⟩)
end
end
section
open Go.RowKit
def clo (f:FuncId) (b:Nat):Value:=.func (.func f) #[] #[.pointer (some ⟨b,0,none⟩)]
def siteN (s:StB) (f:Int×Int→Bool):Int:=((s.stand.filter fun p=>f p.2).length:Int)
structure SiteI (R:Nat→Prop) (w:World) (x:Nat) (p:Ptr) (s:StB) (f:Int×Int→Bool) (it:Nat) (c:Int) (lf:List (Int×(Int×Int))) (wr:World):Prop where
 rng:RawRange wr p.stand it (s.stand.map encSt) (lf.map encSt)
 dn:∃dn,(dn ++ lf).Perm s.stand∧c=((dn.filter fun p=>f p.2).length:Int)
 bel:Below w.heap.size w wr
 it:w.heap.size≤it
theorem SiteI.le {R:Nat→Prop} {w wr:World} {x:Nat} {p:Ptr} {s:StB} {f:Int×Int→Bool} {it:Nat} {c:Int} {lf:List (Int×(Int×Int))} (h:SiteI R w x p s f it c lf wr):0≤c∧c≤s.stand.length:=by
 obtain ⟨dn,h1,h2⟩:=h.dn;have:=h1.length_eq;have h3:=List.length_filter_le (fun p=>f p.2) dn;simp at this;omega
theorem SiteI.next {R:Nat→Prop} {w wr w2:World} {x:Nat} {p:Ptr} {s:StB} {f:Int×Int→Bool} {it:Nat} {c:Int} {lf:List (Int×(Int×Int))} (h:SiteI R w x p s f it c lf wr) {k v:Value} {pre post:List (Value×Value)} (hl:lf.map encSt=pre ++ (k,v) :: post) (hr:RawRange w2 p.stand it (s.stand.map encSt) (pre ++ post)) (hg:wr.grownBy w2 (some it)) :
  ∃(a b i:Int) (lf':List (Int×(Int×Int))),k = .int .i64 i∧v = .agg #[.int .i64 a,.int .i64 b]∧lf.length=lf'.length+1∧∀w3,Below w2.heap.size w2 w3→SiteI R w x p s f it (if f (a,b)=true then c+1 else c) lf' w3:=by
 obtain ⟨lp,⟨i,a,b⟩,lq,rfl,e2,rfl,rfl⟩:=map_split hl;obtain ⟨dn,h1,h2⟩:=h.dn;cases e2;have hlt:p.stand<w2.heap.size∧it<w2.heap.size:=⟨hr.map.lt,by obtain ⟨es,clk,since,seen,c0,_,_,_,_,q5,_⟩:=hr;exact (gE q5).1⟩;have hb2:=h.bel.grown hg (by have:=h.bel.size;exact this) (fun k e=>by cases e;exact h.it);refine ⟨a,b,i,lp ++ lq,rfl,rfl,by simp;omega,fun w3 hb=>⟨by rw [List.map_append];exact hr.kept (hb.block _ hlt.1) (hb.block _ hlt.2),⟨dn ++ [(i,(a,b))],?_,?_⟩,hb2.trans (hb.mono hb2.size),h.it⟩⟩
 ·refine List.Perm.trans ?_ h1;rw [List.append_assoc];exact List.Perm.append_left dn (by simpa using (List.perm_middle (a:=(i,(a,b))) (l₁:=lp) (l₂:=lq)).symm)
 rw [List.filter_append,List.length_append,h2];by_cases q:f (a,b)=true <;> simp [q]
section
variable {R:Nat→Prop} {w:World} {x:Nat} {p:Ptr} {s:StB}
theorem sites_any (h:NodeP R w x p s) (fid:FuncId) (bv:Nat) (f:Int×Int→Bool) (eg:∀args w,(callFunc fid args).run Tryz.prog w = .ok (.enter fid args) w) (hst:s.stand.length≤1000)
  (hstep:∀W a b,Below w.heap.size w W→Calls Tryz.prog fid #[.agg #[.int .i64 a,.int .i64 b],.pointer (some ⟨bv,0,none⟩)] W fun e W'=>e = .returned (.bool (f (a,b)))∧Below W.heap.size W W') :
  Calls Tryz.prog 168 #[pv x,clo fid bv] w fun e w'=>e = .returned (.int .i64 (siteN s f))∧Below w.heap.size w w':=by
 have c13:=h.nc.c13;have hfz:=h.nc.fz;have HM:=Hd h.maps.stand;have HS:=Hd hstep;have H:=Hd h;clear h hstep;obtain ⟨LS,hLS⟩:∃LS,LS=s.stand.map encSt:=⟨_,rfl⟩;rw [←hLS] at HM;have HLS:=Hd hLS;clear hLS;unfold pv clo;go_enter Tryz.func168,Tryz.ntmps168
 go_wp2_with (at_range;refine wpList_range_raw _ rfl (.tmp 11) 112 (by rfl) 3 179 Tryz.underlying112 p.stand LS (by rfl) HM.out ?_;intro ob hob;have S0:=Hd (show SiteI R w x p s f w.heap.size 0 s.stand (w.alloc ob) from ⟨HLS.out ▸ hob,⟨[],List.Perm.refl _,rfl⟩,(Below.refl _ _).alloc (Nat.le_refl _) _,Nat.le_refl _⟩);clear hob)
 obtain ⟨it,hit⟩:∃it,w.heap.size=it:=⟨_,rfl⟩;have HIT:=Hd hit;rw [hit] at S0 ⊢;clear hit;go_frame
 go_loopw [4,6] (fun c _ wr=>∃bc lf,c = .int .i64 bc∧SiteI R w x p s f it bc lf wr) (fun _ _ wr=>wr.rangeLeft p.stand it)
 case atStart=>exact ⟨_,_,rfl,S0.out⟩
 case round=>
  obtain ⟨bc,lf,rfl,hr⟩:=hrel;have RR:=Hd hr;have RNG:=Hd hr.rng;have LEN:=Hd hr.rng.left_len;have hle:=hr.le;clear hr;obtain ⟨hl0,hle⟩:=hle;obtain ⟨LL,hLL⟩:∃LL,LL=lf.map encSt:=⟨_,rfl⟩;rw [←hLL,←HLS.out] at RNG;have HLC:=Hd hLL;clear hLL;go_wp2_with (at_next;refine wpList_next_raw _ rfl (.tmp 12) (by rfl) p.stand it LS LL (by rfl) RNG.out ?_ ?_)
  ·intro hl;have hl2:lf = []:=by rw [HLC.out] at hl;simpa using hl
   subst hl2;go_wp2
   go_ret;obtain ⟨dn,p1,p2⟩:=RR.out.dn;rw [List.append_nil] at p1;refine ⟨?_,RR.out.bel⟩;have:(s.stand.filter fun p=>f p.2).length=(dn.filter fun p=>f p.2).length:=(p1.filter _).length_eq.symm;show Ending.returned (Value.int .i64 bc)=_;rw [p2];unfold siteN;rw [this]
  intro k v pre post w2 hl hm hr2 hg2 hs2 hen2;rw [HLS.out] at hr2;obtain ⟨a,b,i,lf',rfl,rfl,hll,hnx⟩:=RR.out.next (HLC.out.symm.trans hl) hr2 hg2;have NX:=Hd hnx;have HLL:=Hd hll;have HB2:=Hd (RR.out.bel.grown hg2 (by have:=RR.out.bel.size;exact this) (fun k e=>by cases e;exact RR.out.it));have ST:=Hd (HS.out (w2.alloc (.cells #[.int .i64 a,.int .i64 b] 179)) a b (HB2.out.alloc HB2.out.size _));clear hl hm hr2 hg2 hs2 hll hnx;have FB:=Hd (fun (w3:World) (hb:Below (w2.alloc (.cells #[.int .i64 a,.int .i64 b] 179)).heap.size (w2.alloc (.cells #[.int .i64 a,.int .i64 b] 179)) w3)=>NX.out w3 (((Below.refl _ w2).alloc (Nat.le_refl _) _).trans (hb.mono (by simp))));clear NX;rcases hf:f (a,b) with _ | _
  ·rw [hf] at FB ST;clear hf;go_wp2_with (refine ST.out.mono ?_;rintro e w3 ⟨rfl,hb⟩;have HB:=Hd hb;clear hb)
   go_roundw
   case rel=>have:=FB.out _ HB.out;exact ⟨_,lf',rfl,this⟩
   case measure=>rw [(FB.out _ HB.out).rng.left_len,LEN.out,List.length_map,List.length_map,HLL.out];omega
  rw [hf] at FB ST;clear hf;go_wp2_with (refine ST.out.mono ?_;rintro e w3 ⟨rfl,hb⟩;have HB:=Hd hb;clear hb)
  go_roundw
  case rel=>have:=FB.out _ HB.out;exact ⟨_,lf',rfl,this⟩
  case measure=>rw [(FB.out _ HB.out).rng.left_len,LEN.out,List.length_map,List.length_map,HLL.out];omega
theorem reached1_any (a b r:Int) (bv:Nat) (W:World) (hb:W.heap[bv]?=some (.cells #[.int .i64 r] 3 (0,0))):Calls Tryz.prog 169 #[.agg #[.int .i64 a,.int .i64 b],.pointer (some ⟨bv,0,none⟩)] W fun e W'=>e = .returned (.bool (decide (r≤a)))∧Below W.heap.size W W':=by
 have c0:=cell_of_row W bv 0 _ _ _ hb;have f0:=frozen_of_row W bv 0 _ _ hb;have c0':=cell_up c0 (.cells #[.int .i64 a,.int .i64 b] 179);simp at c0;clear hb;go_enter Tryz.func169,Tryz.ntmps169
 go_wp2
 go_ret;exact ⟨rfl,by repeat (first | exact Below.refl _ _ | refine below_drewN ?_ _ | refine Below.alloc ?_ (by simp) _ | refine Below.drew ?_)⟩
theorem passed1_any (a b r:Int) (bv:Nat) (W:World) (hb:W.heap[bv]?=some (.cells #[.int .i64 r] 3 (0,0))):Calls Tryz.prog 170 #[.agg #[.int .i64 a,.int .i64 b],.pointer (some ⟨bv,0,none⟩)] W fun e W'=>e = .returned (.bool (decide (r<a) || decide (r≤b)))∧Below W.heap.size W W':=by
 have c0:=cell_of_row W bv 0 _ _ _ hb;have f0:=frozen_of_row W bv 0 _ _ hb;have c0':=cell_up c0 (.cells #[.int .i64 a,.int .i64 b] 179);simp at c0;clear hb;by_cases q:r<a
 ·have HQ:=Hd (show (decide (r<a) || decide (r≤b))=true from by simp [q]);go_enter Tryz.func170,Tryz.ntmps170
  go_wp2
  go_ret;rw [HQ.out];exact ⟨rfl,by repeat (first | exact Below.refl _ _ | refine below_drewN ?_ _ | refine Below.alloc ?_ (by simp) _ | refine Below.drew ?_)⟩
 have HQ:=Hd (show (decide (r<a) || decide (r≤b))=decide (r≤b) from by simp [q]);go_enter Tryz.func170,Tryz.ntmps170
 go_wp2
 go_ret;rw [HQ.out];exact ⟨rfl,by repeat (first | exact Below.refl _ _ | refine below_drewN ?_ _ | refine Below.alloc ?_ (by simp) _ | refine Below.drew ?_)⟩
theorem reached_any (h:NodeP R w x p s) (hst:s.stand.length≤1000) (r:Int):Calls Tryz.prog 114 #[pv x,iv r] w fun e w'=>e = .returned (.int .i64 (s.reached r))∧Below w.heap.size w w':=by
 have eg:∀args w,(callFunc 169 args).run Tryz.prog w = .ok (.enter 169 args) w:=enters_of Tryz.func169 (by kernel_rfl) rfl;have S:=Hd (sites_any (h.up (.cells #[.int .i64 r] 3)) 169 w.heap.size (fun q=>decide (r≤q.1)) eg hst (fun W a b hb=>reached1_any a b r w.heap.size W ((hb.block _ (by simp)).trans (World.alloc_heap_new w _))));have E:=Hd (show siteN s (fun q=>decide (r≤q.1))=s.reached r from rfl);clear eg h;unfold pv iv clo at *;go_enter Tryz.func114,Tryz.ntmps114
 go_wp2_with fail
 refine S.out.mono ?_;rintro e w1 ⟨rfl,hb⟩;have HB:=Hd hb;clear hb;go_wp2
 go_ret;rw [←E.out];exact ⟨rfl,((Below.refl _ w).alloc (Nat.le_refl _) _).trans (HB.out.mono (by simp))⟩
theorem passed_any (h:NodeP R w x p s) (hst:s.stand.length≤1000) (r:Int):Calls Tryz.prog 115 #[pv x,iv r] w fun e w'=>e = .returned (.int .i64 (s.passed r))∧Below w.heap.size w w':=by
 have eg:∀args w,(callFunc 170 args).run Tryz.prog w = .ok (.enter 170 args) w:=enters_of Tryz.func170 (by kernel_rfl) rfl;have S:=Hd (sites_any (h.up (.cells #[.int .i64 r] 3)) 170 w.heap.size (fun q=>decide (r<q.1) || decide (r≤q.2)) eg hst (fun W a b hb=>passed1_any a b r w.heap.size W ((hb.block _ (by simp)).trans (World.alloc_heap_new w _))));have E:=Hd (show siteN s (fun q=>decide (r<q.1) || decide (r≤q.2))=s.passed r from rfl);clear eg h;unfold pv iv clo at *;go_enter Tryz.func115,Tryz.ntmps115
 go_wp2_with fail
 refine S.out.mono ?_;rintro e w1 ⟨rfl,hb⟩;have HB:=Hd hb;clear hb;go_wp2
 go_ret;rw [←E.out];exact ⟨rfl,((Below.refl _ w).alloc (Nat.le_refl _) _).trans (HB.out.mono (by simp))⟩
end
end
end Go.Proofs.YtifcdjmcoibblaaGreatDoor
