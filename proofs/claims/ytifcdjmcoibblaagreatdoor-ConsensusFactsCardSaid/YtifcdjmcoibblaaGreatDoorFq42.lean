/- Fwa Fwk -/
import Derived.Test.YtifcdjmcoibblaaGreatDoorFq17
import Derived.Test.YtifcdjmcoibblaaGreatDoorFq41
import Derived.Test.YtifcdjmcoibblaaGreatDoorFq01
import Derived.StillTailTactics
import Derived.Deep.CutBlock
import Derived.Deep.RegionHeld3
set_option linter.unusedVariables false
set_option linter.unusedSimpArgs false
set_option linter.unusedSectionVars false
set_option maxRecDepth 100000
set_option maxHeartbeats 80000000
namespace Go.Proofs.YtifcdjmcoibblaaGreatDoor
section
open Go.RowKit
theorem OutR.nth {Z:Nat→Prop} {wt W:World} {ao:Option Addr} {cap n:Nat} {ms:List MsgB} (h:OutR Z wt W (.slice ao n cap) ms) {q:Nat} {m:MsgB} (hq:ms[q]?=some m) :
  ∃b off lo lc,ao=some ⟨b,off,none⟩∧(∀(j:Nat) (u:Value),(encM m (.slice lo m.list.length lc)).toList[j]?=some u→W.cell? ⟨b,off+q * 8+j,none⟩=some u)∧LRow (NewZ Z wt W) W (.slice lo m.list.length lc) m.list:=by
 obtain ⟨sls,h1,h2,h3⟩:=h;have hz:(sls.zip ms).length=ms.length:=by rw [List.length_zip,h1.len,Nat.min_self]
 obtain ⟨ao2,cap2,e,hc,hrw⟩:=rowK_of_owns (enc:=encP) (l:=sls.zip ms) encP_len (by decide) h2;injection e with e1 e2 e3
 subst e1;have hl:=(List.getElem?_eq_some_iff.1 hq).1;have hs:q<sls.length:=by rw [h1.len];exact hl
 have hzq:(sls.zip ms)[q]?=some (sls[q],m):=by
  rw [List.getElem?_zip_eq_some];exact ⟨List.getElem?_eq_getElem hs,hq⟩
 obtain ⟨b,off,e4,_,hcell⟩:=hrw q _ hzq;have hr:=all2_zip h1 _ (List.mem_of_getElem? hzq);obtain ⟨lo,lc,e5,_⟩:=id hr;simp only at e5 hr;rw [e5] at hcell hr;exact ⟨b,off,lo,lc,e4,hcell,hr⟩
theorem same_rows (ao bo:Option Addr) (ca cb:Nat) (l:List ByteArray) (W:World) {Ra Rb:Nat→Prop} (hl:l.length≤60) (ha:LRow Ra W (.slice ao l.length ca) l) (hb:LRow Rb W (.slice bo l.length cb) l) :
  Calls Tryz.prog 22 #[.slice ao l.length ca,.slice bo l.length cb] W fun e w'=>e = .returned (.bool true)∧Below W.heap.size W w':=by
 obtain ⟨a2,c2,e1,_,hra⟩:=ha.row;obtain ⟨b2,d2,e2,_,hrb⟩:=hb.row;injection e1 with e1 _ _
 injection e2 with e2 _ _
 subst e1 e2;refine (same_any ao bo ca cb _ _ l l W rfl rfl (by omega) hra hrb).mono ?_;rintro e w' ⟨rfl,h⟩;refine ⟨?_,h⟩;unfold sameB;rw [decide_eq_true rfl]
namespace Fk
open Go.RowKit Go.Sort Go.Lib
def encZ (i:Int):List Value:=[.int .i64 i]
def fsF (fl:List PF) (k:Nat):PF:=cutF (fl.getD k f0)
def hhF (hs:List Int) (i k:Nat):Bool:=decide (i<hs.length) && decide ((pickZ (hs.getD i 0) 4096).toNat >>> k % 2=1)
noncomputable def lsF (fl:List PF) (hs:List Int) (K i:Nat):List ByteArray:=idsS (ownK (hhF hs i) (fsF fl) K)
def X4 (a b c d:Nat) (k:Nat):Prop:=k=a∨k=b∨k=c∨k=d
theorem DockF.nil' {ls:Nat→List ByteArray} {X:Nat→Prop} {w1 W:World} (hb:0<w1.heap.size) (hG:Glob w1) (N:Nat) (h:Below w1.heap.size w1 W) (hX:∀k,X k→k<W.heap.size):DockF ls X w1.heap.size w1 N 0 (.slice none 0 0) W:=
 ⟨[],fun _ _=>False,rfl,Net.nil _ _ _ _,World.ownsRow_nil _ _ _ _,fun g hg=>by simp [Value.ownBlock] at hg,h,hb,Nat.le_refl _,hG,fun k hk=>⟨hX k hk,fun hr=>by obtain ⟨i,hi,_⟩:=hr;omega,by simp [Value.ownBlock]⟩⟩
structure Lp1 (fl:List PF) (hs:List Int) (K:Nat) (w0:World) (N q xa Ma:Nat) (v9 v10:Value) (W:World):Prop where
 all:SetAt W xa Ma (if q=0 then [] else allK (fsF fl) K)
 fst:∃xp Mp,v10 = .pointer (some ⟨xp,0,none⟩)∧SetAt W xp Mp (if q=0 then [] else ownK (hhF hs 0) (fsF fl) K)∧DockF (lsF fl hs K) (X4 xa Ma xp Mp) w0.heap.size w0 N q v9 W
 nil:q=0→v9 = .slice none 0 0
 lo:w0.heap.size≤xa∧w0.heap.size≤Ma
theorem Lp1.bel {fl:List PF} {hs:List Int} {K:Nat} {w0:World} {N q xa Ma:Nat} {v9 v10:Value} {W:World} (h:Lp1 fl hs K w0 N q xa Ma v9 v10 W):Below w0.heap.size w0 W:=by
 obtain ⟨xp,Mp,_,_,xs,Rs,_,_,_,_,hb,_⟩:=h.fst;exact hb
theorem Lp1.pos {fl:List PF} {hs:List Int} {K:Nat} {w0:World} {N q xa Ma:Nat} {v9 v10:Value} {W:World} (h:Lp1 fl hs K w0 N q xa Ma v9 v10 W):0<w0.heap.size∧Glob w0:=by
 obtain ⟨xp,Mp,_,_,xs,Rs,_,_,_,_,hb,hp,_,hG,_⟩:=h.fst;exact ⟨hp,hG⟩
structure Lp2 (fl:List PF) (hs:List Int) (K:Nat) (w0 wr:World) (q xa Ma xo Mo ka ko:Nat) (W:World):Prop where
 all:SetAt W xa Ma (if q=0 then allK (fsF fl) ka else allK (fsF fl) K)
 own:SetAt W xo Mo (ownK (hhF hs q) (fsF fl) ko)
 low:Below w0.heap.size w0 W
 keep:q≠0→Below wr.heap.size wr W
 sz:wr.heap.size≤W.heap.size
 a1:w0.heap.size≤xa∧w0.heap.size≤Ma
 a2:xa<wr.heap.size∧Ma<wr.heap.size
 o1:wr.heap.size≤xo∧wr.heap.size≤Mo
 w1:w0.heap.size≤wr.heap.size
section
variable {fl:List PF} {hs:List Int} {K:Nat} {w0 wr:World} {N q xa Ma xo Mo ka ko k:Nat} {v9 v10:Value} {W W':World}
theorem Lp1.start (h:Lp1 fl hs K w0 N q xa Ma v9 v10 wr) (hb:Below wr.heap.size wr W) (ho:SetAt W xo Mo []) (h1:wr.heap.size≤xo) (h2:wr.heap.size≤Mo):Lp2 fl hs K w0 wr q xa Ma xo Mo 0 0 W:=
 ⟨by
  have:=h.all.later hb;by_cases e:q=0
  ·rw [if_pos e] at this ⊢;exact this
  rw [if_neg e] at this ⊢;exact this,ho,h.bel.trans (hb.mono h.bel.size),fun _=>hb,hb.size,h.lo,⟨h.all.lx,h.all.map.lt⟩,⟨h1,h2⟩,h.bel.size⟩
theorem Lp2.later (h:Lp2 fl hs K w0 wr q xa Ma xo Mo ka ko W) (hb:Below W.heap.size W W'):Lp2 fl hs K w0 wr q xa Ma xo Mo ka ko W':=
 ⟨h.all.later hb,h.own.later hb,h.low.trans (hb.mono h.low.size),fun e=>(h.keep e).trans (hb.mono h.sz),Nat.le_trans h.sz hb.size,h.a1,h.a2,h.o1,h.w1⟩
theorem Lp2.glob (h:Lp2 fl hs K w0 wr q xa Ma xo Mo ka ko W) (hG:Glob w0):Glob W:=glob_below hG h.low
theorem Lp2.addAll (h:Lp2 fl hs K w0 wr q xa Ma xo Mo k ko W) (hG:Glob w0) (hk:k<K) (hK:K≤12) :
  Calls Tryz.prog 40 #[.pointer (some ⟨xa,0,none⟩),.agg (encP (fsF fl k)).toArray] W fun e w'=>(∃v,e = .returned v)∧Lp2 fl hs K w0 wr q xa Ma xo Mo (k+1) ko w'∧∀b,wr.heap.size≤b→b<W.heap.size→w'.heap[b]?=W.heap[b]?:=by
 have hl:(if q=0 then allK (fsF fl) k else allK (fsF fl) K).length≤3000:=by
  have h1:=ownK_len (fun _=>true) (fsF fl) k;have h2:=ownK_len (fun _=>true) (fsF fl) K;unfold allK;split <;> omega
 refine (add_any h.all hl (fsF fl k) (h.glob hG)).mono ?_;rintro e w' ⟨hv,hs',hc,hsame⟩;have hne:∀j,wr.heap.size≤j→j≠Ma:=fun j hj e=>by have:=h.a2.2;omega
 refine ⟨hv,⟨?_,?_,?_,?_,Nat.le_trans h.sz hc.size,h.a1,h.a2,h.o1,h.w1⟩,fun b h1 h2=>hc.block b h2 (hne b h1)⟩
 ·by_cases e:q=0
  ·rw [if_pos e] at hs' ⊢;rw [allK_next];exact hs'
  rw [if_neg e] at hs' ⊢;rw [all_again _ hk] at hs';exact hs'
 ·exact h.own.kept (hc.block xo h.own.lx (hne xo h.o1.1)) (hc.block Mo h.own.map.lt (hne Mo h.o1.2))
 ·exact h.low.trans (hc.below h.low.size (fun j hj=>by have hj:j=Ma:=hj;rw [hj];exact h.a1.2))
 intro e;refine (h.keep e).trans ((hsame ?_).mono h.sz);rw [if_neg e];exact all_again _ hk
theorem Lp2.addOwn (h:Lp2 fl hs K w0 wr q xa Ma xo Mo ka k W) (hG:Glob w0) (hk:k<K) (hK:K≤12) (hh:hhF hs q k=true) :
  Calls Tryz.prog 40 #[.pointer (some ⟨xo,0,none⟩),.agg (encP (fsF fl k)).toArray] W fun e w'=>(∃v,e = .returned v)∧Lp2 fl hs K w0 wr q xa Ma xo Mo ka (k+1) w':=by
 have hl:(ownK (hhF hs q) (fsF fl) k).length≤3000:=by
  have h1:=ownK_len (hhF hs q) (fsF fl) k;omega
 refine (add_any h.own hl (fsF fl k) (h.glob hG)).mono ?_;rintro e w' ⟨hv,hs',hc,_⟩;have hne:∀j,j<wr.heap.size→j≠Mo:=fun j hj e=>by have:=h.o1.2;omega
 refine ⟨hv,?_,?_,?_,?_,Nat.le_trans h.sz hc.size,h.a1,h.a2,h.o1,h.w1⟩
 ·exact h.all.kept (hc.block xa h.all.lx (hne xa h.a2.1)) (hc.block Ma h.all.map.lt (hne Ma h.a2.2))
 ·rw [ownK,if_pos hh];exact hs'
 ·exact h.low.trans (hc.below h.low.size (fun j hj=>by have hj:j=Mo:=hj;rw [hj];exact Nat.le_trans h.w1 h.o1.2))
 exact fun e=>(h.keep e).trans (hc.below h.sz (fun j hj=>by have hj:j=Mo:=hj;rw [hj];exact h.o1.2))
theorem Lp2.skip (h:Lp2 fl hs K w0 wr q xa Ma xo Mo ka k W) (hh:hhF hs q k=false):Lp2 fl hs K w0 wr q xa Ma xo Mo ka (k+1) W:=
 ⟨h.all,by rw [ownK,if_neg (by rw [hh];decide)];exact h.own,h.low,h.keep,h.sz,h.a1,h.a2,h.o1,h.w1⟩
def Dk1 (fl:List PF) (hs:List Int) (K:Nat) (w0:World) (N q xa Ma:Nat) (v9 v10:Value) (W:World):Prop:=
 SetAt W xa Ma (allK (fsF fl) K)∧∃xp Mp,v10 = .pointer (some ⟨xp,0,none⟩)∧SetAt W xp Mp (ownK (hhF hs 0) (fsF fl) K)∧DockF (lsF fl hs K) (X4 xa Ma xp Mp) w0.heap.size w0 N q v9 W
theorem Lp2.dock (h:Lp2 fl hs K w0 wr q xa Ma xo Mo K K W) (h1:Lp1 fl hs K w0 N q xa Ma v9 v10 wr):Dk1 fl hs K w0 N q xa Ma v9 (if q=0 then .pointer (some ⟨xo,0,none⟩) else v10) W:=by
 by_cases e:q=0
 ·subst e;have ha:=h.all;rw [if_pos rfl] at ha;refine ⟨ha,xo,Mo,if_pos rfl,h.own,?_⟩;rw [h1.nil rfl];refine DockF.nil' h1.pos.1 h1.pos.2 N h.low (fun k hk=>?_);rcases hk with rfl | rfl | rfl | rfl
  ·exact ha.lx
  ·exact ha.map.lt
  ·exact h.own.lx
  exact h.own.map.lt
 have ha:=h.all;rw [if_neg e] at ha;obtain ⟨xp,Mp,e1,e2,e3⟩:=h1.fst;rw [if_neg e] at e2;exact ⟨ha,xp,Mp,by rw [if_neg e];exact e1,e2.later (h.keep e),e3.later (h.keep e)⟩
def Dk2 (fl:List PF) (hs:List Int) (K:Nat) (w0:World) (N q xa Ma:Nat) (v9 v10:Value) (x:Nat) (s:StB) (W:World):Prop:=
 SetAt W xa Ma (allK (fsF fl) K)∧∃xp Mp,v10 = .pointer (some ⟨xp,0,none⟩)∧SetAt W xp Mp (ownK (hhF hs 0) (fsF fl) K)∧DockG (lsF fl hs K) (X4 xa Ma xp Mp) w0.heap.size w0 N q v9 x s W
theorem Dk1.later (h:Dk1 fl hs K w0 N q xa Ma v9 v10 W) (hb:Below W.heap.size W W'):Dk1 fl hs K w0 N q xa Ma v9 v10 W':=by
 obtain ⟨ha,xp,Mp,e,hp,hd⟩:=h;exact ⟨ha.later hb,xp,Mp,e,hp.later hb,hd.later hb⟩
theorem Dk2.later {x:Nat} {s:StB} (h:Dk2 fl hs K w0 N q xa Ma v9 v10 x s W) (hb:Below W.heap.size W W'):Dk2 fl hs K w0 N q xa Ma v9 v10 x s W':=by
 obtain ⟨ha,xp,Mp,e,hp,hd⟩:=h;exact ⟨ha.later hb,xp,Mp,e,hp.later hb,hd.later hb⟩
theorem Dk1.new (h:Dk1 fl hs K w0 N q xa Ma v9 v10 W) (hq:q<N) (h7:N≤7):Calls Tryz.prog 15 #[.int .i64 (q:Int),.int .i64 (N:Int)] W fun e w'=>∃x,e = .returned (.tuple #[pv x,.int .i64 0])∧Dk2 fl hs K w0 N q xa Ma v9 v10 x (newS (q:Int) (N:Int)) w'∧Below W.heap.size W w':=by
 obtain ⟨ha,xp,Mp,e,hp,hd⟩:=h;refine (dockf_new hd hq h7).mono ?_;rintro e2 w' ⟨x,rfl,h2,h3⟩;exact ⟨x,rfl,⟨ha.later h3,xp,Mp,e,hp.later h3,h2⟩,h3⟩
theorem lsF_ok (fl:List PF) (hs:List Int) {K:Nat} (hK:K≤12) (i:Nat):ascS (lsF fl hs K i)=true∧(lsF fl hs K i).length≤60:=
 ⟨ids_asc _ _ _,Nat.le_trans (ids_len _ _ _) (by omega)⟩
theorem x4a {a b c d:Nat}:X4 a b c d a:=.inl rfl
theorem x4b {a b c d:Nat}:X4 a b c d b:=.inr (.inl rfl)
theorem x4c {a b c d:Nat}:X4 a b c d c:=.inr (.inr (.inl rfl))
theorem x4d {a b c d:Nat}:X4 a b c d d:=.inr (.inr (.inr rfl))
theorem Dk2.begin {x:Nat} {R0:Nat→Prop} {vl:Value} (h:Dk2 fl hs K w0 N q xa Ma v9 v10 x (newS (q:Int) (N:Int)) W) (hK:K≤12) (hr:LRow R0 W vl (lsF fl hs K q)) (h0:∀k,R0 k→k<W.heap.size):Calls Tryz.prog 16 #[pv x,iv 0,vl] W fun e w'=>e = .returned (.int .i64 0)∧Dk2 fl hs K w0 N q xa Ma v9 v10 x (begF (lsF fl hs K) q (newS (q:Int) (N:Int))) w':=by
 obtain ⟨ha,xp,Mp,e,hp,hd⟩:=h;refine (dockf_begin hd (lsF_ok fl hs hK 0).1 (lsF_ok fl hs hK 0).2 (lsF_ok fl hs hK q).1 (lsF_ok fl hs hK q).2 hr h0).mono ?_;rintro e2 w' ⟨rfl,h2,h3⟩;exact ⟨rfl,ha.kept (h3 _ x4a) (h3 _ x4b),xp,Mp,e,hp.kept (h3 _ x4c) (h3 _ x4d),h2⟩
theorem wpList_dk2 {x:Nat} {v:Value} {o:Oper} {a:Act} {Q:Exit→Act→World→Prop} {ops:Array Oper} {rest:List Oper} (hgd:o.guard=none) (s2 x2:Operand)
  (ho:o.op = .call {callee:=.builtin .append,args:=#[s2,x2],argTypes:=#[24,24]})
  (hs2:a.eval s2=v) (h:Dk2 fl hs K w0 N q xa Ma v v10 x (begF (lsF fl hs K) q (newS (q:Int) (N:Int))) W) (hq:q<7)
  (hx:a.eval x2 = .slice (some ⟨W.heap.size,0,none⟩) 1 1)
  (hk:∀v' W',Lp1 fl hs K w0 N (q+1) xa Ma v' v10 W'→wpList Tryz.prog ops Q rest (a.put o.dst v') W') (hlo:w0.heap.size≤xa∧w0.heap.size≤Ma):wpList Tryz.prog ops Q (o :: rest) a (W.alloc (.cells #[pv x] 25)):=by
 obtain ⟨ha,xp,Mp,e,hp,hd⟩:=h;refine wpList_dockf hgd s2 x2 ho hs2 hd hq hx (fun v' W' hd' h3=>hk v' W' ⟨?_,⟨xp,Mp,e,?_,hd'⟩,fun e=>by omega,hlo⟩)
 ·rw [if_neg (by omega)];exact ha.kept (h3 _ x4a) (h3 _ x4b)
 rw [if_neg (by omega)];exact hp.kept (h3 _ x4c) (h3 _ x4d)
end
theorem flat_T (l:List ByteArray):l.flatMap encT=l.map Value.string:=by
 induction l with
 | nil=>rfl
 | cons a l ih=>rw [List.flatMap_cons,ih];rfl
theorem lrow_owns {w W:World} {v:Value} {l:List ByteArray} (h:W.ownsRow w.heap.size 9 1 v l.length (l.flatMap encT)):LRow (New w W) W v l:=by
 rcases h.2 with ⟨rfl,h0⟩ | ⟨g,cap,cur,rfl,hb,hg,hc,_,_,ht⟩
 ·have e:l = []:=List.length_eq_zero_iff.1 h0;subst e;exact ⟨none,0,rfl,⟨fun _=>rfl,Nat.le_refl _⟩,.inl rfl⟩
 refine ⟨some ⟨g,0,none⟩,cap,rfl,⟨fun e=>(by cases e),hc⟩,.inr ⟨g,0,cur,(0,0),rfl,⟨hb,(gE hg).1⟩,hg,fun i p hp=>?_⟩⟩;have hi:=(List.getElem?_eq_some_iff.1 hp).1;have h3:(cur.toList.take (l.length * 1))[i]?=some (.string p):=by rw [ht,flat_T,List.getElem?_map,hp];rfl
 rw [List.getElem?_take_of_lt (by omega),Array.getElem?_toList] at h3;rw [Nat.zero_add];exact h3
theorem ids_row {w:World} {x M:Nat} {S:List (ByteArray×PF)} (hS:SetAt w x M S) (hn:S.length≤1000) :
  Calls Tryz.prog 41 #[.pointer (some ⟨x,0,none⟩)] w fun e w'=>∃v,e = .returned v∧LRow (New w w') w' v (idsS S)∧Below w.heap.size w w':=by
 refine (ids_any hS hn).mono ?_;rintro e w' ⟨v,rfl,h1,h2⟩;exact ⟨v,rfl,lrow_owns (by rw [idsS_len];exact h1),h2⟩
structure Two2 (l0:List ByteArray) (SA SF:List (ByteArray×PF)):Prop where
 ids:idsS SF=l0
 all:∀id∈l0,(getA id SA).isSome=true
 back:idsS (partS SA l0)=l0
 lf:SF.length≤60
 lp:(partS SA l0).length≤60
 zf:∀e∈SF,e.1.size≤1000
 zp:∀e∈partS SA l0,e.1.size≤1000
 len:l0.length≤60
theorem two2 (fl:List PF) (hs:List Int) {K:Nat} (hK:K≤12):Two2 (lsF fl hs K 0) (allK (fsF fl) K) (ownK (hhF hs 0) (fsF fl) K):=by
 have hz:=ownK_size (hhF hs 0) (fsF fl) K;have hl:=ownK_len (hhF hs 0) (fsF fl) K;have hb:=ids_back (hhF hs 0) (fsF fl) K;refine ⟨rfl,own_in_all _ _ _,hb,by omega,?_,fun e he=>by have:=hz e he;omega,fun e he=>?_,(lsF_ok fl hs hK 0).2⟩
 ·have h1:=idsS_len (partS (allK (fsF fl) K) (lsF fl hs K 0));have h2:=(lsF_ok fl hs hK 0).2;rw [←h1];show (idsS (partS (allK (fsF fl) K) (idsS (ownK (hhF hs 0) (fsF fl) K)))).length≤60;rw [hb];exact h2
 have h1:e.1∈idsS (partS (allK (fsF fl) K) (idsS (ownK (hhF hs 0) (fsF fl) K))):=(idsS_mem _ _).2 (List.mem_map_of_mem (f:=(·.1)) he);rw [hb] at h1;obtain ⟨e2,h2,h3⟩:=List.mem_map.1 ((idsS_mem _ _).1 h1);have:=hz e2 h2;rw [←h3];omega
structure FlX (l0:List ByteArray) (SA SF:List (ByteArray×PF)) (xa Ma xp Mp:Nat) (w0:World) (gn:Nat) (cur:Array Value) (xs:List Nat) (ns:List StB) (R:Nat→Nat→Prop) (W:World):Prop where
 fl:Fl (GO l0) w0.heap.size w0 gn cur xs ns R W
 all:SetAt W xa Ma SA
 fst:SetAt W xp Mp SF
 out:∀k,X4 xa Ma xp Mp k→¬AllR xs.length R k
section
variable {l0:List ByteArray} {SA SF:List (ByteArray×PF)} {xa Ma xp Mp:Nat} {w0:World} {gn:Nat} {cur:Array Value} {xs:List Nat} {ns ns':List StB} {R R':Nat→Nat→Prop} {W W':World}
theorem FlX.lt (h:FlX l0 SA SF xa Ma xp Mp w0 gn cur xs ns R W) {k:Nat} (hk:X4 xa Ma xp Mp k):k<W.heap.size:=by
 rcases hk with rfl | rfl | rfl | rfl
 ·exact h.all.lx
 ·exact h.all.map.lt
 ·exact h.fst.lx
 exact h.fst.map.lt
theorem FlX.later (h:FlX l0 SA SF xa Ma xp Mp w0 gn cur xs ns R W) (hb:Below W.heap.size W W'):FlX l0 SA SF xa Ma xp Mp w0 gn cur xs ns R W':=⟨h.fl.later hb,h.all.later hb,h.fst.later hb,h.out⟩
theorem FlX.sail (h:FlX l0 SA SF xa Ma xp Mp w0 gn cur xs ns R W) (s:Sail (GO l0) w0.heap.size W xs R W' ns' R'):FlX l0 SA SF xa Ma xp Mp w0 gn cur xs ns' R' W':=by
 have hk:∀k,X4 xa Ma xp Mp k→W'.heap[k]?=W.heap[k]?:=fun k hk=>s.chg.block k (h.lt hk) (h.out k hk);exact ⟨h.fl.sail s,h.all.kept (hk _ x4a) (hk _ x4b),h.fst.kept (hk _ x4c) (hk _ x4d),fun k hk hr=>(s.grow k hr).elim (h.out k hk) (fun q=>by have:=h.lt hk;omega)⟩
theorem wpList_flpushX {wt wx:World} {v v3:Value} {ms nw:List MsgB} {o:Oper} {a:Act} {Q:Exit→Act→World→Prop} {ops:Array Oper} {rest:List Oper} (hgd:o.guard=none) (s x:Operand)
  (ho:o.op = .call {callee:=.builtin .append,args:=#[s,x],argTypes:=#[33,33]})
  (hs:a.eval s=v) (hx:a.eval x=v3) (F:FlX l0 SA SF xa Ma xp Mp w0 gn cur xs ns R W) (hO:OutR (AllR xs.length R) wt W v ms) (hO3:OutR (AllR xs.length R) wx W v3 nw) (h1:wt.heap.size≤wx.heap.size) (h2:w0.heap.size≤wt.heap.size) (h3:gn<wt.heap.size) (h4:∀k,X4 xa Ma xp Mp k→k<wt.heap.size) (hwt:wt.heap.size≤W.heap.size)
  (hlen:ms.length+nw.length≤100000000) (h:∀v' W',OutR (AllR xs.length R) wt W' v' (ms ++ nw)→FlX l0 SA SF xa Ma xp Mp w0 gn cur xs ns R W'→wt.heap.size≤W'.heap.size→wpList Tryz.prog ops Q rest (a.put o.dst v') W'):wpList Tryz.prog ops Q (o :: rest) a W:=by
 have hcs:=cutW_size hwt;refine wpList_push_row (w:=cutW wt.heap.size W) hgd s x ho hs (hO.rebase hcs) (by rw [hcs];exact cutW_below hwt) (fun k hk=>F.fl.net.lt hk) hx hO3 (fun k hk=>⟨⟨by rw [hcs];exact Nat.le_trans h1 hk.1.1,hk.1.2⟩,hk.2⟩) hlen ?_;intro v' W' o1 k1 b1 z1;rw [hcs] at b1;have b2:=cut_same b1 hwt k1.size;have hk:∀k,X4 xa Ma xp Mp k→W'.heap[k]?=W.heap[k]?:=fun k hk=>b2.block k (h4 k hk);exact h v' W' (o1.rebase hcs.symm) ⟨F.fl.kept (b2.mono h2) z1 (b2.block gn h3),F.all.kept (hk _ x4a) (hk _ x4b),F.fst.kept (hk _ x4c) (hk _ x4d),F.out⟩ (Nat.le_trans hwt k1.size)
end
end Fk
end
section
namespace Fk
open Go.RowKit Go.Sort Go.Lib
theorem bit_dec (p k:Nat):(((p:Int) / 2 ^ k).tmod 2 == 1)=decide (p >>> k % 2=1):=by
 have e:((p:Int) / 2 ^ k)=((p >>> k:Nat):Int):=by rw [Nat.shiftRight_eq_div_pow];push_cast;rfl
 rw [e];generalize p >>> k=y;rw [Int.tmod_eq_emod_of_nonneg (Int.natCast_nonneg y),Bool.eq_iff_iff,beq_iff_eq,decide_eq_true_iff];omega
section
variable (n:Int) (fl:List PF) (hs:List Int) (ao bo:Option Addr) (ln cap hn hcap:Nat) (w:World)
theorem facts_any (hn1:-9223372036854775808≤n) (hn2:n≤9223372036854775807) (hfl:fl.length=ln) (hfr:RowK 18 encP w ao fl) (hhl:hs.length=hn) (hhr:RowK 1 encZ w bo hs) (hhz:∀z∈hs,-9223372036854775808≤z∧z≤9223372036854775807) (hG:Glob w) :
  Calls Tryz.prog 8 #[.int .i64 n,.slice ao ln cap,.slice bo hn hcap] w fun e w'=>e = .returned (.bool true)∧Below w.heap.size w w':=by
 have HGL:=Hd hG;have SN:=Hd (sane_any w hG);obtain ⟨N1,hN1,hpn⟩:=pickZ_nat n 7 (by omega);obtain ⟨N,hN⟩:∃N:Nat,N=1+N1:=⟨_,rfl⟩;have PN:=Hd (show ∀W,Calls Tryz.prog 14 #[.int .i64 n,.int .i64 7] W fun e w'=>e = .returned (.int .i64 (N1:Int))∧w'=W from fun W=>(pick_any n 7 W hn1 hn2 (by omega) (by omega)).mono fun e w' q=>⟨by rw [q.1];exact congrArg _ (congrArg _ hpn),q.2.symm⟩);have ew0:IntKind.wrap .i64 (1+(N1:Int))=(N:Int):=by rw [IntKind.wrap_i64];omega
 have n1:1≤(N:Int):=by omega
 have n7:(N:Int)≤7:=by omega
 have HNN:=Hd (show 1≤N∧N≤7 from by omega);have HFL:=Hd hfl;have HFR:=Hd hfr;have HHL:=Hd hhl;have HHR:=Hd hhr;have HHZ:=Hd hhz;clear hG hpn hN hfl hfr hhl hhr hhz hN1;go_enter Tryz.func8,Tryz.ntmps8
 go_upto_region 3 with (first
  | (go_at_call 13;(with_reducible refine SN.out.mono ?_);rintro e w0 ⟨rfl,hb0⟩;have HB0:=Hd hb0;clear hb0)
  | (go_at_call 14;(with_reducible refine (PN.out _).mono ?_);rintro e wq ⟨rfl,hwq⟩;rw [hwq];clear hwq wq))
 have HG0:=Hd (glob_below HGL.out HB0.out);have HP0:=Hd (show 0<w0.heap.size from by
  obtain ⟨t,ht⟩:=HG0.out;exact (gE ht).1)
 clear SN PN;go_upto_region 7 with (go_at_call 39;(with_reducible refine (new_set _).mono ?_);rintro e wA ⟨xa,Ma,rfl,hsA,hbA,hxa,hMa⟩;have SA:=Hd hsA;have BA:=Hd hbA;have LA:=Hd (And.intro hxa hMa);clear hsA hbA hxa hMa)
 go_upto_region 8 with (go_at_call 39;(with_reducible refine (new_set _).mono ?_);rintro e wB ⟨xf,Mf,rfl,hsB,hbB,hxf,hMf⟩;have SB:=Hd hsB;have BB:=Hd (BA.out.trans (hbB.mono BA.out.size));have SA2:=Hd (SA.out.later hbB);clear hsB hbB hxf hMf)
 go_upto_region 9 with (fail)
 obtain ⟨K,hK⟩:∃K,K=min ln 12:=⟨_,rfl⟩;have HK:=Hd hK;have K12:=Hd (show K≤12 from by omega);clear hK;go_loopg [9,10,11] N (fun gh v9 v10 v11 wr=>∃q:Nat,v11 = .int .i64 (q:Int)∧q≤N∧N - q≤gh∧Hid (Lp1 fl hs K w0 N q xa Ma v9 v10 wr))
 case atStart=>exact ⟨0,rfl,by omega,by omega,Hd ⟨SA2.out,⟨xf,Mf,rfl,SB.out,DockF.nil' HP0.out HG0.out N BB.out (fun k hk=>by
  rcases hk with rfl | rfl | rfl | rfl
  ·exact SA2.out.lx
  ·exact SA2.out.map.lt
  ·exact SB.out.lx
  exact SB.out.map.lt)⟩,fun _=>rfl,LA.out⟩⟩
 case round=>
  clear SA SA2 SB BA BB;obtain ⟨q,rfl,hq,hgq,HL1⟩:=hrel;by_cases hlt:q<N
  ·have q0:(0:Int)≤(q:Int):=by omega
   have q1:(q:Int)<(N:Int):=by omega
   have HLT:=Hd hlt;have HGQ:=Hd hgq;clear hlt hgq;go_upto_region 13 with (go_at_call 39;(with_reducible refine (new_set _).mono ?_);rintro e w2 ⟨xo,Mo,rfl,hso,hbo,hxo,hMo⟩;have L2:=Hd (HL1.out.start hbo hso hxo hMo);clear hso hbo hxo hMo)
   obtain ⟨wb,rfl⟩:∃wb:World,wb=wr:=⟨_,rfl⟩;go_loopg [13] K (fun gh v13 wk=>∃k:Nat,v13 = .int .i64 (k:Int)∧k≤K∧K - k≤gh∧Hid (Lp2 fl hs K w0 wb q xa Ma xo Mo k k wk))
   case atStart=>exact ⟨0,rfl,by omega,by omega,L2⟩
   case round=>
    clear L2;obtain ⟨wk,rfl⟩:∃wk:World,wk=wr:=⟨_,rfl⟩;obtain ⟨k,rfl,hk,hgk,HL2⟩:=hrel;have k0:(0:Int)≤(k:Int):=by omega
    by_cases hkl:k<K
    ·have KK:=HK.out;have k1:(k:Int)<(ln:Int):=by omega
     have k2:(k:Int)<12:=by omega
     obtain ⟨f,hf⟩:∃f,fl[k]?=some f:=⟨_,List.getElem?_eq_getElem (by rw [HFL.out];omega)⟩;have HFS:=Hd (show fsF fl k=cutF f from by unfold fsF;rw [List.getD_eq_getElem?_getD,hf];rfl);obtain ⟨b,off,rfl,hbl,hft⟩:=ft_row HFR.out hf;have FT:=Hd (hft.later hbl (HB0.out.trans (HL2.out.low.mono HB0.out.size)));have LD:=Hd (ld38 FT.out);have ST:=Hd (put38_run wk f);have HKL:=Hd hkl;have HGK:=Hd hgk;clear hft hf hbl KK hkl hgk;go_upto_region 16 with (first
      | ((with_reducible refine wpList_loadL ?_ LD.out ?_);focus rfl)
      | ((with_reducible refine wpList_storeL ?_ ?_ ST.out ?_);(focus rfl);(focus rfl)))
     have B4:=Hd (put38_below wk f);have F4:=Hd (put38_at wk f);obtain ⟨w4,hw4⟩:∃w4,w4=put38 wk f:=⟨_,rfl⟩;obtain ⟨fb,hfb⟩:∃fb,fb=wk.heap.size:=⟨_,rfl⟩;have HFB:=Hd (show wk.heap.size≤fb from by omega);rw [←hw4] at B4 F4 ⊢;rw [←hfb] at F4 ⊢;clear hw4 hfb LD ST FT;have ct:=F4.out.text;have fz:=frz_blk (o:=17) F4.out;obtain ⟨c,hc⟩:∃c:Nat,c=min f.t.size 100:=⟨_,rfl⟩;have hm1:min (f.t.size:Int) 100=(c:Int):=by omega
     have c0:(0:Int)≤(c:Int):=by omega
     have c1:(c:Int)≤(f.t.size:Int):=by omega
     have F5:=Hd (show FacAt (w4.setCell ⟨fb,17,none⟩ (.string (f.t.extract 0 c))) fb (fsF fl k) from by rw [HFS.out,hc];exact F4.out.setText _);have L5:=Hd (HL2.out.later (B4.out.setCell (p:=⟨fb,17,none⟩) HFB.out (.string (f.t.extract 0 c))));have S5:=Hd (show fb<(w4.setCell ⟨fb,17,none⟩ (.string (f.t.extract 0 c))).heap.size from F5.out.lt);clear hc;go_upto_region 17 with (fail)
     obtain ⟨w5,hw5⟩:∃w5,w5=w4.setCell ⟨fb,17,none⟩ (.string (f.t.extract 0 c)):=⟨_,rfl⟩;rw [←hw5] at F5 L5 S5 ⊢;clear hw5 ct fz hm1 c0 c1 B4 F4;have LD5:=Hd (ld38 (ft_blk F5.out));have AA:=Hd (L5.out.addAll HG0.out HKL.out K12.out);go_upto_region 18 with (first
      | ((with_reducible refine wpList_loadL ?_ LD5.out ?_);focus rfl)
      | (go_at_call 40;(with_reducible refine AA.out.mono ?_);rintro e w6 ⟨⟨v6,rfl⟩,h6,k6⟩;have L6:=Hd h6;have F6:=Hd (show FacAt w6 fb (fsF fl k) from (k6 fb (Nat.le_trans HL2.out.sz HFB.out) S5.out).trans F5.out);clear h6 k6))
     clear LD5 AA L5 F5 S5 HL2 HFB HFS;go_cut [83] (fun v wc=>v = .bool (hhF hs q k)∧wc=w6)
     case first=>
      by_cases hqn:q<hn
      ·have q9:(q:Int)<(hn:Int):=by omega
       obtain ⟨z,hz⟩:∃z,hs[q]?=some z:=⟨_,List.getElem?_eq_getElem (by rw [HHL.out];exact hqn)⟩;obtain ⟨b2,o2,rfl,hb2,hc2⟩:=HHR.out q z hz;have c2:=hc2 0 _ rfl;rw [Nat.mul_one,Nat.add_zero] at c2;have hbw:Below w.heap.size w w6:=HB0.out.trans (L6.out.low.mono HB0.out.size);have c3:w6.cell? ⟨b2,o2+q,none⟩=some (.int .i64 z):=by rw [World.cell?_of_block (w:=w) (w':=w6) (a:=⟨b2,o2+q,none⟩) (hbw.block b2 hb2)];exact c2
       obtain ⟨p,hp,hpz⟩:=pickZ_nat z 4096 (by omega);have hzr:=HHZ.out z (List.mem_of_getElem? hz);have PZ:=Hd (show ∀W,Calls Tryz.prog 14 #[.int .i64 z,.int .i64 4096] W fun e w'=>e = .returned (.int .i64 (p:Int))∧w'=W from fun W=>(pick_any z 4096 W hzr.1 hzr.2 (by omega) (by omega)).mono fun e w' q=>⟨by rw [q.1];exact congrArg _ (congrArg _ hpz),q.2.symm⟩);have hhq:hhF hs q k=decide (p >>> k % 2=1):=by
        unfold hhF;rw [HHL.out,List.getD_eq_getElem?_getD,hz];show (decide (q<hn) && decide ((pickZ z 4096).toNat >>> k % 2=1))=_;rw [show pickZ z 4096=(p:Int) from hpz,decide_eq_true hqn,Bool.true_and,Int.toNat_natCast]
       have HHQ:=Hd hhq;clear hc2 hb2 c2 hbw hpz hzr hhq hz;go_wp2_with (go_at_call 14;(with_reducible refine (PZ.out _).mono ?_);rintro e wq ⟨rfl,hwq⟩;rw [hwq];clear hwq wq)
       go_meet;exact ⟨by rw [HHQ.out];exact congrArg Value.bool (bit_dec p k),rfl⟩
      have q9:¬(q:Int)<(hn:Int):=by omega
      go_wp2_with fail
      go_meet;exact ⟨by unfold hhF;rw [HHL.out];simp [hqn],rfl⟩
     case rest=>
     obtain ⟨rfl,hw⟩:=hcut;rw [hw];clear hw;obtain ⟨hb,hhb⟩:∃hb,hb=hhF hs q k:=⟨_,rfl⟩;rw [←hhb];rcases hb with _ | _
     ·have L7:=Hd (L6.out.skip hhb.symm);clear hhb;go_wp2_with fail
      go_roundg (K - (k+1))
      case measure=>have:=HKL.out;have:=HGK.out;omega
      case rel=>exact ⟨k+1,by go_num,by have:=HKL.out;omega,by omega,L7⟩
     have LD6:=Hd (ld38 (ft_blk F6.out));have AO:=Hd (L6.out.addOwn HG0.out HKL.out K12.out hhb.symm);clear hhb;go_wp2_with (first
      | ((with_reducible refine wpList_loadL ?_ LD6.out ?_);focus rfl)
      | (go_at_call 40;(with_reducible refine AO.out.mono ?_);rintro e w7 ⟨⟨v7,rfl⟩,h7⟩;have L7:=Hd h7;clear h7))
     go_roundg (K - (k+1))
     case measure=>have:=HKL.out;have:=HGK.out;omega
     case rel=>exact ⟨k+1,by go_num,by have:=HKL.out;omega,by omega,L7⟩
    have hkK:k=K:=by omega
    have HKN:=Hd (show ¬(k:Int)<(ln:Int)∨¬(k:Int)<12 from by have:=HK.out;omega);rw [hkK] at HL2;have D1:=Hd (HL2.out.dock HL1.out);have OWN:=Hd HL2.out.own;obtain ⟨vf,hvf⟩:∃vf,vf=if q=0 then (.pointer (some ⟨xo,0,none⟩):Value) else u10:=⟨_,rfl⟩
    rw [←hvf] at D1;clear hkK;have HVF:=Hd hvf;clear hvf;clear hgk;by_cases hkn:(k:Int)<(ln:Int)
    case' pos=>have k2:¬(k:Int)<12:=HKN.out.elim (fun q=>absurd hkn q) (fun q=>q);go_upto_region 20 with (fail);clear k2
    case' neg=>go_upto_region 20 with (fail)
    all_goals
     clear hkn;go_cut [88] (fun t wc=>t = .bool (decide (q=0))∧wc=wk)
     case first=>
      go_wp2_with fail
      go_meet;exact ⟨by rw [show ((q:Int) == 0)=decide (q=0) from by rw [Bool.eq_iff_iff];simp],rfl⟩
     case rest=>
     obtain ⟨rfl,hw⟩:=hcut;rw [hw];clear hw;obtain ⟨z,hz⟩:∃z,z=decide (q=0):=⟨_,rfl⟩;rw [←hz];have HZ:=Hd hz;clear hz;go_upto_if 88 with (fail)
     go_cut [10] (fun v wc=>v=vf∧wc=wk)
     case first=>
      rcases z with _ | _
      ·go_wp2_with fail
       go_meet;have hq0:¬q=0:=by simpa using HZ.out
       exact ⟨by rw [HVF.out,if_neg hq0],rfl⟩
      go_wp2_with fail
      go_meet;have hq0:q=0:=by simpa using HZ.out
      exact ⟨by rw [HVF.out,if_pos hq0],rfl⟩
     case rest=>
     obtain ⟨rfl,hw⟩:=hcut;rw [hw];clear hw HZ z HVF;have LO:=Hd HL1.out.lo;have Q7:=Hd (show q<7 from by have:=HLT.out;have:=HNN.out;omega);have NW:=Hd (D1.out.new HLT.out HNN.out.2);unfold pv at NW;clear HL2 HL1 D1;go_upto_region 23 with (go_at_call 15;(with_reducible refine NW.out.mono ?_);rintro e w3 ⟨x,rfl,h2,hb3⟩;have D2:=Hd h2;have OW3:=Hd (OWN.out.later hb3);clear h2 hb3)
     have IR:=Hd (ids_row OW3.out (by have:=ownK_len (hhF hs q) (fsF fl) K;have:=K12.out;omega));clear NW OWN;go_wp2_with (first
      | (go_at_call 41;(with_reducible refine IR.out.mono ?_);rintro e w4 ⟨v4,rfl,hr4,hb4⟩;have BG:=Hd ((D2.out.later hb4).begin K12.out (show LRow (New w3 w4) w4 v4 (lsF fl hs K q) from hr4) (fun k hk=>hk.2));unfold pv iv at BG;clear hr4 hb4)
      | (go_at_call 16;(with_reducible refine BG.out.mono ?_);rintro e w5 ⟨rfl,h5⟩;have D3:=Hd h5;clear h5)
      | (refine wpList_dk2 (x:=x) (W:=w5) rfl (.tmp 109) (.tmp 111) (by rfl) (by rfl) D3.out Q7.out (by rfl) ?_ LO.out;intro v8 w8 h8;have L8:=Hd h8;clear h8))
     go_roundg (N - (q+1))
     case measure=>have:=HLT.out;have:=HGQ.out;omega
     case rel=>exact ⟨q+1,by go_num,by have:=HLT.out;omega,by omega,L8⟩
  have q1:¬(q:Int)<(N:Int):=by omega
  have hqN:q=N:=by omega
  rw [hqN] at HL1;obtain ⟨xp,Mp,hv10,hsf,hdk⟩:=HL1.out.fst;obtain ⟨gn,cap9,cur,xs,Rs,hv9,hxl,hfl9,hX9⟩:=hdk.fleet HNN.out.1;have hsa:SetAt wr xa Ma (allK (fsF fl) K):=by have:=HL1.out.all;rw [if_neg (by have:=HNN.out.1;omega)] at this;exact this
  rw [if_neg (by have:=HNN.out.1;omega)] at hsf;subst hv9;subst hv10;have HXL:=Hd hxl;have TW:=Hd (two2 fl hs K12.out);have RUN:=Hd (facts_run HNN.out.1 HNN.out.2 (ls:=lsF fl hs K) (lsF_ok fl hs K12.out 0).1 (lsF_ok fl hs K12.out 0).2);have CRW:=Hd (facts_crew HNN.out.1 HNN.out.2 (ls:=lsF fl hs K) (lsF_ok fl hs K12.out 0).1 (lsF_ok fl hs K12.out 0).2);have GF:=Hd (GO.gf (lsF_ok fl hs K12.out 0).1 (lsF_ok fl hs K12.out 0).2);have ASC:=Hd (lsF_ok fl hs K12.out 0).1;have FX:=Hd (show FlX (lsF fl hs K 0) (allK (fsF fl) K) (ownK (hhF hs 0) (fsF fl) K) xa Ma xp Mp w0 gn cur xs (startR N (lsF fl hs K)) Rs wr from ⟨hfl9,hsa,hsf,fun k hk=>by rw [hxl];exact hX9 k hk⟩);obtain ⟨l0,hl0⟩:∃l0,l0=lsF fl hs K 0:=⟨_,rfl⟩;obtain ⟨SA,hSA⟩:∃SA,SA=allK (fsF fl) K:=⟨_,rfl⟩;obtain ⟨SF,hSF⟩:∃SF,SF=ownK (hhF hs 0) (fsF fl) K:=⟨_,rfl⟩;rw [←hSA,←hSF,←hl0] at FX TW;rw [←hl0] at RUN CRW GF ASC;obtain ⟨st,hst⟩:∃st:Nat→List StB,st=fun t=>sRnds digV noS t (startR N (lsF fl hs K)):=⟨_,rfl⟩;have RUN2:=Hd (show (∀i,i<N→∃s v,(st 8)[i]?=some s∧getA 0 s.decs=some v∧v.list=l0)∧∀t,t<8→∀(i:Nat) (s:StB),(st t)[i]?=some s→∀l∈s.asked,l=l0 from by
   rw [hst];exact ⟨RUN.out.1,fun t ht i s h=>(RUN.out.2 t ht i s h).1⟩)
  have CRW2:=Hd (show ∀t:Nat,t≤8→CrewF (GO l0) N t (st t)∧(t<8→∀s∈st t,MeekT (GO l0) (accAll digV s)) from by
   rw [hst];exact CRW.out)
  have STN:=Hd (show ∀t,st (t+1)=sRnd digV noS (st t) from by rw [hst];exact fun _=>rfl);have FX0:=Hd (show FlX l0 SA SF xa Ma xp Mp w0 gn cur xs (st 0) Rs wr from by rw [hst];exact FX.out);clear hsf hsa hfl9 hxl hX9 hdk HL1 hqN hgq hl0 hSA hSF hst RUN CRW FX HFR HHR HHZ;go_upto_region 27 with (fail)
  go_loopg [17] 8 (fun gh v17 wt=>∃(t:Nat) (Rt:Nat→Nat→Prop),v17 = .int .i64 (t:Int)∧t≤8∧8 - t≤gh∧Hid (FlX l0 SA SF xa Ma xp Mp w0 gn cur xs (st t) Rt wt))
  case atStart=>exact ⟨0,Rs,rfl,by omega,by omega,FX0⟩
  case round=>
   obtain ⟨wt,rfl⟩:∃wt:World,wt=wr:=⟨_,rfl⟩;obtain ⟨t,Rt,rfl,ht,hgt,HT⟩:=hrel;clear FX0;have t0:(0:Int)≤(t:Int):=by omega
   by_cases htl:t<8
   ·have t1:(t:Int)<8:=by omega
    have HTL:=Hd htl;have HGT:=Hd hgt;clear htl hgt;obtain ⟨HCN0,HMK0⟩:=CRW2.out t (Nat.le_of_lt HTL.out);have HAS0:=RUN2.out.2 t HTL.out;have HST0:=STN.out t;obtain ⟨ns,hns⟩:∃ns,ns=st t:=⟨_,rfl⟩;rw [←hns] at HCN0 HMK0 HAS0 HST0 HT;have HCN:=Hd HCN0;have HMK:=Hd (HMK0 HTL.out);have HAS:=Hd HAS0;have HSN:=Hd HST0;have HNL:=Hd HCN0.len;have HGN:=Hd (show gn<wt.heap.size from HT.out.fl.asd.1);have HXT:=Hd (show ∀k,X4 xa Ma xp Mp k→k<wt.heap.size from fun k hk=>HT.out.lt hk);have HBT:=Hd HT.out.fl.size;clear HCN0 HMK0 HAS0 HST0 hns;go_upto_region 31 with (fail)
    go_loopg [18,19] N (fun gh v18 v19 wi=>∃(i:Nat) (Ri:Nat→Nat→Prop),v19 = .int .i64 (i:Int)∧i≤N∧N - i≤gh∧Hid (FlX l0 SA SF xa Ma xp Mp w0 gn cur xs (midS noS i ns) Ri wi∧OutR (AllR xs.length Ri) wt wi v18 (sOut digV noS 0 (ns.take i))∧wt.heap.size≤wi.heap.size))
    case atStart=>exact ⟨0,Rt,rfl,by omega,by omega,Hd ⟨by rw [midS_zero];exact HT.out,OutR.nil _ _ _,Nat.le_refl _⟩⟩
    case round=>
     clear HT;obtain ⟨wi,rfl⟩:∃wi:World,wi=wr:=⟨_,rfl⟩;obtain ⟨i,Ri,rfl,hi,hgi,HI⟩:=hrel;obtain ⟨oao,ocap,rfl⟩:=out_slice HI.out.2.1;have i0:(0:Int)≤(i:Int):=by omega
     by_cases hin:i<N
     ·have i1:(i:Int)<(N:Int):=by omega
      have HIN:=Hd hin;have HGI:=Hd hgi;have hil:i<ns.length:=by rw [HNL.out];exact hin
      obtain ⟨x,hx⟩:∃x,xs[i]?=some x:=⟨xs[i]'(by rw [HXL.out];exact hin),List.getElem?_eq_getElem _⟩;obtain ⟨s,hs⟩:∃s,s=ns[i]:=⟨_,rfl⟩;have hsn:ns[i]?=some s:=by rw [hs];exact List.getElem?_eq_getElem hil
      have hsm:(midS noS i ns)[i]?=some s:=by rw [hs];exact midS_at hil
      have hfit:Fit (GO l0) s:=HCN.out.fit _ (List.mem_of_getElem? hsn);have cx:=HI.out.1.fl.cell hx;have AK:=Hd (nasked GF.out HI.out.1.fl.net hx hsm);have HX:=Hd hx;have HSM:=Hd hsm;have HFT:=Hd hfit;have HMS:=Hd (HMK.out s (List.mem_of_getElem? hsn));have HST:=Hd (show s.ticks≤(t:Int) from (HCN.out.each i _ hsn).2.2.1);have HLS:=Hd (HAS.out i s hsn);have HMN:=Hd (show (midS noS i ns).set i (accAll digV s).tick.1=midS noS (i+1) ns from by have:=midS_next (sil:=noS) hil;rw [←hs] at this;exact this);have HON:=Hd (show sOut digV noS 0 (ns.take (i+1))=sOut digV noS 0 (ns.take i) ++ (accAll digV s).tick.2 from by have:=sOut_next (sil:=noS) hil;rw [←hs] at this;exact this);have HLE:=Hd (show (sOut digV noS 0 (ns.take i)).length≤28000 from by
       have a1:=sOut_le noS (ns.take i) 0 (fun s hs=>HCN.out.fit s (List.mem_of_mem_take hs));rw [List.length_take] at a1;have:=HNL.out;omega)
      obtain ⟨od,hod⟩:∃od,od=sOut digV noS 0 (ns.take i):=⟨_,rfl⟩;rw [←hod] at HON HLE HI ⊢;unfold pv at cx AK;clear hx hs hsn hsm hfit hod hin hgi hil;go_upto_region 35 with (go_at_call 38;(with_reducible refine AK.out.mono ?_);rintro e wA ⟨⟨v16,rfl,hrl⟩,hbA⟩;obtain ⟨aao,acap,rfl⟩:=rowL_slice hrl;have HRL:=Hd hrl;have HBA:=Hd hbA;clear hrl hbA)
      obtain ⟨la,hla⟩:∃la,la=s.asked.length:=⟨_,rfl⟩;have HLA:=Hd hla;have la0:(0:Int)≤(la:Int):=by omega
      have la9:(la:Int)≤1000:=by have:=asked_len HFT.out;omega
      rw [←hla] at HRL ⊢;have HFA:=Hd (HI.out.1.later HBA.out);have HOA:=Hd (HI.out.2.1.later HBA.out);have HAA:=Hd (show ∀g,New wi wA g→Asd xs.length Ri wA g from fun g hg=>Asd.fresh HI.out.1.fl.net hg);clear hla cx AK;go_loopg [21] la (fun gh v21 wk=>∃(j:Nat) (R:Nat→Nat→Prop),v21 = .int .i64 (j:Int)∧j≤la∧la - j≤gh∧Hid (FlX l0 SA SF xa Ma xp Mp w0 gn cur xs ((midS noS i ns).set i (accN j s)) R wk∧OutR (AllR xs.length R) wt wk (.slice oao od.length ocap) od∧wt.heap.size≤wk.heap.size∧∀g,New wi wA g→Asd xs.length R wk g∧wk.heap[g]?=wA.heap[g]?))
      case atStart=>exact ⟨0,Ri,rfl,by omega,by omega,Hd ⟨by rw [accN_zero,set_same HSM.out];exact HFA.out,HOA.out,Nat.le_trans HI.out.2.2 HBA.out.size,fun g hg=>⟨HAA.out g hg,rfl⟩⟩⟩
      case round=>
       clear HFA HOA HAA;obtain ⟨wk,rfl⟩:∃wk:World,wk=wr:=⟨_,rfl⟩;obtain ⟨j,Rj,rfl,hj,hgj,HJ⟩:=hrel;have j0:(0:Int)≤(j:Int):=by omega
       have hil2:i<(midS noS i ns).length:=by rw [midS_len,HNL.out];exact HIN.out
       have cx:=HJ.out.1.fl.cell HX.out;unfold pv at cx;by_cases hjl:j<la
       ·have j1:(j:Int)<(la:Int):=by omega
        have HJL:=Hd hjl;have HGJ:=Hd hgj;have hsj:((midS noS i ns).set i (accN j s))[i]?=some (accN j s):=by rw [List.getElem?_set,if_pos rfl,if_pos hil2]
        have hl:s.asked[j]?=some l0:=by
         have h1:s.asked[j]?=some (s.asked[j]'(by rw [←HLA.out];exact hjl)):=List.getElem?_eq_getElem _;rw [HLS.out _ (List.mem_of_getElem? h1)] at h1;exact h1
        obtain ⟨g,u,rfl,hcu,hlr,hg1,hg2⟩:=HRL.out.nth hl;have hgn:=HJ.out.2.2.2 g ⟨hg1,hg2⟩;have cu:wk.cell? ⟨g,j,none⟩=some u:=by
         rw [World.cell?_of_block (w:=wA) (w':=wk) (a:=⟨g,j,none⟩) hgn.2];exact hcu
        have hlw:=hlr.kept (w':=wk) (fun g' cur fr hr _=>(HJ.out.2.2.2 g' hr).2);obtain ⟨a3,c3,rfl,_,hrow3⟩:=hlw.row;have HLW:=Hd hlw;have PT:=Hd (part_any HJ.out.1.all l0 a3 l0.length c3 rfl (by have:=TW.out.len;omega) hrow3 TW.out.all);have HACN:=Hd (accN_next hl);have HGA:=Hd hgn;have HNG:=Hd (show New wi wA g from ⟨hg1,hg2⟩);have HSJ:=Hd hsj;have HCX:=Hd cx;have HCU:=Hd cu;clear hl hcu hlr hgn hlw hrow3 hg1 hg2 hsj hil2 hjl hgj;go_upto_region 39 with (go_at_call 42;(with_reducible refine PT.out.mono ?_);rintro e w8 ⟨xq,Mq,rfl,hsq,hb8⟩;have B8:=Hd hb8;clear hsq hb8)
        clear cx cu PT;have F8:=Hd (HJ.out.1.later B8.out);have O8:=Hd (HJ.out.2.1.later B8.out);have Z8:=Hd (Nat.le_trans HJ.out.2.2.1 B8.out.size);have N8:=Hd (show ∀g,New wi wA g→Asd xs.length Rj w8 g∧w8.heap[g]?=wA.heap[g]? from fun g hg=>by
         obtain ⟨p1,p2⟩:=HJ.out.2.2.2 g hg;exact ⟨p1.later B8.out.size,(B8.out.block g p1.1).trans p2⟩)
        have G8:=Hd (N8.out g HNG.out);have cx:w8.cell? ⟨gn,i,none⟩=some (.pointer (some ⟨x,0,none⟩)):=F8.out.fl.cell HX.out;have cu:w8.cell? ⟨g,j,none⟩=some (.slice a3 l0.length c3):=by
         rw [World.cell?_of_block (w:=wk) (w':=w8) (a:=⟨g,j,none⟩) (B8.out.block g HGA.out.1.1)];exact HCU.out
        have DG:=Hd (digest_asc ASC.out TW.out.len ((HLW.out.kept (w':=w8) (fun g' cur fr hr _=>B8.out.block g' (HJ.out.2.2.2 g' hr).1.1)).kept (w':=w8.drew) (fun _ _ _ _ _=>rfl)));obtain ⟨dl,hdl⟩:∃dl,dl=digV l0:=⟨_,rfl⟩;rw [←hdl] at DG HACN;have AC:=Hd (show ∀W,Below w8.heap.size w8 W→Calls Tryz.prog 25 #[.pointer (some ⟨x,0,none⟩),.string dl] W fun e w'=>e = .returned (.tuple #[])∧∃R',FlX l0 SA SF xa Ma xp Mp w0 gn cur xs ((midS noS i ns).set i (accN (j+1) s)) R' w'∧OutR (AllR xs.length R') wt w' (.slice oao od.length ocap) od∧wt.heap.size≤w'.heap.size∧(∀g,New wi wA g→Asd xs.length R' w' g∧w'.heap[g]?=wA.heap[g]?)∧w'.heap[gn]?=w8.heap[gn]? from fun W hW=>by
         have hfw:=F8.out.later hW;refine (naccept hfw.fl.net hfw.fl.size HX.out HSJ.out dl).mono ?_;rintro e w' ⟨rfl,R',hs⟩;rw [List.set_set,←HACN.out] at hs;refine ⟨rfl,R',hfw.sail hs,(O8.out.later hW).sail hs,Nat.le_trans Z8.out (Nat.le_trans hW.size hs.chg.size),fun g' hg'=>?_,?_⟩
         ·obtain ⟨q1,q2⟩:=N8.out g' hg';have q3:=q1.later hW.size;exact ⟨hs.asd q3,(hs.blk q3).trans ((hW.block g' q1.1).trans q2)⟩
         exact (hs.blk hfw.fl.asd).trans (hW.block gn F8.out.fl.asd.1))
        have SK:=Hd (show ∀W:World,W.heap[gn]?=w8.heap[gn]?→W.heap[g]?=w8.heap[g]?→W.cell? ⟨gn,i,none⟩=some (.pointer (some ⟨x,0,none⟩))∧W.cell? ⟨g,j,none⟩=some (.slice a3 l0.length c3) from fun W h1 h2=>⟨by rw [World.cell?_of_block (w:=w8) (w':=W) (a:=⟨gn,i,none⟩) h1];exact cx,by rw [World.cell?_of_block (w:=w8) (w':=W) (a:=⟨g,j,none⟩) h2];exact cu⟩);clear hdl;go_region_held3 (fun W=>W.cell? ⟨gn,i,none⟩=some (.pointer (some ⟨x,0,none⟩))∧W.cell? ⟨g,j,none⟩=some (.slice a3 l0.length c3))
         (first | (exact SK.out _ rfl rfl) | (exact SK.out _ G9.out.1 G9.out.2) | (exact SK.out _ G10.out.1 G10.out.2) | assumption)
         (first
          | (go_at_call 26;(with_reducible refine DG.out.mono ?_);rintro e w9 ⟨rfl,hb9⟩;have hbw:Below w8.heap.size w8 w9:=(Below.refl _ w8).drew.trans hb9;have G9:=Hd (show w9.heap[gn]?=w8.heap[gn]?∧w9.heap[g]?=w8.heap[g]? from ⟨hbw.block gn F8.out.fl.asd.1,hbw.block g G8.out.1.1⟩);have AD:=Hd (AC.out w9 hbw);clear hb9 hbw)
          | (go_at_call 25;(with_reducible refine AD.out.mono ?_);rintro e w10 ⟨rfl,R10,f10,o10,z10,n10,g10⟩;have F10:=Hd f10;have O10:=Hd o10;have Z10:=Hd z10;have N10:=Hd n10;have G10:=Hd (show w10.heap[gn]?=w8.heap[gn]?∧w10.heap[g]?=w8.heap[g]? from ⟨g10,(n10 g HNG.out).2.trans G8.out.2.symm⟩);clear f10 o10 z10 n10 g10))
        all_goals (
         go_wp2_with fail
         go_roundg (la - (j+1))
         case measure=>have:=HJL.out;have:=HGJ.out;omega
         case rel=>exact ⟨j+1,R10,by go_num,by have:=HJL.out;omega,by omega,Hd ⟨F10.out,O10.out,Z10.out,N10.out⟩⟩)
       have j1:¬(j:Int)<(la:Int):=by omega
       have HAE:=Hd (accN_all (j:=j) (s:=s) (by rw [←HLA.out];omega));have e5:((midS noS i ns).set i (accAll digV s))[i]?=some (accAll digV s):=by rw [List.getElem?_set,if_pos rfl,if_pos hil2]
       rw [HAE.out] at HJ;have TK:=Hd (ntick GF.out HJ.out.1.fl.net HJ.out.1.fl.size HX.out e5 HMS.out (by
        have:=(accs_keep s.asked s).2.2.1;have h2:=HST.out;show (accAll digV s).ticks≤_;unfold accAll;rw [this];omega))
       rw [List.set_set,HMN.out] at TK;obtain ⟨nw,hnw⟩:∃nw,nw=(accAll digV s).tick.2:=⟨_,rfl⟩;have HL2:=Hd (show od.length+nw.length≤100000000 from by
        have a1:=HLE.out;have a2:=tick_lenS HFT.out.accAll;rw [hnw];omega)
       rw [←hnw] at TK HON;unfold pv at TK;clear e5 hnw hil2 hgj;go_wp2_with (first
        | (go_at_call 18;(with_reducible refine TK.out.mono ?_);rintro e w2 ⟨v3,Rs2,rfl,hs2,ho2⟩;have F2:=Hd (HJ.out.1.sail hs2);have O2:=Hd (HJ.out.2.1.sail hs2);have P2:=Hd ho2;have Z2:=Hd (Nat.le_trans HJ.out.2.2.1 hs2.chg.size);clear hs2 ho2)
        | (refine wpList_flpushX (wt:=wt) (wx:=wk) (nw:=nw) rfl (.tmp 153) (.tmp 158) (by rfl) (by rfl) (by rfl) F2.out O2.out P2.out HJ.out.2.2.1 HBT.out HGN.out HXT.out Z2.out HL2.out ?_;intro v5 w5 o5 f5 z5;have O5:=Hd o5;have F5:=Hd f5;have Z5:=Hd z5;clear o5 f5 z5))
       go_roundg (N - (i+1))
       case measure=>have:=HIN.out;have:=HGI.out;omega
       case rel=>exact ⟨i+1,Rs2,by go_num,by have:=HIN.out;omega,by omega,Hd ⟨F5.out,by rw [HON.out];exact O5.out,Z5.out⟩⟩
     have i1:¬(i:Int)<(N:Int):=by omega
     have hNi:ns.length≤i:=by rw [HNL.out];omega
     have hI:=HI.out;rw [midS_all hNi,List.take_of_length_le hNi] at hI;rw [List.take_of_length_le hNi];obtain ⟨ms,hms⟩:∃ms,ms=sOut digV noS 0 ns:=⟨_,rfl⟩;rw [←hms] at hI ⊢;obtain ⟨nm,hnm⟩:∃nm,nm=ms.length:=⟨_,rfl⟩;rw [←hnm] at hI ⊢;have HF5:=Hd (show FlX l0 SA SF xa Ma xp Mp w0 gn cur xs (gotS noS 0 ns) Ri wi from hI.1);have HO5:=Hd hI.2.1;have HMS:=Hd hms;have HNM:=Hd hnm;have nm0:(0:Int)≤(nm:Int):=by omega
     have nm9:(nm:Int)≤28000:=by
      have a1:=sOut_le noS ns 0 HCN.out.fit;rw [←hms,←hnm,HNL.out] at a1;have:=HNN.out.2;omega
     clear hNi hms hnm hI HI hgi;go_upto_region 42 with (fail)
     go_loopg [24] nm (fun gh v24 wr=>∃(q:Nat) (Rs:Nat→Nat→Prop),v24 = .int .i64 (q:Int)∧q≤nm∧nm - q≤gh∧Hid (FlX l0 SA SF xa Ma xp Mp w0 gn cur xs (gotS noS q ns) Rs wr∧OutR (AllR xs.length Rs) wt wr (.slice oao nm ocap) ms))
     case atStart=>exact ⟨0,Ri,rfl,by omega,by omega,Hd ⟨HF5.out,HO5.out⟩⟩
     case round=>
      clear HF5 HO5;obtain ⟨q,Rq,rfl,hq,hgq,HQ⟩:=hrel;have q0:(0:Int)≤(q:Int):=by omega
      by_cases hqm:q<nm
      ·have q1:(q:Int)<(nm:Int):=by omega
       have HQM:=Hd hqm;have HGQ:=Hd hgq;obtain ⟨m,hm⟩:∃m,ms[q]?=some m:=⟨ms[q]'(by rw [←HNM.out];exact hqm),List.getElem?_eq_getElem _⟩;obtain ⟨hv,hl60,hga,ht0,htn⟩:=sOut_ok GF.out HCN.out HMK.out (sil:=noS) (by rw [←HMS.out];exact List.mem_of_getElem? hm);obtain ⟨b,off,lo,lc,rfl,hce,hlr⟩:=HQ.out.2.nth hm;obtain ⟨tn,htn'⟩:∃tn:Nat,m.to=(tn:Int):=⟨m.to.toNat,by omega⟩;have tn0:(0:Int)≤(tn:Int):=by omega
       have tn1:(tn:Int)<(N:Int):=by omega
       have tnN:tn<N:=by omega
       have e0:=hce 0 _ rfl;have e1:=hce 1 _ rfl;have e2:=hce 2 _ rfl;have e3:=hce 3 _ rfl;have e4:=hce 4 _ rfl;have e5:=hce 5 _ rfl;have e6:=hce 6 _ rfl;have e7:=hce 7 _ rfl;unfold iv at e0 e1 e2 e3 e4 e5;simp only [Nat.add_zero] at e0;rw [htn'] at e2;obtain ⟨x,hx⟩:∃x,xs[tn]?=some x:=⟨xs[tn]'(by rw [HXL.out];exact tnN),List.getElem?_eq_getElem _⟩;have hgl:(gotS noS q ns).length=N:=by unfold gotS;rw [sDlvs_len,sMid_len,HNL.out]
       obtain ⟨sx,hsx⟩:∃sx,(gotS noS q ns)[tn]?=some sx:=⟨(gotS noS q ns)[tn]'(by rw [hgl];exact tnN),List.getElem?_eq_getElem _⟩;have cx:=HQ.out.1.fl.cell hx;have HNX:=Hd (show gotS noS (q+1) ns=(gotS noS q ns).set tn (sx.receive m true) from by
        rw [gotS_next (by rw [←HMS.out];exact hm),sdlv_at (s:=sx) (by rw [htn'];exact hsx),htn'];rfl)
       have HRC:=Hd (show ∀W,Below wr.heap.size wr W→Calls Tryz.prog 20 #[pv x,.agg (encM m (.slice lo m.list.length lc))] W fun e w'=>e = .returned (.tuple #[])∧∃Rs',FlX l0 SA SF xa Ma xp Mp w0 gn cur xs (gotS noS (q+1) ns) Rs' w'∧OutR (AllR xs.length Rs') wt w' (.slice (some ⟨b,off,none⟩) nm ocap) ms from fun W hW=>by
        have hfw:=HQ.out.1.later hW;refine (nrecv (R0:=NewZ (AllR xs.length Rq) wt wr) (m:=m) GF.out hfw.fl.net hfw.fl.size hx hsx ⟨_,rfl,hlr.kept (fun g cur fr hr _=>hW.block g hr.1.2)⟩ (fun c hc=>Nat.lt_of_lt_of_le hc.1.2 hW.size) hl60 hfw.fl.gl (fun _=>hga)).mono ?_;rintro e w' ⟨rfl,Rs',hs⟩;rw [hv,←HNX.out] at hs;exact ⟨rfl,Rs',hfw.sail hs,(HQ.out.2.later hW).sail hs⟩)
       unfold encM pv iv at HRC;rw [htn'] at HRC;unfold pv at cx;clear hm hv hl60 hga ht0 htn hce hlr htn' hx hsx hgl hqm hgq;go_upto_region 46 with (fail)
       go_still_tail 12,(by kernel_rfl)
       change wpList _ _ _ _ _ wr.drew
       have RC6:=Hd (HRC.out wr.drew (Below.refl _ wr).drew);generalize wr.drew=w5 at RC6 ⊢;clear e0 e1 e2 e3 e4 e5 e6 e7 cx HRC;go_wp2_with (go_at_call 20;(with_reducible refine RC6.out.mono ?_);rintro e w6 ⟨rfl,Rs6,f6,o6⟩;have F6:=Hd f6;have O6:=Hd o6;clear f6 o6)
       go_roundg (nm - (q+1))
       case measure=>have:=HQM.out;have:=HGQ.out;omega
       case rel=>exact ⟨q+1,Rs6,by go_num,by have:=HQM.out;omega,by omega,Hd ⟨F6.out,O6.out⟩⟩
      have q1:¬(q:Int)<(nm:Int):=by omega
      have HE5:=Hd (show FlX l0 SA SF xa Ma xp Mp w0 gn cur xs (st (t+1)) Rq wr from by
       have e9:gotS noS q ns=sRnd digV noS ns:=gotS_all (by rw [←HMS.out,←HNM.out];omega);rw [HSN.out,←e9];exact HQ.out.1)
      clear HQ hgq;go_wp2_with fail
      go_roundg (8 - (t+1))
      case measure=>have:=HTL.out;have:=HGT.out;omega
      case rel=>exact ⟨t+1,Rq,by go_num,by have:=HTL.out;omega,by omega,HE5⟩
   have t1:¬(t:Int)<8:=by omega
   have ht8:t=8:=by omega
   rw [ht8] at HT;clear ht8 hgt;go_upto_region 48 with (fail)
   go_loopg [25] N (fun gh v25 wi=>∃i:Nat,v25 = .int .i64 (i:Int)∧i≤N∧N - i≤gh∧Hid (FlX l0 SA SF xa Ma xp Mp w0 gn cur xs (st 8) Rt wi))
   case atStart=>exact ⟨0,rfl,by omega,by omega,HT⟩
   case round=>
    clear HT;obtain ⟨wi,rfl⟩:∃wi:World,wi=wr:=⟨_,rfl⟩;obtain ⟨i,rfl,hi,hgi,HI⟩:=hrel;have i0:(0:Int)≤(i:Int):=by omega
    by_cases hin:i<N
    ·have i1:(i:Int)<(N:Int):=by omega
     have HIN:=Hd hin;have HGI:=Hd hgi;obtain ⟨s,v,hs,hd,hvl⟩:=RUN2.out.1 i hin;obtain ⟨x,hx⟩:∃x,xs[i]?=some x:=⟨xs[i]'(by rw [HXL.out];exact hin),List.getElem?_eq_getElem _⟩;have cx:=HI.out.fl.cell hx;have DEC:=Hd (show Calls Tryz.prog 21 #[pv x,iv 0] wi fun e w'=>(∃a3 c3,e = .returned (.tuple #[.slice a3 l0.length c3,.bool true])∧LRow (New wi w') w' (.slice a3 l0.length c3) l0)∧Below wi.heap.size wi w' from (ndecided GF.out HI.out.fl.net hx hs 0).mono fun e w' q=>by
      obtain ⟨q1,q2⟩:=q;rw [hd] at q1;obtain ⟨u,e1,e2⟩:=(show ∃u,e = .returned (.tuple #[u,.bool true])∧LRow (New wi w') w' u v.list from q1);rw [hvl] at e2;obtain ⟨a3,c3,rfl,_,_⟩:=id e2;exact ⟨⟨a3,c3,e1,e2⟩,q2⟩)
     unfold pv at cx;unfold pv iv at DEC;obtain ⟨rt,hrt⟩:∃rt,rt=rootF l0:=⟨_,rfl⟩;have HRT:=Hd hrt;have rn1:(rt.toList == rt.toList)=true:=by simp
     have rn2:(rt.toList != rt.toList)=false:=by simp
     clear hs hd hvl hx hin hgi hrt;go_upto_region 51 with (go_at_call 21;(with_reducible refine DEC.out.mono ?_);rintro e w5 ⟨⟨a3,c3,rfl,hr5⟩,hb5⟩;have HR5:=Hd hr5;have F5:=Hd (HI.out.later hb5);clear hr5 hb5)
     have PT:=Hd (show Calls Tryz.prog 42 #[.pointer (some ⟨xa,0,none⟩),.slice a3 l0.length c3] w5 fun e w'=>∃x' M',e = .returned (.tuple #[.pointer (some ⟨x',0,none⟩),.bool true])∧SetAt w' x' M' (partS SA l0)∧Below w5.heap.size w5 w' from by
      obtain ⟨a4,c4,e4,_,hrow⟩:=HR5.out.row;cases e4;exact part_any F5.out.all l0 a3 l0.length c3 rfl (by have:=TW.out.len;omega) hrow TW.out.all)
     clear cx DEC;go_upto_region 52 with (go_at_call 42;(with_reducible refine PT.out.mono ?_);rintro e w6 ⟨xq,Mq,rfl,hsq,hb6⟩;have SQ:=Hd hsq;have F6:=Hd (F5.out.later hb6);have HR6:=Hd ((HR5.out.kept (w':=w6) (fun g cur fr hr _=>hb6.block g hr.2)).mono (R':=fun g=>g<w6.heap.size) (fun k hk=>Nat.lt_of_lt_of_le hk.2 hb6.size));clear hsq hb6)
     clear PT;have IR:=Hd (ids_row F6.out.fst (by have:=TW.out.lf;omega));rw [TW.out.ids] at IR;go_wp2_with (first
      | (go_at_call 41;go_loud (with_reducible refine IR.out.mono ?_);rintro e w7 ⟨v7,rfl,hr7,hb7⟩;have SQ7:=Hd (SQ.out.later hb7);have F7:=Hd (F6.out.later hb7);obtain ⟨a8,c8,rfl,_,_⟩:=id hr7;have SM:=Hd (same_rows a3 a8 c3 c8 l0 w7 TW.out.len (HR6.out.kept (w':=w7) (fun g cur fr hr _=>hb7.block g hr)) hr7);clear hr7 hb7)
      | (go_at_call 22;(with_reducible refine SM.out.mono ?_);rintro e w8 ⟨rfl,hb8⟩;have F8:=Hd (F7.out.later hb8);have RQ:=Hd (sroot_any (SQ7.out.later hb8) (by have:=TW.out.lp;omega) TW.out.zp F8.out.fl.gl);rw [TW.out.back,←HRT.out] at RQ;clear hb8)
      | (go_at_call 43;(with_reducible refine RQ.out.mono ?_);rintro e w9 ⟨rfl,hb9⟩;have F9:=Hd (F8.out.later hb9);have RF:=Hd (sroot_any F9.out.fst (by have:=TW.out.lf;omega) TW.out.zf F9.out.fl.gl);rw [TW.out.ids,←HRT.out] at RF;clear hb9 RQ)
      | (go_at_call 43;(with_reducible refine RF.out.mono ?_);rintro e w10 ⟨rfl,hb10⟩;have F10:=Hd (F9.out.later hb10);clear hb10 RF))
     go_roundg (N - (i+1))
     case measure=>have:=HIN.out;have:=HGI.out;omega
     case rel=>exact ⟨i+1,by go_num,by have:=HIN.out;omega,by omega,F10⟩
    have i1:¬(i:Int)<(N:Int):=by omega
    clear hgi;go_wp2_with fail
    go_ret;exact ⟨by simp,HB0.out.trans (HI.out.fl.bel.mono HB0.out.size)⟩
end
end Fk
end
end Go.Proofs.YtifcdjmcoibblaaGreatDoor
