/- Frw Fid Fpt Frs -/
import Derived.Test.YtifcdjmcoibblaaGreatDoorFq12
import Derived.Test.YtifcdjmcoibblaaGreatDoorFq15
import Derived.Test.YtifcdjmcoibblaaGreatDoorFq02
import Derived.Test.YtifcdjmcoibblaaGreatDoorFq06
import Derived.Test.YtifcdjmcoibblaaGreatDoorFq04
import Derived.Test.YtifcdjmcoibblaaGreatDoorFq01
import Derived.Deep.LoopGhost
import Derived.Deep.DeepCutAuto
set_option linter.unusedVariables false
set_option linter.unusedSimpArgs false
set_option linter.unusedSectionVars false
set_option maxRecDepth 100000
set_option maxHeartbeats 80000000
namespace Go.Proofs.YtifcdjmcoibblaaGreatDoor
section
namespace Fk
open Go.RowKit Go.Sort Go.Lib
attribute [local go_sem] Oper.semAt_some
theorem owns_diff {W:World} {B B' e e' k k' n n' g:Nat} {v v':Value} {xs xs':List Value} (h:W.ownsRow B e k v n xs) (h':W.ownsRow B' e' k' v' n' xs') (he:e≠e') (hg:v.ownBlock=some g):v'.ownBlock≠some g:=fun hg'=>by
 obtain ⟨_,⟨q,_⟩ | ⟨g1,c1,cur1,rfl,_,hb1,_⟩⟩:=h
 ·rw [q] at hg;cases hg
 obtain ⟨_,⟨q,_⟩ | ⟨g2,c2,cur2,rfl,_,hb2,_⟩⟩:=h'
 ·rw [q] at hg';cases hg'
 simp only [Value.ownBlock,Option.some.injEq] at hg hg';subst hg;subst hg';rw [hb1] at hb2;simp only [Option.some.injEq,Obj.cells.injEq] at hb2;exact he hb2.2.1
theorem owns_sliceN {W:World} {B e k n:Nat} {v:Value} {xs:List Value} (h:W.ownsRow B e k v n xs) (hn:0<n):∃g cap,v = .slice (some ⟨g,0,none⟩) n cap∧n≤cap:=by
 obtain ⟨_,⟨_,hz⟩ | ⟨g,cap,cur,q,_,_,h4,_⟩⟩:=h
 ·omega
 exact ⟨g,cap,q,h4⟩
theorem owns_len1 {W:World} {B e n:Nat} {v:Value} {xs:List Value} (h:W.ownsRow B e 1 v n xs):∃ao cap,v = .slice ao n cap:=by
 obtain ⟨_,⟨q,hn⟩ | ⟨g,cap,cur,q,_⟩⟩:=h
 ·exact ⟨none,0,by rw [q,hn]⟩
 exact ⟨_,cap,q⟩
theorem addZ (g j:Nat):(⟨g,0,none⟩:Addr).add j=⟨g,j,none⟩:=by unfold Addr.add;split <;> simp_all
theorem RtI.top {w W:World} {g3 g4 c3 c4 j p q:Nat} {a b:ByteArray} {r:List (ByteArray×Nat)} (h:RtI w W (.slice (some ⟨g3,0,none⟩) (r.length+2) c3) (.slice (some ⟨g4,0,none⟩) (r.length+2) c4) ((a,p) :: (b,q) :: r) j) :
  W.cell? ⟨g3,r.length,none⟩=some (.string b)∧W.cell? ⟨g3,r.length+1,none⟩=some (.string a)∧W.cell? ⟨g4,r.length,none⟩=some (.int .i64 q)∧W.cell? ⟨g4,r.length+1,none⟩=some (.int .i64 p):=by
 have f3:∀(x:List ByteArray),x.flatMap encT=x.map Value.string:=fun x=>by induction x with | nil=>rfl | cons a x ih=>rw [List.flatMap_cons,ih];rfl
 have f4:∀(x:List Nat),x.flatMap encI=x.map (fun (n:Nat)=>Value.int .i64 (n:Int)):=fun x=>by induction x with | nil=>rfl | cons a x ih=>rw [List.flatMap_cons,ih];rfl
 have two:∀(l:List Value) (y x:Value) (n:Nat),l.length=n→(l ++ [y,x])[n]?=some y∧(l ++ [y,x])[n+1]?=some x:=fun l y x n hl=>by subst hl;simp
 have e3:=h.r3.cells (g:=g3) rfl;have e4:=h.r4.cells (g:=g4) rfl;rw [f3] at e3;rw [f4] at e4;have k3:=fun i u hu=>(addZ g3 i) ▸ e3 i u hu;have k4:=fun i u hu=>(addZ g4 i) ▸ e4 i u hu;have l3:(((a,p) :: (b,q) :: r).reverse.map (·.1)).map Value.string=((r.reverse.map (·.1)).map Value.string) ++ [.string b,.string a]:=by simp
 have l4:(((a,p) :: (b,q) :: r).reverse.map (·.2)).map (fun (n:Nat)=>Value.int .i64 (n:Int))=((r.reverse.map (·.2)).map (fun (n:Nat)=>Value.int .i64 (n:Int))) ++ [.int .i64 q,.int .i64 p]:=by simp
 obtain ⟨a1,a2⟩:=two ((r.reverse.map (·.1)).map Value.string) (.string b) (.string a) r.length (by simp);obtain ⟨a3,a4⟩:=two ((r.reverse.map (·.2)).map (fun (n:Nat)=>Value.int .i64 (n:Int))) (.int .i64 q) (.int .i64 p) r.length (by simp);exact ⟨k3 _ _ (by rw [l3];exact a1),k3 _ _ (by rw [l3];exact a2),k4 _ _ (by rw [l4];exact a3),k4 _ _ (by rw [l4];exact a4)⟩
theorem flat_one {α:Type} (enc:α→List Value) (l:List α) (x:α):(l ++ [x]).flatMap enc=l.flatMap enc ++ enc x:=by rw [List.flatMap_append];simp
theorem RtI.cut {w W:World} {g3 g4 c3 c4 j p q:Nat} {a b:ByteArray} {r:List (ByteArray×Nat)} (h:RtI w W (.slice (some ⟨g3,0,none⟩) (r.length+2) c3) (.slice (some ⟨g4,0,none⟩) (r.length+2) c4) ((a,p) :: (b,q) :: r) j) :
  W.ownsRow w.heap.size 9 1 (.slice (some ⟨g3,0,none⟩) r.length c3) r.length ((r.reverse.map (·.1)).flatMap encT)∧W.ownsRow w.heap.size 3 1 (.slice (some ⟨g4,0,none⟩) r.length c4) r.length ((r.reverse.map (·.2)).flatMap encI):=by
 have f3:∀(x:List ByteArray),x.flatMap encT=x.map Value.string:=fun x=>by induction x with | nil=>rfl | cons a x ih=>rw [List.flatMap_cons,ih];rfl
 have f4:∀(x:List Nat),x.flatMap encI=x.map (fun (n:Nat)=>Value.int .i64 (n:Int)):=fun x=>by induction x with | nil=>rfl | cons a x ih=>rw [List.flatMap_cons,ih];rfl
 have e3:=owns_take h.r3 (m:=r.length) (by simp);have e4:=owns_take h.r4 (m:=r.length) (by simp);rw [f3] at e3 ⊢;rw [f4] at e4 ⊢;have l3:(((a,p) :: (b,q) :: r).reverse.map (·.1)).map Value.string=((r.reverse.map (·.1)).map Value.string) ++ [.string b,.string a]:=by simp
 have l4:(((a,p) :: (b,q) :: r).reverse.map (·.2)).map (fun (n:Nat)=>Value.int .i64 (n:Int))=((r.reverse.map (·.2)).map (fun (n:Nat)=>Value.int .i64 (n:Int))) ++ [.int .i64 q,.int .i64 p]:=by simp
 rw [l3,List.take_left' (by simp)] at e3;rw [l4,List.take_left' (by simp)] at e4;exact ⟨e3,e4⟩
theorem row4 {W:World} {B g c p q:Nat} {a b:ByteArray} {r:List (ByteArray×Nat)} (h:W.ownsRow B 3 1 (.slice (some ⟨g,0,none⟩) (r.length+2) c) (r.length+2) ((((a,p) :: (b,q) :: r).reverse.map (·.2)).flatMap encI)) :
  W.cell? ⟨g,r.length+1,none⟩=some (.int .i64 p)∧W.ownsRow B 3 1 (.slice (some ⟨g,0,none⟩) r.length c) r.length ((r.reverse.map (·.2)).flatMap encI):=by
 have f4:∀(x:List Nat),x.flatMap encI=x.map (fun (n:Nat)=>Value.int .i64 (n:Int)):=fun x=>by induction x with | nil=>rfl | cons a x ih=>rw [List.flatMap_cons,ih];rfl
 have l4:(((a,p) :: (b,q) :: r).reverse.map (·.2)).map (fun (n:Nat)=>Value.int .i64 (n:Int))=((r.reverse.map (·.2)).map (fun (n:Nat)=>Value.int .i64 (n:Int))) ++ [.int .i64 q,.int .i64 p]:=by simp
 have two:∀(l:List Value) (y x:Value) (n:Nat),l.length=n→(l ++ [y,x])[n+1]?=some x:=fun l y x n hl=>by subst hl;simp
 have e4:=owns_take h (m:=r.length) (by simp);rw [f4] at e4 ⊢;rw [l4,List.take_left' (by simp)] at e4;refine ⟨?_,e4⟩;have k4:=h.cells (g:=g) rfl (r.length+1) (.int .i64 p) (by rw [f4,l4];exact two _ _ _ _ (by simp));rw [addZ] at k4;exact k4
theorem encI_two (q:Nat):encI (2 * q) = [.int .i64 (2 * (q:Int))]:=by simp [encI]
theorem RtI.cons {w W1 W2:World} {v4 v3' v4':Value} {st:List (ByteArray×Nat)} {d:ByteArray} {p n j:Nat} (hn:st.length=n)
  (h3:W1.ownsRow w.heap.size 9 1 v3' (n+1) ((st.reverse.map (·.1)).flatMap encT ++ encT d)) (h4:W2.ownsRow w.heap.size 3 1 v4' (n+1) ((st.reverse.map (·.2)).flatMap encI ++ encI p))
  (g4:W1.grownBy W2 v4.ownBlock) (hd:∀g,v3'.ownBlock=some g→v4.ownBlock≠some g) (hlow:Below w.heap.size w W2) (hs:p+sumR st=j) (hz:d.size=32) (hsz:∀e∈st,e.1.size=32) (hp:1≤p) (hps:∀e∈st,1≤e.2) :
  RtI w W2 v3' v4' ((d,p) :: st) j:=by
 subst hn;refine ⟨?_,?_,hlow,hs,fun e he=>?_,fun e he=>?_⟩
 ·rw [List.reverse_cons,List.map_append,List.map_cons,List.map_nil,flat_one];exact ownsRow_blk h3 (fun g hg hl=>g4.block g hl (fun q=>hd g hg q.symm))
 ·rw [List.reverse_cons,List.map_append,List.map_cons,List.map_nil,flat_one];exact h4
 ·rcases List.mem_cons.1 he with rfl | he
  ·exact hz
  exact hsz e he
 rcases List.mem_cons.1 he with rfl | he
 ·exact hp
 exact hps e he
def npQ (Q:Exit→Act→World→Prop):Exit→Act→World→Prop:=fun e a w=>match e with
 | .panic _=>False
 | e=>Q e a w
theorem npQ_wp {P:Program} {c:Code} {Q:Exit→Act→World→Prop} {a:Act} {w:World} (h:c.wp P (npQ Q) a w):c.wp P Q a w:=Code.wp_mono (fun e a w h=>by cases e <;> first | exact h | exact h.elim) h
theorem npN {Q:Exit→Act→World→Prop} {a:Act} {w:World} (h:Q .normal a w):npQ Q .normal a w:=h
def outB (a:ByteArray) (pre:List (Nat×ByteArray)):ByteArray:=pre.foldl (fun out e=>nodeD e.2 out) a
theorem outB_size:∀(pre:List (Nat×ByteArray)) (a:ByteArray),a.size=32→(outB a pre).size=32
 | [],_,h=>h
 | e :: pre,a,_=>outB_size pre (nodeD e.2 a) (sumS_size _)
theorem outB_snoc (a:ByteArray) (pre:List (Nat×ByteArray)) (e:Nat×ByteArray):outB a (pre ++ [e])=nodeD e.2 (outB a pre):=by unfold outB;rw [List.foldl_append];rfl
theorem outB_all (a:ByteArray) (r:List (ByteArray×Nat)):outB a (backL (r.reverse.map (·.1)))=r.foldl (fun out e=>nodeD e.1 out) a:=by
 have h1:outB a (backL (r.reverse.map (·.1)))=((backL (r.reverse.map (·.1))).map (·.2)).foldl (fun out x=>nodeD x out) a:=by unfold outB;rw [List.foldl_map]
 rw [h1,backL_snd,List.map_reverse,List.reverse_reverse,List.foldl_map]
structure BkJ (w:World) (ob:Nat) (a:ByteArray) (pre:List (Nat×ByteArray)) (O:Nat→Prop) (W:World):Prop where
 own:∀k,O k↔k=ob
 box:Boxed W ob 9 (.string (outB a pre))
 low:Below w.heap.size w W
theorem BkJ.chg {w A B:World} {ob X:Nat} {a:ByteArray} {pre:List (Nat×ByteArray)} {O C:Nat→Prop} (h:BkJ w ob a pre O A) (hc:Chg C A B) (hC:∀k,C k→X≤k∧¬O k) (hX:w.heap.size≤X):BkJ w ob a pre O B:=
 ⟨h.own,Boxed.blk h.box (hc.block ob h.box.lt (fun c=>(hC ob c).2 ((h.own ob).2 rfl))),h.low.trans (hc.below h.low.size (fun k c=>Nat.le_trans hX (hC k c).1))⟩
theorem root_any (l:List ByteArray) (ao:Option Addr) (ln cap:Nat) (w:World) (hl:l.length=ln) (hln:ln≤1000) (hrow:RowK 1 encT w ao l) (hsz:∀s∈l,s.size≤1000) (hG:Glob w) :
  Calls Tryz.prog 87 #[.slice ao ln cap] w fun e w'=>e = .returned (.string (rootF l))∧Below w.heap.size w w':=by
 obtain ⟨i3,hi3,hz30,hz31,hz32⟩:=info_parts Tryz.infoStr;obtain ⟨i4,hi4,hz40,hz41,hz42⟩:=info_parts Tryz.infoI1;have HL:=Hd hl;have HR:=Hd hrow;have HSZ:=Hd hsz;have HG:=Hd hG;clear hl hrow hsz hG;suffices HH:∀n,CallsIn Fence.wide n Tryz.prog 87 #[.slice ao ln cap] w (fun e w'=>e = .returned (.string (rootF l))∧Below w.heap.size w w') from (callsIn_wide (n:=5)).1 (HH 5)
 intro nF;refine callsIn_of_wp_marks Tryz.func87 rfl trivial ?_ rfl;simp only [Tryz.ntmps87,List.size_toArray,List.length_cons,List.length_nil,Nat.reduceAdd,Nat.reduceSub,Array.replicate_succ,Array.replicate_zero,List.push_toArray,List.append_toArray,List.nil_append,List.cons_append];with_reducible refine wpIn_wide.2 ?_
 go_upto_region 4 with (fail)
 go_loopg [3,4,13] ln (fun gh v3 v4 v13 wr=>∃(j:Nat),v13 = .int .i64 j∧j≤ln∧ln - j≤gh∧Hid (RtI w wr v3 v4 (stackR (l.take j)) j))
 case atStart=>exact ⟨0,rfl,by omega,by omega,Hd ⟨World.ownsRow_nil _ _ _ _,World.ownsRow_nil _ _ _ _,Below.refl _ _,rfl,(fun e he=>nomatch he),(fun e he=>nomatch he)⟩⟩
 case round=>
  obtain ⟨j,rfl,hj,hg,HI⟩:=hrel;by_cases hlt:j<ln
  ·have jl:(j:Int)<(ln:Int):=by omega
   have j0:(0:Int)≤(j:Int):=by omega
   have hjl:j<l.length:=by rw [HL.out];exact hlt
   obtain ⟨b,off,rfl,hbl,hce⟩:=(HR.out.later HI.out.low).str hjl;have LE:=Hd (fun W hW=>leaf_any l[j] W (by have:=HSZ.out _ (List.getElem_mem hjl);omega) (glob_below HG.out hW));have HSN:=Hd (show stackR (l.take (j+1))=mergeR ((leafD l[j],1) :: stackR (l.take j)) from by rw [List.take_succ_eq_append_getElem hjl,stackR_snoc]);obtain ⟨s,hs⟩:∃s,l[j]=s:=⟨_,rfl⟩;rw [hs] at hce LE HSN;obtain ⟨lf,hlf⟩:∃lf,lf=leafD s:=⟨_,rfl⟩;have HZ:=Hd (show lf.size=32 from by rw [hlf];exact sumS_size _);rw [←hlf] at LE HSN;obtain ⟨st,hst⟩:∃st,st=stackR (l.take j):=⟨_,rfl⟩;rw [←hst] at HI HSN;obtain ⟨n,hn⟩:∃n,n=st.length:=⟨_,rfl⟩;have HN:=Hd hn;have n9:n≤1000:=by have h1:=sumR_len st HI.out.pos;rw [HI.out.sum] at h1;omega
   have R3:=Hd HI.out.r3;have R4:=Hd HI.out.r4;rw [←hn] at R3 R4;clear hs hlf hst hn hbl;go_upto_region 8 with (first
    | (go_at_call 145;(with_reducible refine (LE.out _ HI.out.low).mono ?_);rintro e w2 ⟨rfl,h2⟩;have B2:=Hd h2;clear h2)
    | (at_builtin;refine wpList_append_new rfl (.tmp 17) (.tmp 20) 30 rfl w.heap.size 9 i3 _ 1 16 Tryz.underlying30 hi3 hz30 hz31 hz32 rfl (by decide) _ _ _ rfl (ownsRow_blk R3.out (fun g _ hl=>(B2.out.alloc B2.out.size _).block g hl)) ⟨w2.heap.size,0,none⟩ 1 1 (encT lf) rfl rfl (cells_at _ _ _ _ rfl) (encT_one _) (by unfold maxLen;omega) (by omega) (by have h1:=HI.out.low.size;have h2:=B2.out.size;simp;omega) _ rfl ?_;intro v3' w3 own3 gr3 hloc3;have BX:=Hd (B2.out.alloc B2.out.size (.cells #[.string lf] 9));have R3X:=Hd (ownsRow_blk R3.out (fun g _ hl=>BX.out.block g hl));have R4X:=Hd (ownsRow_blk R4.out (fun g _ hl=>BX.out.block g hl));have L2:=Hd (HI.out.low.trans (BX.out.mono HI.out.low.size));have L3:=Hd (L2.out.grown gr3 L2.out.size (fun g hg=>(owns_ltK R3X.out g hg).1));have R43:=Hd (ownsRow_blk R4X.out (fun g hg hl=>gr3.block g hl (fun q=>owns_diff R4X.out R3X.out (by decide) hg q.symm)));have R4Y:=Hd (ownsRow_blk R43.out (fun g _ hl=>((Below.refl w3.heap.size w3).alloc (Nat.le_refl _) (.cells #[.int .i64 1] 3)).block g hl));have OW3Y:=Hd (ownsRow_blk own3 (fun g _ hl=>((Below.refl w3.heap.size w3).alloc (Nat.le_refl _) (.cells #[.int .i64 1] 3)).block g hl));have C4Y:=Hd (show ∀j u,(encI 1)[j]?=some u→(w3.alloc (.cells #[.int .i64 1] 3)).cell? ((⟨w3.heap.size,0,none⟩:Addr).add j)=some u from cells_at w3 [.int .i64 1] 3 w3.heap.size rfl);obtain ⟨ao3,cp3,rfl⟩:=owns_len1 own3;have OW3:=Hd own3;clear own3 gr3 hloc3)
    | (at_builtin;refine wpList_append_new (by rfl) (.tmp 22) (.tmp 23) 47 (by rfl) w.heap.size 3 i4 (.int .i64 0) 1 8 Tryz.underlying47 hi4 hz40 hz41 hz42 (by rfl) (by decide) _ _ _ (by rfl) R4Y.out ⟨w3.heap.size,0,none⟩ 1 1 (encI 1) rfl rfl C4Y.out (encI_one 1) (by unfold maxLen;omega) (by omega) (by have h1:=L3.out.size;simp;omega) _ rfl ?_;intro v4' w4 own4 gr4 hloc4;obtain ⟨ao4,cp4,rfl⟩:=owns_len1 own4;have OW4:=Hd own4;have GR4:=Hd gr4;clear own4 gr4 hloc4))
   have L4X:=Hd (L3.out.alloc L3.out.size (.cells #[.int .i64 1] 3));have CO:=Hd (RtI.cons (d:=lf) (p:=1) (j:=j+1) HN.out.symm OW3Y.out OW4.out GR4.out (fun g hg=>owns_diff OW3Y.out R4Y.out (by decide) hg) (L4X.out.grown GR4.out L4X.out.size (fun g hg=>(owns_ltK R4Y.out g hg).1)) (show 1+sumR st=j+1 by rw [HI.out.sum];omega) HZ.out HI.out.sz (Nat.le_refl _) HI.out.pos);obtain ⟨T,hT⟩:∃T,T=stackR (l.take (j+1)):=⟨_,rfl⟩;have HT:=Hd (show mergeR ((lf,1) :: st)=T from by rw [hT,HSN.out]);have HTS:=Hd hT;clear hT hce;go_loopg [3,4,7] (n+1) (fun gh v3 v4 v7 wq=>∃(k:Nat) (st':List (ByteArray×Nat)),v7 = .int .i64 k∧k=st'.length∧k≤gh∧Hid (mergeR st'=T∧st'≠[]∧RtI w wq v3 v4 st' (j+1)))
   case atStart=>exact ⟨n+1,(lf,1) :: st,by go_num,by rw [List.length_cons,HN.out],by omega,Hd ⟨HT.out,by simp,CO.out⟩⟩
   case round=>
    obtain ⟨k,st',rfl,hk,hkg,HQ⟩:=hrel;rcases st' with _ | ⟨⟨a,p⟩,_ | ⟨⟨b',q⟩,r⟩⟩
    ·exact absurd rfl HQ.out.2.1
    ·have hk1:k=1:=hk;subst hk1;clear hk;go_upto_region 8 with (fail)
     refine npQ_wp ?_;refine wp_region_held_drew (S:=fun _=>True) (by kernel_rfl) trivial (fun hHeld=>?_);refine hyw (i:=0) hHeld ?_;try simp only [Act.put,zz]
     refine hyw (i:=1) hHeld ?_;try simp only [Act.put,zz]
     refine hyw (i:=2) hHeld ?_;try simp only [Act.put,zz]
     refine hun (i:=3) hHeld ?_;try simp only [Act.put,zz]
     refine hun (i:=4) hHeld ?_;try simp only [Act.put,zz]
     refine hun (i:=5) hHeld ?_;try simp only [Act.put,zz]
     refine hun (i:=6) hHeld ?_;try simp only [Act.put,zz]
     refine hun (i:=7) hHeld ?_;try simp only [Act.put,zz]
     refine hun (i:=8) hHeld ?_;try simp only [Act.put,zz]
     refine hun (i:=9) hHeld ?_;try simp only [Act.put,zz]
     refine hun (i:=10) hHeld ?_;try simp only [Act.put,zz]
     refine hun (i:=11) hHeld ?_;try simp only [Act.put,zz]
     refine hun (i:=12) hHeld ?_;try simp only [Act.put,zz]
     refine hun (i:=13) hHeld ?_;try simp only [Act.put,zz]
     refine hyw (i:=14) hHeld ?_;try simp only [Act.put,zz]
     refine wpAnyH_done (by kernel_rfl) (npN ?_) _;go_wp2_with fail
     go_roundg (ln - (j+1))
     case measure=>omega
     case rel=>
      have HR:=Hd (show stackR (l.take (j+1)) = [(a,p)] from by rw [←HTS.out,←HQ.out.1,mergeR_one]);exact ⟨j+1,by go_num,by omega,by omega,by rw [HR.out];exact Hd (HQ.out.2.2.later (Below.refl _ wr).drew)⟩
    obtain ⟨m,hm⟩:∃m,m=r.length:=⟨_,rfl⟩;have hk2:k=m+2:=by rw [hk,hm];rfl
    subst hk2;have HM:=Hd hm;have hml:m+2≤1000:=by have h1:=sumR_len _ HQ.out.2.2.pos;rw [HQ.out.2.2.sum] at h1;rw [hk];omega
    have hpq:p+q≤1000:=by have h1:=HQ.out.2.2.sum;simp only [sumR,List.map_cons,List.foldr_cons] at h1;omega
    obtain ⟨g3,c3,hv3,hc3⟩:=owns_sliceN HQ.out.2.2.r3 (by simp);obtain ⟨g4,c4,hv4,hc4⟩:=owns_sliceN HQ.out.2.2.r4 (by simp);rw [←hk] at hv3 hv4 hc3 hc4;subst hv3;subst hv4;obtain ⟨x1,x2,x3,x4⟩:=RtI.top (r:=r) (by rw [←hm];exact HQ.out.2.2);rw [←hm] at x1 x2 x3 x4;clear hk hm;have m0:(0:Int)≤(m:Int):=by omega
    have m1:(0:Int)≤(m:Int)+1:=by omega
    have m2:(m:Int)<(m:Int)+2:=by omega
    have m3:(m:Int)+1<(m:Int)+2:=by omega
    have m4:(1:Int)<(m:Int)+2:=by omega
    have s1:(m:Int)+2 - 2=(m:Int):=by omega
    have s2:(m:Int)+2 - 1=(m:Int)+1:=by omega
    have e1:((m:Int)+1).toNat=m+1:=by omega
    have wr0:IntKind.i64.wrap (m:Int)=(m:Int):=by rw [IntKind.wrap_i64];omega
    have wr1:IntKind.i64.wrap ((m:Int)+1)=(m:Int)+1:=by rw [IntKind.wrap_i64];omega
    have cc3:(m:Int)≤(c3:Int):=by omega
    have cc4:(m:Int)≤(c4:Int):=by omega
    have HX:=Hd (And.intro (And.intro x1 x2) (And.intro x3 x4));by_cases hqp:q=p
    ·subst hqp;go_upto_region 8 with (fail)
     refine npQ_wp ?_;refine wp_region_held_drew (S:=fun W=>W.cell? ⟨g4,m,none⟩=some (.int .i64 q)∧W.cell? ⟨g4,m+1,none⟩=some (.int .i64 q)) (by kernel_rfl) ⟨x3,x4⟩ (fun hHeld=>?_);refine hyw (i:=0) hHeld ?_;try simp only [Act.put,zz]
     refine hyw (i:=1) hHeld ?_;try simp only [Act.put,zz]
     refine hyw (i:=2) hHeld ?_;try simp only [Act.put,zz]
     refine hyw (i:=3) hHeld ?_;try simp only [Act.put,zz]
     refine hyw (i:=4) hHeld ?_;try simp only [Act.put,zz]
     refine hyw (i:=5) hHeld ?_;try simp only [Act.put,zz]
     refine hyw (i:=6) hHeld ?_;try simp only [Act.put,zz]
     refine hyw (i:=7) hHeld ?_;try simp only [Act.put,zz]
     refine hyw (i:=8) hHeld ?_;try simp only [Act.put,zz]
     refine hyw (i:=9) hHeld ?_;try simp only [Act.put,zz]
     refine hyw (i:=10) hHeld ?_;try simp only [Act.put,zz]
     refine hyw (i:=11) hHeld ?_;try simp only [Act.put,zz]
     refine hyw (i:=12) hHeld ?_;try simp only [Act.put,zz]
     refine hyw (i:=13) hHeld ?_;try simp only [Act.put,zz]
     refine hyw (i:=14) hHeld ?_;try simp only [Act.put,zz]
     refine wpAnyH_done (by kernel_rfl) (npN ?_) _;go_wp2_with fail
     have HQ2:=Hd (HQ.out.2.2.later (Below.refl _ wr).drew);obtain ⟨z1,z2,z3,z4⟩:wr.drew.cell? ⟨g3,m,none⟩=some (.string b')∧wr.drew.cell? ⟨g3,m+1,none⟩=some (.string a)∧wr.drew.cell? ⟨g4,m,none⟩=some (.int .i64 q)∧wr.drew.cell? ⟨g4,m+1,none⟩=some (.int .i64 q):=⟨x1,x2,x3,x4⟩;obtain ⟨wd,hwd⟩:∃wd,wd=wr.drew:=⟨_,rfl⟩;rw [←hwd] at HQ2 z1 z2 z3 z4 ⊢;clear hwd x1 x2 x3 x4;obtain ⟨nd,hnd⟩:∃nd,nd=nodeD b' a:=⟨_,rfl⟩;have ND:=Hd (fun (W:World) (hW:Below wd.heap.size wd W)=>node_any b' a W (by have:=HQ2.out.sz (b',q) (by simp);simp only at this;omega) (by have:=HQ2.out.sz (a,q) (by simp);simp only at this;omega) (glob_below HG.out (HQ2.out.low.trans (hW.mono HQ2.out.low.size))));rw [←hnd] at ND;have HND:=Hd hnd;clear hnd;have CU:=Hd (RtI.cut (r:=r) (by rw [←HM.out];exact HQ2.out));rw [←HM.out] at CU;have y1:wd.drew.cell? ⟨g3,m,none⟩=some (.string b'):=z1;have y2:wd.drew.cell? ⟨g3,m+1,none⟩=some (.string a):=z2;go_cut [3] from 44 to 60 (fun v3 wc=>∃ao cp,v3 = .slice ao (m+1) cp∧Hid (wc.ownsRow w.heap.size 9 1 (.slice ao (m+1) cp) (m+1) ((r.reverse.map (·.1)).flatMap encT ++ encT nd)∧wc.ownsRow w.heap.size 3 1 (.slice (some ⟨g4,0,none⟩) (m+2) c4) ((a,q) :: (b',q) :: r).length ((((a,q) :: (b',q) :: r).reverse.map (·.2)).flatMap encI)∧Below w.heap.size w wc))
     case first=>
      refine npQ_wp ?_;refine wp_region_held_drew (S:=fun _=>True) (by kernel_rfl) trivial (fun hHeld=>?_);refine hyw (i:=0) hHeld ?_;try simp only [Act.put,zz]
      refine hyw (i:=1) hHeld ?_;try simp only [Act.put,zz]
      refine hyw (i:=2) hHeld ?_;try simp only [Act.put,zz]
      refine hyw (i:=3) hHeld ?_;try simp only [Act.put,zz]
      refine hyw (i:=4) hHeld ?_;try simp only [Act.put,zz]
      refine hyw (i:=5) hHeld ?_;try simp only [Act.put,zz]
      refine hyw (i:=6) hHeld ?_;try simp only [Act.put,zz]
      refine hyw (i:=7) hHeld ?_;try simp only [Act.put,zz]
      refine hyw (i:=9) hHeld ?_;try simp only [Act.put,zz]
      refine hyw (i:=10) hHeld ?_;try simp only [Act.put,zz]
      refine hyw (i:=11) hHeld ?_;try simp only [Act.put,zz]
      refine hyw (i:=12) hHeld ?_;try simp only [Act.put,zz]
      refine wpAnyH_ready (rs:=[8,13]) (by kernel_rfl) (by simp) ?_;refine AllReadyH.cons (o:=_) rfl (fun K hK=>?_) (AllReadyH.cons (o:=_) rfl (fun K hK=>?_) AllReadyH.nil)
      ·skip
       go_simp;clear hHeld;go_wp2_with fail
       refine hK.out _ _ (trivial) (fun hHeld=>?_);clear hK K;try simp only [Act.put,zz]
       refine wpAnyH_ready (rs:=[13]) (by kernel_rfl) (by simp) ?_;refine AllReadyH.cons (o:=_) rfl (fun K hK=>?_) AllReadyH.nil;go_simp;clear hHeld;go_wp2_with fail
       refine hK.out _ _ (trivial) (fun hHeld=>?_);clear hK K;try simp only [Act.put,zz]
       refine wpAnyH_ready (rs:=[14]) (by kernel_rfl) (by simp) ?_;refine AllReadyH.cons (o:=_) rfl (fun K hK=>?_) AllReadyH.nil;go_simp;go_at_call 146
       (with_reducible refine (ND.out _ (Below.refl _ wd).drew).mono ?_)
       rintro e w5 ⟨rfl,h5⟩;have B5:=Hd (show Below wd.heap.size wd w5 from (Below.refl _ wd).drew.trans (h5.mono (Nat.le_refl _)));clear h5;clear hHeld;go_wp2_with fail
       refine hK.out _ _ (trivial) (fun hHeld=>?_);clear hK K;try simp only [Act.put,zz]
       refine wpAnyH_ready (rs:=[15]) (by kernel_rfl) (by simp) ?_;refine AllReadyH.cons (o:=_) rfl (fun K hK=>?_) AllReadyH.nil;go_simp;clear hHeld;go_wp2_with fail
       refine hK.out _ _ (trivial) (fun hHeld=>?_);clear hK K;try simp only [Act.put,zz]
       refine wpAnyH_ready (rs:=[16]) (by kernel_rfl) (by simp) ?_;refine AllReadyH.cons (o:=_) rfl (fun K hK=>?_) AllReadyH.nil;clear hHeld;have B6:=Hd (B5.out.alloc B5.out.size (.cells #[.string nd] 9));have R3X:=Hd (ownsRow_blk CU.out.1 (fun g _ hl=>B6.out.block g hl));have R4X:=Hd (ownsRow_blk HQ2.out.r4 (fun g _ hl=>B6.out.block g hl));have L6:=Hd (HQ2.out.low.trans (B6.out.mono HQ2.out.low.size));refine step_new (by rfl) (.tmp 47) (.tmp 59) 30 rfl w.heap.size 9 i3 _ 1 16 Tryz.underlying30 hi3 hz30 hz31 hz32 rfl (by decide) _ _ _ rfl R3X.out ⟨w5.heap.size,0,none⟩ 1 1 (encT nd) rfl rfl (cells_at _ _ _ _ rfl) (encT_one _) (by unfold maxLen;omega) (by omega) L6.out.size ?_;intro v3' w6 own3 gr3 hloc3;obtain ⟨ao6,cp6,rfl⟩:=owns_len1 own3;have FIN:=Hd (And.intro own3 (And.intro (ownsRow_blk R4X.out (fun g hg hl=>gr3.block g hl (fun q=>owns_diff R4X.out R3X.out (by decide) hg q.symm))) (L6.out.grown gr3 L6.out.size (fun g hg=>(owns_ltK R3X.out g hg).1))));clear own3 gr3 hloc3;refine hK.out _ _ (trivial) (fun hHeld=>?_);clear hK K;try simp only [Act.put,zz]
       refine hyw (i:=17) hHeld ?_;try simp only [Act.put,zz]
       refine wpAnyH_done (by kernel_rfl) (npN ?_) _;go_wp2_with fail
       go_meet;exact ⟨ao6,cp6,rfl,FIN⟩
      skip
      go_simp;clear hHeld;go_wp2_with fail
      refine hK.out _ _ (trivial) (fun hHeld=>?_);clear hK K;try simp only [Act.put,zz]
      refine wpAnyH_ready (rs:=[8]) (by kernel_rfl) (by simp) ?_;refine AllReadyH.cons (o:=_) rfl (fun K hK=>?_) AllReadyH.nil;go_simp;clear hHeld;go_wp2_with fail
      refine hK.out _ _ (trivial) (fun hHeld=>?_);clear hK K;try simp only [Act.put,zz]
      refine wpAnyH_ready (rs:=[14]) (by kernel_rfl) (by simp) ?_;refine AllReadyH.cons (o:=_) rfl (fun K hK=>?_) AllReadyH.nil;go_simp;go_at_call 146
      (with_reducible refine (ND.out _ (Below.refl _ wd).drew).mono ?_)
      rintro e w5 ⟨rfl,h5⟩;have B5:=Hd (show Below wd.heap.size wd w5 from (Below.refl _ wd).drew.trans (h5.mono (Nat.le_refl _)));clear h5;clear hHeld;go_wp2_with fail
      refine hK.out _ _ (trivial) (fun hHeld=>?_);clear hK K;try simp only [Act.put,zz]
      refine wpAnyH_ready (rs:=[15]) (by kernel_rfl) (by simp) ?_;refine AllReadyH.cons (o:=_) rfl (fun K hK=>?_) AllReadyH.nil;go_simp;clear hHeld;go_wp2_with fail
      refine hK.out _ _ (trivial) (fun hHeld=>?_);clear hK K;try simp only [Act.put,zz]
      refine wpAnyH_ready (rs:=[16]) (by kernel_rfl) (by simp) ?_;refine AllReadyH.cons (o:=_) rfl (fun K hK=>?_) AllReadyH.nil;clear hHeld;have B6:=Hd (B5.out.alloc B5.out.size (.cells #[.string nd] 9));have R3X:=Hd (ownsRow_blk CU.out.1 (fun g _ hl=>B6.out.block g hl));have R4X:=Hd (ownsRow_blk HQ2.out.r4 (fun g _ hl=>B6.out.block g hl));have L6:=Hd (HQ2.out.low.trans (B6.out.mono HQ2.out.low.size));refine step_new (by rfl) (.tmp 47) (.tmp 59) 30 rfl w.heap.size 9 i3 _ 1 16 Tryz.underlying30 hi3 hz30 hz31 hz32 rfl (by decide) _ _ _ rfl R3X.out ⟨w5.heap.size,0,none⟩ 1 1 (encT nd) rfl rfl (cells_at _ _ _ _ rfl) (encT_one _) (by unfold maxLen;omega) (by omega) L6.out.size ?_;intro v3' w6 own3 gr3 hloc3;obtain ⟨ao6,cp6,rfl⟩:=owns_len1 own3;have FIN:=Hd (And.intro own3 (And.intro (ownsRow_blk R4X.out (fun g hg hl=>gr3.block g hl (fun q=>owns_diff R4X.out R3X.out (by decide) hg q.symm))) (L6.out.grown gr3 L6.out.size (fun g hg=>(owns_ltK R3X.out g hg).1))));clear own3 gr3 hloc3;refine hK.out _ _ (trivial) (fun hHeld=>?_);clear hK K;try simp only [Act.put,zz]
      refine hyw (i:=17) hHeld ?_;try simp only [Act.put,zz]
      refine wpAnyH_done (by kernel_rfl) (npN ?_) _;go_wp2_with fail
      go_meet;exact ⟨ao6,cp6,rfl,FIN⟩
     obtain ⟨ao6,cp6,rfl,HC⟩:=hcut;obtain ⟨c4b,t4⟩:=row4 (a:=a) (b:=b') (p:=q) (q:=q) (r:=r) (by have:=HC.out.2.1;rw [HM.out] at this;exact this);rw [←HM.out] at c4b t4;have T4:=Hd t4;clear t4;have wrm:IntKind.i64.wrap (2 * (q:Int))=2 * (q:Int):=by rw [IntKind.wrap_i64];omega
     have c4d:wc.drew.cell? ⟨g4,m+1,none⟩=some (.int .i64 q):=c4b;go_upto_region 11 with (fail)
     have AX:=Hd (((Below.refl wc.heap.size wc).drew).alloc (Nat.le_refl _) (.cells #[.int .i64 (2 * (q:Int))] 3));have T4X:=Hd (ownsRow_blk T4.out (fun g _ hl=>AX.out.block g hl));have R3X:=Hd (ownsRow_blk HC.out.1 (fun g _ hl=>AX.out.block g hl));have L7:=Hd (HC.out.2.2.trans (AX.out.mono HC.out.2.2.size));refine npQ_wp ?_;refine wp_region_held_drew (S:=fun _=>True) (by kernel_rfl) trivial (fun hHeld=>?_);refine hyw (i:=0) hHeld ?_;try simp only [Act.put,zz]
     refine hyw (i:=1) hHeld ?_;try simp only [Act.put,zz]
     refine hyw (i:=2) hHeld ?_;try simp only [Act.put,zz]
     refine hyw (i:=3) hHeld ?_;try simp only [Act.put,zz]
     refine hyw (i:=4) hHeld ?_;try simp only [Act.put,zz]
     refine hyw (i:=5) hHeld ?_;try simp only [Act.put,zz]
     refine hyw (i:=6) hHeld ?_;try simp only [Act.put,zz]
     refine hyw (i:=7) hHeld ?_;try simp only [Act.put,zz]
     refine wpAnyH_ready (rs:=[8]) (by kernel_rfl) (by simp) ?_;refine AllReadyH.cons (o:=_) rfl (fun K hK=>?_) AllReadyH.nil;go_simp;clear hHeld;go_wp2_with fail
     refine hK.out _ _ (trivial) (fun hHeld=>?_);clear hK K;try simp only [Act.put,zz]
     refine hyw (i:=9) hHeld ?_;try simp only [Act.put,zz]
     refine wpAnyH_ready (rs:=[10]) (by kernel_rfl) (by simp) ?_;refine AllReadyH.cons (o:=_) rfl (fun K hK=>?_) AllReadyH.nil;go_simp;clear hHeld;go_wp2_with fail
     refine hK.out _ _ (trivial) (fun hHeld=>?_);clear hK K;try simp only [Act.put,zz]
     refine wpAnyH_ready (rs:=[11]) (by kernel_rfl) (by simp) ?_;refine AllReadyH.cons (o:=_) rfl (fun K hK=>?_) AllReadyH.nil;clear hHeld;refine step_new (by rfl) (.tmp 64) (.tmp 71) 47 rfl w.heap.size 3 i4 (.int .i64 0) 1 8 Tryz.underlying47 hi4 hz40 hz41 hz42 rfl (by decide) _ _ _ rfl T4X.out ⟨wc.heap.size,0,none⟩ 1 1 [.int .i64 (2 * (q:Int))] rfl rfl (cells_at _ _ _ _ rfl) (by rw [←encI_two];exact encI_one _) (by unfold maxLen;omega) (by omega) L7.out.size ?_;intro v4' w7 own4 gr4 hloc4;obtain ⟨ao7,cp7,rfl⟩:=owns_len1 own4;have OW4:=Hd own4;have GR4:=Hd gr4;clear own4 gr4 hloc4;refine hK.out _ _ (trivial) (fun hHeld=>?_);clear hK K;try simp only [Act.put,zz]
     refine hyw (i:=12) hHeld ?_;try simp only [Act.put,zz]
     refine wpAnyH_done (by kernel_rfl) (npN ?_) _;have CO2:=Hd (RtI.cons (d:=nd) (p:=2 * q) (j:=j+1) HM.out.symm R3X.out (by rw [encI_two];exact OW4.out) GR4.out (fun g hg=>owns_diff R3X.out T4X.out (by decide) hg) (L7.out.grown GR4.out L7.out.size (fun g hg=>(owns_ltK T4X.out g hg).1)) (by have h1:=HQ.out.2.2.sum;simp only [sumR,List.map_cons,List.foldr_cons] at h1 ⊢;omega) (by rw [HND.out];exact sumS_size _) (fun e he=>HQ.out.2.2.sz e (by simp [he])) (by have:=HQ.out.2.2.pos (a,q) (by simp);simp only at this;omega) (fun e he=>HQ.out.2.2.pos e (by simp [he])));go_wp2_with fail
     go_roundg (m+1)
     case measure=>omega
     case rel=>exact ⟨m+1,(nd,2 * q) :: r,by go_num,by rw [List.length_cons,HM.out],by omega,Hd ⟨by rw [←HQ.out.1,mergeR_same,HND.out],by simp,CO2.out⟩⟩
    have hqp':¬(q:Int)=(p:Int):=by omega
    go_upto_region 8 with (fail)
    refine npQ_wp ?_;refine wp_region_held_drew (S:=fun W=>W.cell? ⟨g4,m,none⟩=some (.int .i64 q)∧W.cell? ⟨g4,m+1,none⟩=some (.int .i64 p)) (by kernel_rfl) ⟨x3,x4⟩ (fun hHeld=>?_);refine hyw (i:=0) hHeld ?_;try simp only [Act.put,zz]
    refine hyw (i:=1) hHeld ?_;try simp only [Act.put,zz]
    refine hyw (i:=2) hHeld ?_;try simp only [Act.put,zz]
    refine hyw (i:=3) hHeld ?_;try simp only [Act.put,zz]
    refine hyw (i:=4) hHeld ?_;try simp only [Act.put,zz]
    refine hyw (i:=5) hHeld ?_;try simp only [Act.put,zz]
    refine hyw (i:=6) hHeld ?_;try simp only [Act.put,zz]
    refine hyw (i:=7) hHeld ?_;try simp only [Act.put,zz]
    refine hyw (i:=8) hHeld ?_;try simp only [Act.put,zz]
    refine hyw (i:=9) hHeld ?_;try simp only [Act.put,zz]
    refine hyw (i:=10) hHeld ?_;try simp only [Act.put,zz]
    refine hyw (i:=11) hHeld ?_;try simp only [Act.put,zz]
    refine hyw (i:=12) hHeld ?_;try simp only [Act.put,zz]
    refine hyw (i:=13) hHeld ?_;try simp only [Act.put,zz]
    refine hyw (i:=14) hHeld ?_;try simp only [Act.put,zz]
    refine wpAnyH_done (by kernel_rfl) (npN ?_) _;go_wp2_with fail
    go_roundg (ln - (j+1))
    case measure=>omega
    case rel=>
     have HR:=Hd (show stackR (l.take (j+1))=(a,p) :: (b',q) :: r from by rw [←HTS.out,←HQ.out.1,mergeR_diff hqp]);exact ⟨j+1,by go_num,by omega,by omega,by rw [HR.out];exact Hd (HQ.out.2.2.later (Below.refl _ wr).drew)⟩
  have jl:¬(j:Int)<(ln:Int):=by omega
  have hst:stackR (l.take j)=stackR l:=by rw [List.take_of_length_le (by rw [HL.out];omega)]
  rw [hst] at HI;have HRF:=Hd (show rootF l=match stackR l with | []=>sumS ⟨#[]⟩ | (a,_) :: r=>r.foldl (fun out e=>nodeD e.1 out) a from rfl);clear hst;rcases hsl:stackR l with _ | ⟨⟨a,p⟩,r⟩
  ·rw [hsl] at HI HRF;have HR0:=Hd (show rootF l=sumS ⟨#[]⟩ from HRF.out);obtain ⟨ao3,cp3,hv3⟩:=owns_len1 HI.out.r3;subst hv3;clear hsl HRF;simp only [List.length_nil];go_wp2_with (first
    | (go_at_call 72;(with_reducible refine (sum_any _ _ (by decide) (glob_below HG.out HI.out.low)).mono ?_);rintro e w2 ⟨rfl,h2⟩;have B2:=Hd (HI.out.low.trans (h2.mono HI.out.low.size));clear h2))
   exact ⟨_,results_tmp rfl _ _ _,by rw [HR0.out];rfl,B2.out⟩
  rw [hsl] at HI HRF;have HR0:=Hd (show rootF l=r.foldl (fun out e=>nodeD e.1 out) a from HRF.out);obtain ⟨m,hm⟩:∃m,m=r.length:=⟨_,rfl⟩;have HM:=Hd hm;have hml:m+1≤1000:=by have h1:=sumR_len _ HI.out.pos;rw [HI.out.sum] at h1;rw [hm];simp only [List.length_cons] at h1;omega
  have hlm:((a,p) :: r).length=m+1:=by rw [hm];rfl
  obtain ⟨g3,c3,hv3,hc3⟩:=owns_sliceN HI.out.r3 (by simp);rw [hlm] at hv3 hc3;subst hv3;have ROWT:=Hd (show RowK 1 encT wr (some ⟨g3,0,none⟩) (((a,p) :: r).reverse.map (·.1)) from by
   have h3:=HI.out.r3;rw [show ((a,p) :: r).length=(((a,p) :: r).reverse.map (·.1)).length by simp] at h3;obtain ⟨ao,cap,hv,_,hrk⟩:=rowK_of_owns encT_len (by decide) h3;have:ao=some ⟨g3,0,none⟩:=by injection hv with h _ _;exact h.symm
   rw [this] at hrk;exact hrk)
  have hcell:wr.cell? ⟨g3,m,none⟩=some (.string a):=by
   obtain ⟨b,off,he,_,hce⟩:=ROWT.out.str (i:=m) (by simp [hm]);obtain ⟨rfl,rfl⟩:b=g3∧off=0:=by injection he with he;injection he with h1 h2;exact ⟨h1.symm,h2.symm⟩
   simp [hm] at hce;rw [hm];exact hce
  have ROWM:=Hd (show RowK 1 encT wr (some ⟨g3,0,none⟩) (r.reverse.map (·.1)) from fun i x hx=>ROWT.out i x (by
   rw [List.reverse_cons,List.map_append,List.getElem?_append_left (by rw [List.getElem?_eq_some_iff] at hx;exact hx.1)];exact hx))
  have HG3:=Hd (owns_ltK HI.out.r3 g3 rfl);have m0:(0:Int)≤(m:Int):=by omega
  have m1:(m:Int)<(m:Int)+1:=by omega
  have m2:¬(m:Int)+1=0:=by omega
  have wrm:IntKind.i64.wrap (m:Int)=(m:Int):=by rw [IntKind.wrap_i64];omega
  have cc3:(m:Int)≤(c3:Int):=by omega
  clear hsl HRF hm hlm;go_upto_region 16 with (fail)
  go_wp2_with (first
   | (go_at_call 147;(with_reducible refine (back_any _ _ _ _).mono ?_);rintro e w2 ⟨rfl,rfl⟩))
  obtain ⟨L,hL⟩:∃L,L=r.reverse.map (·.1):=⟨_,rfl⟩;have HLL:=Hd (show L.length=m from by rw [hL,HM.out];simp);have HOUT:=Hd (show outB a (backL L)=rootF l from by rw [hL,outB_all,HR0.out]);have HSB:=Hd (show ∀e∈backL L,e.2.size=32 from fun e he=>by
   have h1:e.2∈(backL L).map (·.2):=List.mem_map_of_mem he;rw [backL_snd,hL,List.mem_reverse] at h1;obtain ⟨x,hx,hxe⟩:=List.mem_map.1 h1;rw [←hxe];exact HI.out.sz x (by simp at hx;simp [hx]))
  have ROWL:=Hd ROWM.out;rw [←hL] at ROWL;have HAS:=Hd (show a.size=32 from HI.out.sz (a,p) (by simp));have HLOW:=Hd HI.out.low;clear hL hcell;have B2:=Hd (show Below wr.heap.size wr ((wr.alloc (.cells #[.string a] 9)).alloc (.cells #[.slice (some ⟨g3,0,none⟩) m c3] 30)) from ((Below.refl _ wr).alloc (Nat.le_refl _) _).alloc (by simp) _);have BX:=Hd (show Boxed ((wr.alloc (.cells #[.string a] 9)).alloc (.cells #[.slice (some ⟨g3,0,none⟩) m c3] 30)) wr.heap.size 9 (.string a) from Boxed.blk (Boxed.new wr _ _) (Below.heap_alloc _ _ _ (by simp)));have BM:=Hd (show ((wr.alloc (.cells #[.string a] 9)).alloc (.cells #[.slice (some ⟨g3,0,none⟩) m c3] 30)).cell? ⟨wr.heap.size+1,0,none⟩=some (.slice (some ⟨g3,0,none⟩) m c3) by have:=cell_box (wr.alloc (.cells #[.string a] 9)) #[.slice (some ⟨g3,0,none⟩) m c3] 30 0 (.slice (some ⟨g3,0,none⟩) m c3) rfl (wr.heap.size+1) (by simp);exact this);have HW1:=Hd (show ((wr.alloc (.cells #[.string a] 9)).alloc (.cells #[.slice (some ⟨g3,0,none⟩) m c3] 30)).heap.size=wr.heap.size+2 by simp);obtain ⟨w1,hw1⟩:∃w1,w1=(wr.alloc (.cells #[.string a] 9)).alloc (.cells #[.slice (some ⟨g3,0,none⟩) m c3] 30):=⟨_,rfl⟩;rw [←hw1] at B2 BX BM HW1 ⊢;clear hw1;refine (wpIn_wide (n:=nF)).1 ?_;refine wpIn_range_all (gf:=193) (lb:=#[.pointer (some ⟨wr.heap.size+1,0,none⟩)]) rfl (enters_of Tryz.func193 (by kernel_rfl) rfl)
   (back_seq _ (wr.heap.size+1) m c3 L (some ⟨g3,0,none⟩) w1 HLL.out (by omega) (ROWL.out.later B2.out) (fun a e=>by injection e with e;rw [←e];have h1:=HG3.out.2;have h2:=HW1.out;show g3<_;omega) BM.out) (fun _=>rfl)
   (fun pre O W=>BkJ w wr.heap.size a pre O W) (fun k=>k=wr.heap.size) ?hO0 ?hI ?h0
   (fun pre e a' O W=>a' = {tmps:=#[Value.slice ao ln cap,undef,Value.string {data:=#[]},Value.slice (some ⟨g3,0,none⟩) (m+1) c3,u4,undef,u6,u7,Value.pointer (some ⟨wr.heap.size,0,none⟩),undef,Value.string e.2,Value.slice ao ln cap,Value.int IntKind.i64 ↑ln,Value.int IntKind.i64 ↑j,Value.bool false,u15,u16,u17,u18,u19,u20,u21,u22,u23,u24,u25,u26,u27,u28,u29,u30,u31,u32,u33,u34,u35,u36,u37,u38,u39,u40,u41,u42,u43,u44,u45,u46,u47,u48,u49,u50,u51,u52,u53,u54,u55,u56,u57,u58,u59,u60,u61,u62,u63,u64,u65,u66,u67,u68,u69,u70,u71,u72,u73,Value.slice (some ⟨g3,0,none⟩) (m+1) c3,Value.int IntKind.i64 (↑m+1),Value.bool false,undef,Value.slice (some ⟨g3,0,none⟩) (m+1) c3,Value.slice (some ⟨g3,0,none⟩) (m+1) c3,Value.int IntKind.i64 (↑m+1),Value.int IntKind.i64 ↑m,Value.pointer (some ⟨g3,m,none⟩),Value.string a,Value.slice (some ⟨g3,0,none⟩) (m+1) c3,Value.slice (some ⟨g3,0,none⟩) (m+1) c3,Value.int IntKind.i64 (↑m+1),Value.int IntKind.i64 ↑m,Value.slice (some ⟨g3,0,none⟩) m c3,Value.func (Fn.func 193) #[] #[Value.pointer (some ⟨wr.heap.size+1,0,none⟩)],Value.int IntKind.i64 (e.1:Int),Value.string e.2,undef,undef,undef,undef],defers:=[]}∧BkJ w wr.heap.size a pre O W) ?hM ?assign ?body ?done
  case hO0=>
   rintro k rfl;refine ⟨by have:=HW1.out;omega,fun h=>?_⟩;rcases h with h | h
   ·omega
   have h1:=HG3.out.2;have h2:g3=wr.heap.size:=by simpa [Value.ownBlock] using h
   omega
  case hI=>rintro s O A B C h hc hC;exact h.chg hc hC (by have h1:=HW1.out;have h2:=HLOW.out.size;omega)
  case h0=>exact ⟨fun k=>Iff.rfl,BX.out,HLOW.out.trans (B2.out.mono HLOW.out.size)⟩
  case hM=>rintro s e a' O A B C ⟨q,h⟩ hc hC;exact ⟨q,h.chg hc hC (by have h1:=HW1.out;have h2:=HLOW.out.size;omega)⟩
  case assign=>
   intro l' pre e rest O W K hx hi' hK;obtain ⟨i,s⟩:=e;have HK:=Hd hK;dsimp only [encB2];clear hK;gi_wp2
   exact HK.out _ O W ⟨rfl,hi'⟩ (Chg.refl _ _) (fun k h=>.inl h)
  case body=>
   rintro l' pre e rest a' O W hx ⟨rfl,hbk⟩;have HB:=Hd hbk;have HSE:=Hd (HSB.out e (by rw [hx];simp));have cb:=HB.out.box.cell;have HN:=Hd (outB_snoc a pre e);have HOS:=Hd (outB_size pre a HAS.out);obtain ⟨i,s⟩:=e;simp only at HSE HN ⊢;obtain ⟨o,ho⟩:∃o,o=outB a pre:=⟨_,rfl⟩;rw [←ho] at cb HN HOS;clear hbk hx ho;gi_wp2
   refine wide_callR (node_any s o W (by have:=HSE.out;omega) (by have:=HOS.out;omega) (glob_below HG.out HB.out.low)) ?_;rintro e w3 ⟨rfl,h3⟩;have B3:=Hd h3;have BX3:=Hd (Boxed.blk HB.out.box (h3.block _ HB.out.box.lt));have cb3:=BX3.out.cell;have fz3:w3.frozen? ⟨wr.heap.size,0,none⟩=false:=frz_blk BX3.out;clear h3;gi_wp2
   refine ⟨O,⟨HB.out.own,?_,?_⟩,?_,fun k h=>.inl h⟩
   ·rw [HN.out];exact BX3.out.set _
   ·exact (HB.out.low.trans (B3.out.mono HB.out.low.size)).trans ((Chg.set w3 wr.heap.size 0 _ (C:=fun k=>k=wr.heap.size) rfl).below (HB.out.low.trans (B3.out.mono HB.out.low.size)).size (fun k hk=>by subst hk;exact HLOW.out.size))
   exact (Chg.of_below B3.out (fun k h1 h2=>by omega)).trans (Chg.set w3 wr.heap.size 0 _ (.inl ((HB.out.own _).2 rfl)))
  case done=>
   rintro D O W hD hnD hbk hK;have hcell:=hbk.box.cell;rw [HOUT.out] at hcell;have HB:=Hd hbk;have HRT:Hid (∃q,q=rootF l):=Hd ⟨_,rfl⟩;clear hbk;go_wp2_with fail
   refine ⟨by simp,.inl ⟨_,_,rfl,run_takeDeferred hK,?_⟩⟩;exact ⟨_,results_tmp rfl _ _ _,rfl,HB.out.low.trans ((Chg.put W D (.deferred none) (C:=fun k=>k=D) rfl).below HB.out.low.size (fun k hk=>by subst hk;have h1:=HW1.out;have h2:=HLOW.out.size;omega))⟩
end Fk
end
section
namespace Fk
open Go.RowKit Go.Sort Go.Lib
attribute [local go_sem] Oper.semAt_some
def encT1 (e:ByteArray×PF):List Value:=encT e.1
theorem encT1_len (e:ByteArray×PF):(encT1 e).length=1:=rfl
theorem encT1_one (e:ByteArray×PF):∀u∈encT1 e,u.oneCell'=true:=encT_one e.1
theorem pairS_enc (S:List (ByteArray×PF)):(pairS S).flatMap encT1=(idsS S).flatMap encT:=by
 unfold pairS;rw [List.flatMap_map];rfl
theorem pairS_len (S:List (ByteArray×PF)):(pairS S).length=S.length:=by unfold pairS;rw [List.length_map,idsS_len]
theorem ids_any {w:World} {x M:Nat} {S:List (ByteArray×PF)} (hS:SetAt w x M S) (hn:S.length≤1000) :
  Calls Tryz.prog 41 #[.pointer (some ⟨x,0,none⟩)] w fun e w'=>∃v,e = .returned v∧w'.ownsRow w.heap.size 9 1 v S.length ((idsS S).flatMap encT)∧Below w.heap.size w w':=by
 obtain ⟨i0,hi,hz0,hz1,hz2⟩:=info_parts Tryz.infoStr;suffices HH:∀n,CallsIn Fence.wide n Tryz.prog 41 #[.pointer (some ⟨x,0,none⟩)] w (fun e w'=>∃v,e = .returned v∧w'.ownsRow w.heap.size 9 1 v S.length ((idsS S).flatMap encT)∧Below w.heap.size w w') from (callsIn_wide (n:=5)).1 (HH 5)
 intro n;have HR:=Hd hS;have HPL:=Hd (pairS_len S);have HPE:=Hd (pairS_enc S);clear hS;refine callsIn_of_wp_marks Tryz.func41 rfl trivial ?_ rfl;simp only [Tryz.ntmps41,List.size_toArray,List.length_cons,List.length_nil,Nat.reduceAdd,Nat.reduceSub,Array.replicate_succ,Array.replicate_zero,List.push_toArray,List.append_toArray,List.nil_append,List.cons_append];gi_wp2
 refine wide_call (all_any x _) ?_;rintro e w1 ⟨rfl,hw1⟩;have hs2:w1.heap.size=w.heap.size+2:=by rw [hw1];simp
 have B2:=Hd (show Below w.heap.size w w1 by rw [hw1];exact ((Below.refl _ w).alloc (Nat.le_refl _) _).alloc (by simp) _);have BX:=Hd (show Boxed w1 w.heap.size 30 (.slice none 0 0) by rw [hw1];exact Boxed.blk (Boxed.new w _ _) (Below.heap_alloc _ _ _ (by simp)));have BM:=Hd (show w1.cell? ⟨w.heap.size+1,0,none⟩=some (.pointer (some ⟨x,0,none⟩)) by rw [hw1];have:=cell_box (w.alloc (.cells #[.slice none 0 0] 30)) #[.pointer (some ⟨x,0,none⟩)] 68 0 (.pointer (some ⟨x,0,none⟩)) rfl (w.heap.size+1) (by simp);exact this);have RM:=Hd (HR.out.later B2.out);simp only [World.size_alloc];have HS2:=Hd hs2;clear hw1 hs2;gi_wp2
 refine wpIn_range_all (gf:=142) (lb:=#[.pointer (some ⟨w.heap.size+1,0,none⟩)]) rfl (enters_of Tryz.func142 (by kernel_rfl) rfl)
  (all_seq _ (w.heap.size+1) x M S w1 hn RM.out BM.out) (fun _=>rfl)
  (fun pre O W=>∃v,BoxRow w W w.heap.size 30 9 1 pre.length v (pre.flatMap encT1) O) (fun k=>k=w.heap.size∨(Value.slice none 0 0).ownBlock=some k) ?hO0 ?hI ?h0
  (fun pre e a' O W=>a' = {tmps:=#[.pointer (some ⟨x,0,none⟩),undef,.slice none 0 0,.pointer (some ⟨w.heap.size,0,none⟩),.string e.1,.pointer (some ⟨x,0,none⟩),.func (.func 142) #[] #[.pointer (some ⟨w.heap.size+1,0,none⟩)],.string e.1,.agg (encP e.2).toArray,undef,undef,undef,undef,undef],defers:=[]} ∧
   ∃v,BoxRow w W w.heap.size 30 9 1 pre.length v (pre.flatMap encT1) O) ?hM ?assign ?body ?done
 case hO0=>
  intro k hk;rcases hk with rfl | hk
  ·refine ⟨by have:=HS2.out;omega,fun h=>?_⟩;rcases h with h | h | h
   ·have:=HR.out.lx;omega
   ·have:=HR.out.map.lt;omega
   omega
  simp [Value.ownBlock] at hk
 case hI=>rintro s O A A' C ⟨v,h⟩ hc hC;exact ⟨v,h.chg hc (fun k hk=>⟨by have:=(hC k hk).1;have:=HS2.out;omega,(hC k hk).2⟩)⟩
 case h0=>exact ⟨_,fun k=>Iff.rfl,BX.out,World.ownsRow_nil _ _ _ _,B2.out,Nat.le_refl _⟩
 case hM=>rintro s e a' O A A' C ⟨q,v,h⟩ hc hC;exact ⟨q,v,h.chg hc (fun k hk=>⟨by have:=(hC k hk).1;have:=HS2.out;omega,(hC k hk).2⟩)⟩
 case assign=>
  intro l' pre e rest O W K hx hi' hK;obtain ⟨id,f⟩:=e;dsimp only [encK2];obtain ⟨ag,hag⟩:∃ag,ag=(encP f).toArray:=⟨_,rfl⟩;have HK:=Hd (show ∀O2 W2,(∃v,BoxRow w W2 w.heap.size 30 9 1 pre.length v (pre.flatMap encT1) O2)→Chg O W W2→(∀k,O2 k→O k∨W.heap.size≤k)→K {tmps:=#[.pointer (some ⟨x,0,none⟩),undef,.slice none 0 0,.pointer (some ⟨w.heap.size,0,none⟩),.string id,.pointer (some ⟨x,0,none⟩),.func (.func 142) #[] #[.pointer (some ⟨w.heap.size+1,0,none⟩)],.string id,.agg ag,undef,undef,undef,undef,undef],defers:=[]} W2 from fun O2 W2 h1 h2 h3=>hK _ O2 W2 ⟨by rw [hag],h1⟩ h2 h3);rw [←hag];clear hK hag;gi_wp2
  exact HK.out O W hi' (Chg.refl _ _) (fun k h=>.inl h)
 case body=>
  rintro l' pre e rest a' O W hx ⟨rfl,v,hbr⟩;have BR:=Hd hbr;have hcell:=hbr.box.cell;have hpl:pre.length≤1000:=by
   have h2:pre.length≤(pairS S).length:=by rw [hx];simp
   have:=HPL.out;omega
  obtain ⟨id,f⟩:=e;have E1:=Hd (encT1_one (id,f));have C1:=Hd (show ∀j u,(encT1 (id,f))[j]?=some u→(W.alloc (.cells #[.string id] 9)).cell? ((⟨W.heap.size,0,none⟩:Addr).add j)=some u from cells_at W [.string id] 9 W.heap.size rfl);obtain ⟨ag,hag⟩:∃ag,ag=(encP f).toArray:=⟨_,rfl⟩;obtain ⟨ee,hee⟩:∃ee:ByteArray×PF,ee=(id,f):=⟨_,rfl⟩;have HEE:=Hd hee;rw [←hee] at E1 C1;simp only;rw [←hag];clear hbr hx hag hee;gi_wp2_with (first
   | (gi_at_builtin;refine wpListIn_append_own_at _ rfl _ _ 30 rfl w.heap.size 9 i0 (.string (ByteArray.mk #[])) 1 16 Tryz.underlying30 hi hz0 hz1 hz2 rfl (by decide) _ _ _ rfl (BR.out.row.alloc _) ⟨W.heap.size,0,none⟩ 1 1 (encT1 ee) rfl rfl C1.out E1.out (by unfold maxLen;omega) (by omega) (by have:=BR.out.bel.size;simp;omega) ?_;intro v' w1 own gr hnil hloc;obtain ⟨g',cap',rfl⟩:=ownsRow_succ own;obtain ⟨hv1,hap⟩:=BR.out.appended (by decide) own gr hloc;have AP:=Hd hap;have hc1:=hv1.cell;have hf1:=hv1.frozen;clear own gr hnil hloc hap hv1)
   | gi_in)
  obtain ⟨O',h1,h2,h3⟩:=AP.out;exact ⟨O',⟨_,by rw [←HEE.out,flat_snoc,List.length_append];exact h1⟩,h2,h3⟩
 case done=>
  rintro D O W hD hnD ⟨v,hbr⟩ hK;have hcell:=hbr.box.cell;have BR:=Hd hbr;have hrow:=hbr.row;rw [HPE.out,HPL.out] at hrow;obtain ⟨ao,cap,rfl⟩:∃ao cap,v = .slice ao S.length cap:=by
   rcases hrow.2 with ⟨q,hz⟩ | ⟨g,cap,cur,q,_⟩
   ·exact ⟨none,0,by rw [q,hz]⟩
   exact ⟨_,_,q⟩
  have HROW:=Hd hrow;clear hbr hrow;gi_wp2
  refine ⟨by simp,.inl ⟨_,_,rfl,run_takeDeferred hK,?_⟩⟩;have hB:=BR.out.chg (Chg.put W D (.deferred none) (C:=fun k=>k=D) rfl) (fun k hk=>by subst hk;exact ⟨by have:=HS2.out;omega,hnD⟩);have hr2:=hB.row;rw [HPE.out,HPL.out] at hr2;exact ⟨_,results_tmp rfl _ _ _,.slice ao S.length cap,rfl,hr2,hB.bel⟩
end Fk
end
section
namespace Fk
open Go.RowKit
def partS (S:List (ByteArray×PF)) (ids:List ByteArray):List (ByteArray×PF):=ids.foldl (fun T id=>putA id (lookF S id) T) []
theorem partS_snoc (S:List (ByteArray×PF)) (ids:List ByteArray) (id:ByteArray):partS S (ids ++ [id])=putA id (lookF S id) (partS S ids):=by unfold partS;rw [List.foldl_append];rfl
theorem part_any {w:World} {x M:Nat} {S:List (ByteArray×PF)} (hS:SetAt w x M S) (ids:List ByteArray) (ao:Option Addr) (ln cap:Nat) (hl:ids.length=ln) (hln:ln≤1000) (hrow:RowK 1 encT w ao ids) (hall:∀id∈ids,(getA id S).isSome=true) :
  Calls Tryz.prog 42 #[.pointer (some ⟨x,0,none⟩),.slice ao ln cap] w fun e w'=>∃x' M',e = .returned (.tuple #[.pointer (some ⟨x',0,none⟩),.bool true])∧SetAt w' x' M' (partS S ids)∧Below w.heap.size w w':=by
 have HS:=Hd hS;have HL:=Hd hl;have HR:=Hd hrow;have HA:=Hd hall;have NW:=Hd (new_set w);clear hS hl hrow hall;go_enter Tryz.func42,Tryz.ntmps42
 go_upto_region 5 with (go_at_call 39;(with_reducible refine NW.out.mono ?_);rintro e w1 ⟨x',M',rfl,hs1,hb1,hx1,hm1⟩;have S1:=Hd hs1;have B1:=Hd hb1;have HX1:=Hd hx1;have HM1:=Hd hm1;clear hs1 hb1 hx1 hm1)
 go_loopg [16] ln (fun gh v16 wr=>∃(j:Nat),v16 = .int .i64 j∧j≤ln∧ln - j≤gh∧Hid (SetAt wr x' M' (partS S (ids.take j))∧Below w.heap.size w wr))
 case atStart=>exact ⟨0,rfl,by omega,by omega,Hd ⟨S1.out,B1.out⟩⟩
 case round=>
  obtain ⟨j,rfl,hj,hg,HI⟩:=hrel;by_cases hlt:j<ln
  ·have jl:(j:Int)<(ln:Int):=by omega
   have j0:(0:Int)≤(j:Int):=by omega
   have hjl:j<ids.length:=by rw [HL.out];exact hlt
   obtain ⟨b,off,rfl,hbl,hce⟩:=(HR.out.later HI.out.2).str hjl;have HW:=Hd (HS.out.later HI.out.2);have cx:=HW.out.cell;have lk:=HW.out.look ids[j];have hsm:=HA.out ids[j] (List.getElem_mem hjl);rw [hsm] at lk;have HSN:=Hd (show partS S (ids.take (j+1))=putA ids[j] (lookF S ids[j]) (partS S (ids.take j)) from by rw [List.take_succ_eq_append_getElem hjl,partS_snoc]);obtain ⟨id,hid⟩:∃id,ids[j]=id:=⟨_,rfl⟩;rw [hid] at hce lk HSN;obtain ⟨g,hg2⟩:∃g,g=lookF S id:=⟨_,rfl⟩;rw [←hg2] at lk HSN;have ST:=Hd (put38_run wr g);have B3:=Hd (HI.out.2.trans ((put38_below wr g).mono HI.out.2.size));have S3:=Hd (HI.out.1.later (put38_below wr g));have F3:=Hd (put38_at wr g);have HNE:=Hd (show wr.heap.size≠M' from by have:=HI.out.1.map.lt;omega);obtain ⟨gg,hgg⟩:∃gg,gg=(encP g).toArray:=⟨_,rfl⟩;have HGG:=Hd hgg;rw [←hgg] at lk ST;clear hsm hid hg2 hgg hbl;go_upto_region 10 with ((with_reducible refine wpList_storeL ?_ ?_ ST.out ?_);(focus rfl);(focus rfl))
   obtain ⟨w3,hw3⟩:∃w3,w3=put38 wr g:=⟨_,rfl⟩;obtain ⟨bx,hbx⟩:∃bx,bx=wr.heap.size:=⟨_,rfl⟩;rw [←hw3] at B3 S3 F3 ⊢;rw [←hbx] at F3 HNE ⊢;clear hw3 hbx lk cx ST hce;have H4:=Hd (S3.out.later (Below.refl _ w3).drew);have F4:=Hd (F3.out.later (Below.refl _ w3).drew);obtain ⟨ob,hupd,hmap⟩:=H4.out.map.update keyS Tryz.underlying141 (goodFt _ _) ⟨id,rfl⟩ (.agg gg);have FIN:=Hd (show SetAt (w3.drew.putObj M' ob) x' M' (partS S (ids.take (j+1)))∧Below w.heap.size w (w3.drew.putObj M' ob)∧FacAt (w3.drew.putObj M' ob) bx g from by
    refine ⟨⟨(World.putObj_heap_other H4.out.ne).trans H4.out.ptr,?_,H4.out.ne⟩,(B3.out.drew).trans (Chg.below (Chg.put _ M' ob (C:=fun k=>k=M') rfl) B3.out.drew.size (fun k hk=>by subst hk;exact HM1.out)),(World.putObj_heap_other HNE.out).trans F4.out⟩;have:=hmap _ (World.putObj_heap_same H4.out.map.lt);rw [HGG.out,putFt,←HSN.out] at this;exact this)
   have LD5:=Hd (ld38 (ft_blk FIN.out.2.2));rw [←HGG.out] at LD5;have LD4:=Hd (ld38 (ft_blk F4.out));rw [←HGG.out] at LD4;clear hmap;refine wp_region_held_drew (S:=fun W2=>W2.cell? ⟨x',0,none⟩=some (.map (some M'))∧(Instr.loadAt 71 (.pointer (some ⟨bx,0,none⟩))).run Tryz.prog W2 = .ok (.agg gg) W2) (by kernel_rfl) ⟨H4.out.cell,LD4.out⟩ (fun hHeld=>?_);refine hyw (i:=0) hHeld ?_;try simp only [Act.put,zz]
   refine hyw (i:=1) hHeld ?_;try simp only [Act.put,zz]
   refine hyw (i:=2) hHeld ?_;try simp only [Act.put,zz]
   refine hyw (i:=3) hHeld ?_;try simp only [Act.put,zz]
   refine hyw (i:=4) hHeld ?_;try simp only [Act.put,zz]
   refine hyl (i:=5) hHeld (fun w hw=>hw.2) ?_;try simp only [Act.put,zz]
   refine wpAnyH_ready (rs:=[6]) (by kernel_rfl) (by simp) ?_;refine AllReadyH.cons (o:=_) rfl (fun K hK=>?_) AllReadyH.nil;go_simp;clear hHeld;go_wp2_with fail
   refine hK.out _ _ (⟨FIN.out.1.cell,LD5.out⟩) (fun hHeld=>?_);clear hK K;try simp only [Act.put,zz]
   refine wpAnyH_done (by kernel_rfl) ?_ _;go_wp2_with fail
   go_roundg (ln - (j+1))
   case measure=>omega
   case rel=>exact ⟨j+1,by go_num,by omega,by omega,Hd ⟨FIN.out.1,FIN.out.2.1⟩⟩
  have jl:¬(j:Int)<(ln:Int):=by omega
  have HF:=Hd (show SetAt wr x' M' (partS S ids) from by have:=HI.out.1;rw [List.take_of_length_le (by rw [HL.out];omega)] at this;exact this);go_wp2_with fail
  go_ret2
  exact ⟨x',rfl,⟨M',HF.out⟩,HI.out.2⟩
end Fk
end
section
namespace Fk
open Go.RowKit Go.Sort Go.Lib
theorem idsS_mem (S:List (ByteArray×PF)) (x:ByteArray):x∈idsS S↔x∈S.map (·.1):=sortK_mem _ _
theorem sroot_any {w:World} {x M:Nat} {S:List (ByteArray×PF)} (hS:SetAt w x M S) (hn:S.length≤1000) (hz:∀e∈S,e.1.size≤1000) (hG:Glob w) :
  Calls Tryz.prog 43 #[.pointer (some ⟨x,0,none⟩)] w fun e w'=>e = .returned (.string (rootF (idsS S)))∧Below w.heap.size w w':=by
 have H:=Hd (ids_any hS hn);have HN:=Hd hn;have HG:=Hd hG;have HZ:=Hd (show ∀s∈idsS S,s.size≤1000 from fun s hs=>by
  obtain ⟨e,he,rfl⟩:=List.mem_map.1 ((idsS_mem S s).1 hs);exact hz e he)
 clear hS hn hz hG;go_enter Tryz.func43,Tryz.ntmps43
 go_wp2_with (first
  | (go_at_call 41;(with_reducible refine H.out.mono ?_);rintro e w2 ⟨v,rfl,hr,h2⟩;have B2:=Hd h2;have hr2:w2.ownsRow w.heap.size 9 1 v (idsS S).length ((idsS S).flatMap encT):=(by rw [idsS_len];exact hr);obtain ⟨ao,cap,rfl,_,hrk⟩:=rowK_of_owns encT_len (by decide) hr2;have RK:=Hd hrk;clear hr hr2 hrk h2)
  | (go_at_call 87;(with_reducible refine (root_any (idsS S) _ _ _ _ rfl (by rw [idsS_len];exact HN.out) RK.out HZ.out (glob_below HG.out B2.out)).mono ?_);rintro e w3 ⟨rfl,h3⟩;have B3:=Hd (B2.out.trans (h3.mono B2.out.size));clear h3))
 go_ret;exact ⟨rfl,B3.out⟩
end Fk
end
end Go.Proofs.YtifcdjmcoibblaaGreatDoor
