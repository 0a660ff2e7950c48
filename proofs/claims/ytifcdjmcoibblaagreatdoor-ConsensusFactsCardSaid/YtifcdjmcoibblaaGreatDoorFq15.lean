/- Fad Fal Fbw -/
import Derived.Test.YtifcdjmcoibblaaGreatDoorFq14
import Derived.Test.YtifcdjmcoibblaaGreatDoorFq06
import Derived.Test.YtifcdjmcoibblaaGreatDoorFq04
import Derived.Test.YtifcdjmcoibblaaGreatDoorFq01
import Derived.Test.YtifcdjmcoibblaaGreatDoorFq12
set_option linter.unusedVariables false
set_option linter.unusedSimpArgs false
set_option linter.unusedSectionVars false
set_option maxRecDepth 100000
set_option maxHeartbeats 80000000
namespace Go.Proofs.YtifcdjmcoibblaaGreatDoor
section
namespace Fk
open Go.RowKit
section
variable {P:Program} {md:Region.Mode} {ops:Array Oper} {Q:Exit→Act→World→Prop} {S:World→Prop}
theorem hyl {i fuel:Nat} {oi:Oper} {T:TypeId} {x:Operand} {p v:Value} {listed:Array Bool} {a:Act} {w:World} (hS:S w) (hrun:∀w,S w→(Instr.loadAt T p).run P w = .ok v w) (h:wpAnyH P md ops Q S fuel (listed.setIfInBounds i true) (a.put oi.dst v) w) (hi:ops[i]?=some oi:=by rfl) (hop:oi.op = .load T x:=by rfl) (hx:a.eval x=p:=by rfl)
  (hs:Region.noSelect ops=true:=by kernel_rfl) (hf:Region.free md ops listed i=true:=by kernel_rfl) (hr:(Region.ready md ops listed).contains i=true:=by kernel_rfl)
  (hQ:∀c a w,Q (.panic c) (a.put oi.dst v) w→Q (.panic c) a w:=by exact fun _ _ _ h=>h) (hw:Region.wanted oi (yielded ops a.tmps)=true:=by kernel_rfl):wpAnyH P md ops Q S (fuel+1) listed a w:=
 wpAnyH_take hi hs hf hr hQ (.inl ⟨hw,fun w hw=>by simp [execOp,hop,hx,hrun w hw,Result.andThen]⟩) hS h
end
def f0:PF:=⟨fun _=>0,⟨#[]⟩⟩
theorem zF (w:World):(zeroValue 71).run Tryz.prog w = .ok (.agg (encP f0).toArray) w:=by kernel_rfl
theorem getFt (k:ByteArray) (S:List (ByteArray×PF)):getV (.string k) (S.map encFt)=(getA k S).map (fun f=>Value.agg (encP f).toArray):=
 getV_enc (e:=encFt) (ek:=Value.string) (ev:=fun _ f=>.agg (encP f).toArray) (fun p=>rfl) (fun a b h=>by injection h) k S
theorem putFt (k:ByteArray) (f:PF) (S:List (ByteArray×PF)):putV (.string k) (.agg (encP f).toArray) (S.map encFt)=(putA k f S).map encFt:=
 putV_enc (e:=encFt) (ek:=Value.string) (ev:=fun _ f=>.agg (encP f).toArray) (fun p=>rfl) (fun a b h=>by injection h) k f S
theorem goodFt (w:World) (S:List (ByteArray×PF)):KeysGood goodS w (S.map encFt):=fun p hp=>by
 obtain ⟨e,_,rfl⟩:=List.mem_map.1 hp;exact ⟨e.1,rfl⟩
def lookF (S:List (ByteArray×PF)) (k:ByteArray):PF:=(getA k S).getD f0
theorem SetAt.look {W:World} {x M:Nat} {S:List (ByteArray×PF)} (h:SetAt W x M S) (k:ByteArray) :
  (Instr.lookup 141 (.map (some M)) (.string k) true).run Tryz.prog W = .ok (.tuple #[.agg (encP (lookF S k)).toArray,.bool (getA k S).isSome]) W:=by
 rw [h.map.lookup keyS Tryz.underlying141 (goodFt W S) ⟨k,rfl⟩ (zF W) true,getFt];unfold lookF;rcases getA k S with _ | f <;> rfl
theorem SetAt.cell {W:World} {x M:Nat} {S:List (ByteArray×PF)} (h:SetAt W x M S):W.cell? ⟨x,0,none⟩=some (.map (some M)):=cell_blk h.ptr rfl
noncomputable def addS (S:List (ByteArray×PF)) (f:PF):List (ByteArray×PF):=match idF f with
 | none=>S
 | some id=>match getA id S with
  | some _=>S
  | none=>putA id f S
def AddE (x M:Nat) (S S':List (ByteArray×PF)) (W:World) (e:Ending) (w':World):Prop:=(∃v,e = .returned v)∧SetAt w' x M S'∧Chg (fun k=>k=M) W w'∧(S'=S→Below W.heap.size W w')
theorem add_any {W:World} {x M:Nat} {S:List (ByteArray×PF)} (h:SetAt W x M S) (hl:S.length≤3000) (f:PF) (hG:Glob W) :
  Calls Tryz.prog 40 #[.pointer (some ⟨x,0,none⟩),.agg (encP f).toArray] W (AddE x M S (addS S f) W):=by
 have H:=Hd h;have F0:=Hd (FacAt.new W f);have B0:=Hd ((Below.refl W.heap.size W).alloc (Nat.le_refl _) (.cells (encP f).toArray 71));have IDA:=Hd (show ∀w,Glob w→Calls Tryz.prog 85 #[.agg (encP f).toArray] w (IdE (idF f) w) from fun w hg=>id_any f w hg);have HG:=Hd hG;have HS:=Hd hl;obtain ⟨S',hS'⟩:∃S',S'=addS S f:=⟨_,rfl⟩;have HADD:=Hd hS';rw [←hS'];clear h hG hl hS';go_enter Tryz.func40,Tryz.ntmps40
 go_upto_region 1 with ((with_reducible refine wpList_boxL ?_ (box_agg _ _ _) ?_);focus rfl)
 obtain ⟨wa,hwa⟩:∃wa,wa=W.alloc (.cells (encP f).toArray 71):=⟨_,rfl⟩;obtain ⟨bx,hbx⟩:∃bx,bx=W.heap.size:=⟨_,rfl⟩;have HBX:=Hd hbx;rw [←hwa] at F0 B0 ⊢;rw [←HBX.out] at F0 ⊢;clear hwa hbx;have LD:=Hd (ld38 (ft_blk F0.out));obtain ⟨ag,hag⟩:∃ag,ag=(encP f).toArray:=⟨_,rfl⟩;rw [←hag] at LD IDA;have HAG:=Hd hag;clear hag;rcases hid:idF f with _ | id
 ·rw [hid] at IDA;have HR:=Hd (show S'=S from by rw [HADD.out];unfold addS;rw [hid]);have ID2:=Hd (show ∀w,Glob w→Calls Tryz.prog 85 #[.agg ag] w (fun e w'=>e = .returned (.tuple #[.string ⟨#[]⟩,.int .i64 50])∧Below w.heap.size w w') from IDA.out);clear hid IDA;go_wp2_with (first
   | ((with_reducible refine wpList_loadL ?_ LD.out ?_);focus rfl)
   | (go_at_call 85;(with_reducible refine (ID2.out _ (glob_below HG.out B0.out)).mono ?_);rintro e w2 ⟨rfl,h2⟩;have B2:=Hd (B0.out.trans (h2.mono B0.out.size));clear h2))
  go_ret2
  exact ⟨⟨_,rfl⟩,by rw [HR.out];exact H.out.later B2.out,Chg.of_below B2.out (fun k h1 h2=>by omega),fun _=>B2.out⟩
 rw [hid] at IDA;have ID2:=Hd (show ∀w,Glob w→Calls Tryz.prog 85 #[.agg ag] w (fun e w'=>e = .returned (.tuple #[.string id,.int .i64 0])∧Below w.heap.size w w') from IDA.out);have HID:=Hd hid;clear hid IDA;go_upto_region 6 with (first
  | ((with_reducible refine wpList_loadL ?_ LD.out ?_);focus rfl)
  | (go_at_call 85;(with_reducible refine (ID2.out _ (glob_below HG.out B0.out)).mono ?_);rintro e w2 ⟨rfl,h2⟩;have B2:=Hd (B0.out.trans (h2.mono B0.out.size));have F2:=Hd (F0.out.later h2);clear h2))
 have H2:=Hd (H.out.later B2.out);have cx:=H2.out.cell;have lk:=H2.out.look id;obtain ⟨g,hg⟩:∃g,g=lookF S id:=⟨_,rfl⟩;rw [←hg] at lk;clear hg;have ST:=Hd (put38_run w2 g);obtain ⟨gg,hgg⟩:∃gg,gg=(encP g).toArray:=⟨_,rfl⟩;rw [←hgg] at lk ST;clear hgg;have B3:=Hd (B2.out.trans ((put38_below w2 g).mono B2.out.size));have H3:=Hd (H.out.later B3.out);have F3:=Hd (F2.out.later (put38_below w2 g));rcases hgk:getA id S with _ | f1
 ·have HR:=Hd (show S'=putA id f S from by rw [HADD.out];unfold addS;rw [HID.out];simp only [hgk]);have HNS:=Hd (show S'≠S from fun q=>by
   rw [HR.out,putA_new hgk] at q;have:=congrArg List.length q;simp at this)
  rw [hgk] at lk;clear hgk;go_upto_region 9 with ((with_reducible refine wpList_storeL ?_ ?_ ST.out ?_);(focus rfl);(focus rfl))
  obtain ⟨w3,hw3⟩:∃w3,w3=put38 w2 g:=⟨_,rfl⟩;rw [←hw3] at B3 H3 F3;rw [←hw3];clear hw3 lk cx ST;have cx:=H3.out.cell;have len3:=H3.out.map.len Tryz.underlying141 3;rw [List.length_map] at len3;have LD3:=Hd (ld38 (ft_blk F3.out));rw [←HAG.out] at LD3;have s4:(S.length:Int)<4000:=by have:=HS.out;omega
  go_upto_region 11 with (fail)
  have H4:=Hd (H3.out.later (Below.refl _ w3).drew);have hbx:bx≠M:=by rw [HBX.out];have:=H.out.map.lt;omega
  have F4:=Hd (F3.out.later (Below.refl _ w3).drew);obtain ⟨ob,hupd,hmap⟩:=H4.out.map.update keyS Tryz.underlying141 (goodFt _ S) ⟨id,rfl⟩ (.agg ag);have FIN:=Hd (show SetAt (w3.drew.putObj M ob) x M (putA id f S)∧Chg (fun k=>k=M) W (w3.drew.putObj M ob)∧FacAt (w3.drew.putObj M ob) bx f from by
   refine ⟨⟨(World.putObj_heap_other H4.out.ne).trans H4.out.ptr,?_,H4.out.ne⟩,(Chg.of_below (B3.out.trans ((Below.refl _ w3).drew.mono B3.out.size)) (fun k h1 h2=>by omega)).trans ((Chg.put _ M ob (C:=fun k=>k=M) rfl).mono (fun k _ hk=>.inl hk)),(World.putObj_heap_other hbx).trans F4.out⟩;have:=hmap _ (World.putObj_heap_same H4.out.map.lt);rw [HAG.out,putFt] at this;exact this)
  have LD5:=Hd (ld38 (ft_blk FIN.out.2.2));rw [←HAG.out] at LD5;have LD4:=Hd (ld38 (ft_blk F4.out));rw [←HAG.out] at LD4;clear hmap hbx;refine wp_region_held_drew (S:=fun W2=>W2.cell? ⟨x,0,none⟩=some (.map (some M))∧(Instr.loadAt 71 (.pointer (some ⟨bx,0,none⟩))).run Tryz.prog W2 = .ok (.agg ag) W2) (by kernel_rfl) ⟨H4.out.cell,LD4.out⟩ (fun hHeld=>?_);refine hyw (i:=0) hHeld ?_;try simp only [Act.put,zz]
  refine hyw (i:=1) hHeld ?_;try simp only [Act.put,zz]
  refine hyw (i:=2) hHeld ?_;try simp only [Act.put,zz]
  refine hyw (i:=3) hHeld ?_;try simp only [Act.put,zz]
  refine hyw (i:=4) hHeld ?_;try simp only [Act.put,zz]
  refine hyl (i:=5) hHeld (fun w hw=>hw.2) ?_;try simp only [Act.put,zz]
  refine wpAnyH_ready (rs:=[6]) (by kernel_rfl) (by simp) ?_;refine AllReadyH.cons (o:=_) rfl (fun K hK=>?_) AllReadyH.nil;go_simp;clear hHeld;go_wp2_with fail
  refine hK.out _ _ (⟨FIN.out.1.cell,LD5.out⟩) (fun hHeld=>?_);clear hK K;try simp only [Act.put,zz]
  refine wpAnyH_done (by kernel_rfl) ?_ _;go_wp2_with fail
  go_ret2
  exact ⟨⟨_,rfl⟩,by rw [HR.out];exact FIN.out.1,FIN.out.2.1,fun q=>absurd q HNS.out⟩
 have HR:=Hd (show S'=S from by rw [HADD.out];unfold addS;rw [HID.out];simp only [hgk]);rw [hgk] at lk;clear hgk;go_wp2_with ((with_reducible refine wpList_storeL ?_ ?_ ST.out ?_);(focus rfl);(focus rfl))
 go_ret2
 exact ⟨⟨_,rfl⟩,by rw [HR.out];exact H3.out,Chg.of_below B3.out (fun k h1 h2=>by omega),fun _=>B3.out⟩
end Fk
end
section
namespace Fk
open Go.RowKit Go.Sort Go.Lib
attribute [local go_sem] Oper.semAt_some
def encK2 (e:ByteArray×PF):Array Value:=#[.string e.1,.agg (encP e.2).toArray]
def idsS (S:List (ByteArray×PF)):List ByteArray:=sortK (S.map (·.1))
theorem idsS_len (S:List (ByteArray×PF)):(idsS S).length=S.length:=by unfold idsS;rw [sortK_len,List.length_map]
def pairS (S:List (ByteArray×PF)):List (ByteArray×PF):=(idsS S).map fun k=>(k,lookF S k)
theorem SetAt.look1 {W:World} {x M:Nat} {S:List (ByteArray×PF)} (h:SetAt W x M S) (k:ByteArray) :
  (Instr.lookup 141 (.map (some M)) (.string k) false).run Tryz.prog W = .ok (.agg (encP (lookF S k)).toArray) W:=by
 rw [h.map.lookup keyS Tryz.underlying141 (goodFt W S) ⟨k,rfl⟩ (zF W) false,getFt];unfold lookF;rcases getA k S with _ | f <;> rfl
theorem SetAt.chg {C:Nat→Prop} {W W':World} {x M:Nat} {S:List (ByteArray×PF)} (h:SetAt W x M S) (hc:Chg C W W') (h1:¬C x) (h2:¬C M):SetAt W' x M S:=h.kept (hc.block _ h.lx h1) (hc.block _ h.map.lt h2)
theorem rowT_chg {w w':World} {ao:Option Addr} {xs:List ByteArray} {C:Nat→Prop} (h:RowK 1 encT w ao xs) (hc:Chg C w w') (hn:∀a,ao=some a→¬C a.block):RowK 1 encT w' ao xs:=fun i x hx=>by
 obtain ⟨b,off,e,h1,h2⟩:=h i x hx;exact ⟨b,off,e,Nat.lt_of_lt_of_le h1 hc.size,fun j v hv=>hc.cell (h2 j v hv) (show ¬C b from hn ⟨b,off,none⟩ e)⟩
theorem all_any (x:Nat) (w:World):Calls Tryz.prog 86 #[.pointer (some ⟨x,0,none⟩)] w fun e w'=>e = .returned (.func (.func 142) #[] #[.pointer (some ⟨w.heap.size,0,none⟩)])∧w'=w.alloc (.cells #[.pointer (some ⟨x,0,none⟩)] 68):=by
 go_enter Tryz.func86,Tryz.ntmps86
 go_wp2
 go_ret;exact ⟨rfl,rfl⟩
structure AllI (wr:World) (x M bx:Nat) (S:List (ByteArray×PF)) (ao:Option Addr) (B:Nat) (J:List (ByteArray×PF)→(Nat→Prop)→World→Prop) (k:Nat) (O1:Nat→Prop):Prop where
 inv:J ((pairS S).take k) O1 wr
 set:SetAt wr x M S
 box:wr.cell? ⟨bx,0,none⟩=some (.pointer (some ⟨x,0,none⟩))
 row:RowK 1 encT wr ao (idsS S)
 nx:¬O1 x
 nM:¬O1 M
 nb:¬O1 bx
 nr:∀a,ao=some a→¬O1 a.block∧a.block<wr.heap.size
theorem all_seq (n bx x M:Nat) (S:List (ByteArray×PF)) (w:World) (hn:S.length≤1000) (h:SetAt w x M S) (hb:w.cell? ⟨bx,0,none⟩=some (.pointer (some ⟨x,0,none⟩))) :
  SeqAll n Tryz.prog 142 #[.pointer (some ⟨bx,0,none⟩)] encK2 (fun k=>k=x∨k=M∨k=bx) (pairS S) w:=by
 intro lp J O W hW hO hJ hY h0;have hbc:W.cell? ⟨bx,0,none⟩=some (.pointer (some ⟨x,0,none⟩)):=by rw [hW.cell (p:=⟨bx,0,none⟩) (World.block_lt_of_cell? _ _ hb)];exact hb
 have HSA:=Hd (h.later hW);have hcx:=HSA.out.cell;have HY:=Hd hY;have HJ:=Hd hJ;have H0:=Hd h0;have HOX:=Hd (show (¬O x∧¬O M∧¬O bx)∧∀k,w.heap.size≤k→¬O k from ⟨⟨fun q=>(hO _ q).2 (.inl rfl),fun q=>(hO _ q).2 (.inr (.inl rfl)),fun q=>(hO _ q).2 (.inr (.inr rfl))⟩,fun k hk q=>by have:=(hO _ q).1;omega⟩);have HWS:=Hd hW.size;have HBL:=Hd (World.block_lt_of_cell? _ _ hb);have SK:=Hd (fun m=>skeys_any m W.heap.size M S (W.alloc (.cells #[.map (some M)] 141)) hn (HSA.out.map.kept (Below.heap_alloc _ _ _ HSA.out.map.lt)) (cell_box W _ _ _ _ rfl _ rfl));clear hY hJ h0 hO hW hb h;refine callsIn_of_wp Tryz.func142 rfl trivial ?_ rfl;simp only [Tryz.ntmps142,List.size_toArray,List.length_cons,List.length_nil,Nat.reduceAdd,Nat.reduceSub,Array.replicate_succ,Array.replicate_zero,List.push_toArray,List.append_toArray,List.nil_append,List.cons_append];gi_wp2
 refine wide_call (qkeys_any M W) ?_;rintro e w2 ⟨rfl,rfl⟩;gi_wp2
 refine ⟨trivial,fun h=>absurd h (by simp [Fence.wide]),(SK.out _).mono ?_⟩;rintro e w3 ⟨v,rfl,hrow,hbl⟩;have hlen:S.length=(idsS S).length:=(idsS_len S).symm;have hrow2:w3.ownsRow (W.alloc (.cells #[.map (some M)] 141)).heap.size 9 1 v (idsS S).length ((idsS S).flatMap encT):=by rw [←hlen];exact hrow
 obtain ⟨ao,cap,hv,_,hrk⟩:=rowK_of_owns encT_len (by decide) hrow2;rw [←hlen] at hv;have HB3:=Hd (show Below W.heap.size W w3 from ((Below.refl _ W).alloc (Nat.le_refl _) _).trans (hbl.mono (by simp)));have HNR:=Hd (show ∀a,ao=some a→¬O a.block∧a.block<w3.heap.size from fun a e=>by
  subst hv;have hob:(Value.slice ao S.length cap).ownBlock=some a.block:=by rw [e];rfl
  have:=owns_ltK hrow a.block hob;exact ⟨HOX.out.2 _ (by have h1:=this.1;rw [World.size_alloc] at h1;have:=HWS.out;omega),this.2⟩)
 subst hv;have ST:=Hd (show AllI w3 x M bx S ao 0 J 0 O from ⟨HJ.out _ _ _ _ (fun _=>False) H0.out (Chg.of_below HB3.out (fun k h1 h2=>by omega)) (fun k h=>h.elim),HSA.out.later HB3.out,by rw [HB3.out.cell (p:=⟨bx,0,none⟩) (Nat.lt_of_lt_of_le HBL.out HWS.out)];exact hbc,hrk,HOX.out.1.1,HOX.out.1.2.1,HOX.out.1.2.2,HNR.out⟩);obtain ⟨ln,hln⟩:∃ln,ln=S.length:=⟨_,rfl⟩;have HLN:=Hd (show (idsS S).length=ln from by rw [hln];exact idsS_len S);have hn9:ln≤1000:=by rw [hln];exact hn
 rw [←hln];clear hrow hbl hrow2 hrk HNR hlen hbc hcx SK hn hln;gi_wp2
 gi_loopw [14] (fun i wr=>∃(k:Nat) (O1:Nat→Prop),k≤ln∧i = .int .i64 k∧AllI wr x M bx S ao 0 J k O1) (fun i _=>ln - (intOf i).toNat)
 case atStart=>exact ⟨0,O,Nat.zero_le _,rfl,ST.out⟩
 case round=>
  clear ST;obtain ⟨k,O1,hk,rfl,hst⟩:=hrel;have HS:=Hd hst;clear hst;by_cases hlt:k<ln
  ·have hkl:k<(idsS S).length:=by rw [HLN.out];exact hlt
   obtain ⟨b0,off,rfl,hlb,hce⟩:=HS.out.row.str hkl;have hpl:k<(pairS S).length:=by unfold pairS;rw [List.length_map];exact hkl
   have hpx:(pairS S)[k]=((idsS S)[k],lookF S (idsS S)[k]):=List.getElem_map (f:=fun k=>(k,lookF S k)) (l:=idsS S) (i:=k);have hSp:=Hd (show pairS S=(pairS S).take k ++ ((idsS S)[k],lookF S (idsS S)[k]) :: (pairS S).drop (k+1) by rw [←hpx,←List.drop_eq_getElem_cons hpl,List.take_append_drop]);have hTk:=Hd (show (pairS S).take (k+1)=(pairS S).take k ++ [((idsS S)[k],lookF S (idsS S)[k])] from by rw [←hpx];exact List.take_succ_eq_append_getElem hpl);obtain ⟨fn,tmps,assign,body,hy,hR⟩:=HY.out _ _ _ _ _ hSp.out HS.out.inv;have HRD:=Hd hR;have k0:(0:Int)≤(k:Int):=by omega
   have k1:(k:Int)<(ln:Int):=by omega
   have lk:=HS.out.set.look1 (idsS S)[k];have cb:=HS.out.box;have cx:=HS.out.set.cell;obtain ⟨id,hid⟩:∃id,(idsS S)[k]=id:=⟨_,rfl⟩;rw [hid] at hce hy HRD hTk lk;dsimp only [encK2] at hy;obtain ⟨ag,hag⟩:∃ag,ag=(encP (lookF S id)).toArray:=⟨_,rfl⟩;rw [←hag] at lk hy;clear hR hid hag hpl hpx;gi_wp2
   refine ⟨fun h=>absurd h (by simp [Fence.wide]),HRD.out.mono ?_⟩;rintro e W3 ⟨rfl,O2,hj3,hc3,ho3⟩;have J3:=Hd (show AllI W3 x M bx S (some ⟨b0,off,none⟩) 0 J (k+1) O2 from by
    have kp:∀z,z<wr.heap.size→¬O1 z→¬O2 z:=fun z h1 h2 q=>by
     rcases ho3 _ q with q | q
     ·exact h2 q
     omega
    have hbx:=World.block_lt_of_cell? _ _ HS.out.box;exact ⟨by rw [hTk.out];exact hj3,HS.out.set.chg hc3 HS.out.nx HS.out.nM,(hc3.cell HS.out.box (show ¬O1 bx from HS.out.nb)),rowT_chg HS.out.row hc3 (fun a e=>(HS.out.nr a e).1),
     kp _ HS.out.set.lx HS.out.nx,kp _ HS.out.set.map.lt HS.out.nM,kp _ hbx HS.out.nb,fun a e=>⟨kp _ (HS.out.nr a e).2 (HS.out.nr a e).1,Nat.lt_of_lt_of_le (HS.out.nr a e).2 hc3.size⟩⟩)
   clear hj3 hc3 ho3;gi_wp2
   go_roundw
   case rel=>exact ⟨k+1,O2,by omega,by go_num,J3.out⟩
   case measure=>simp [intOf];omega
  have hkn:k=ln:=by omega
  have hj:=HS.out.inv;rw [hkn,←HLN.out,List.take_of_length_le (by unfold pairS;rw [List.length_map];exact Nat.le_refl _)] at hj;have HJ2:=Hd hj;clear hj hkn;gi_wp2
  go_end0
  exact ⟨⟨_,rfl⟩,O1,HJ2.out⟩
end Fk
end
section
namespace Fk
open Go.RowKit Go.Sort Go.Lib
attribute [local go_sem] Oper.semAt_some
def encB2 (e:Nat×ByteArray):Array Value:=#[.int .i64 (e.1:Int),.string e.2]
def backL (l:List ByteArray):List (Nat×ByteArray):=(l.zipIdx.map fun e=>(e.2,e.1)).reverse
theorem backL_len (l:List ByteArray):(backL l).length=l.length:=by unfold backL;simp
theorem backL_get (l:List ByteArray) (j:Nat) (hj:j<l.length) (k:Nat) (hk:k+j+1=l.length) (hkl:k<(backL l).length):(backL l)[k]=(j,l[j]):=by
 have h:(backL l)[k]?=some (j,l[j]):=by
  unfold backL;rw [List.getElem?_reverse (by simp;omega)];simp only [List.length_map,List.length_zipIdx,List.getElem?_map];rw [show l.length - 1 - k=j by omega,List.getElem?_zipIdx,List.getElem?_eq_getElem hj];simp
 rw [List.getElem?_eq_getElem hkl] at h;exact Option.some.inj h
theorem backL_snd (l:List ByteArray):(backL l).map (·.2)=l.reverse:=by
 unfold backL;rw [List.map_reverse,List.map_map];congr 1
 have:((fun x:Nat×ByteArray=>x.2) ∘ fun e:ByteArray×Nat=>(e.2,e.1))=Prod.fst:=rfl;rw [this,List.zipIdx_map_fst]
theorem back_any (ao:Option Addr) (ln cap:Nat) (w:World):Calls Tryz.prog 147 #[.slice ao ln cap] w fun e w'=>e = .returned (.func (.func 193) #[] #[.pointer (some ⟨w.heap.size,0,none⟩)])∧w'=w.alloc (.cells #[.slice ao ln cap] 30):=by
 go_enter Tryz.func147,Tryz.ntmps147
 go_wp2
 go_ret;exact ⟨rfl,rfl⟩
structure BwI (wr:World) (bx ln cap:Nat) (l:List ByteArray) (ao:Option Addr) (J:List (Nat×ByteArray)→(Nat→Prop)→World→Prop) (k:Nat) (O1:Nat→Prop):Prop where
 inv:J ((backL l).take k) O1 wr
 box:wr.cell? ⟨bx,0,none⟩=some (.slice ao ln cap)
 row:RowK 1 encT wr ao l
 nb:¬O1 bx
 nr:∀a,ao=some a→¬O1 a.block∧a.block<wr.heap.size
theorem back_seq (n bx ln cap:Nat) (l:List ByteArray) (ao:Option Addr) (w:World) (hln:l.length=ln) (hn:ln≤1000) (hrow:RowK 1 encT w ao l) (hab:∀a,ao=some a→a.block<w.heap.size) (hb:w.cell? ⟨bx,0,none⟩=some (.slice ao ln cap)) :
  SeqAll n Tryz.prog 193 #[.pointer (some ⟨bx,0,none⟩)] encB2 (fun k=>k=bx∨(Value.slice ao ln cap).ownBlock=some k) (backL l) w:=by
 intro lp J O W hW hO hJ hY h0;have hbc:W.cell? ⟨bx,0,none⟩=some (.slice ao ln cap):=by rw [hW.cell (p:=⟨bx,0,none⟩) (World.block_lt_of_cell? _ _ hb)];exact hb
 have HY:=Hd hY;have HJ:=Hd hJ;have ST:=Hd (show BwI W bx ln cap l ao J 0 O from ⟨h0,hbc,hrow.later hW,fun q=>(hO _ q).2 (.inl rfl),fun a e=>⟨fun q=>(hO _ q).2 (.inr (by rw [e];rfl)),Nat.lt_of_lt_of_le (hab a e) hW.size⟩⟩);have HLN:=Hd hln;have hw0:IntKind.i64.wrap ((ln:Int) - 1)=(ln:Int) - 1:=by rw [IntKind.wrap_i64];omega
 clear hY hJ h0 hO hW hb hrow hab hln;refine callsIn_of_wp Tryz.func193 rfl trivial ?_ rfl;simp only [Tryz.ntmps193,List.size_toArray,List.length_cons,List.length_nil,Nat.reduceAdd,Nat.reduceSub,Array.replicate_succ,Array.replicate_zero,List.push_toArray,List.append_toArray,List.nil_append,List.cons_append];gi_wp2
 gi_loopw [3] (fun i wr=>∃(j:Nat) (z:Int) (O1:Nat→Prop),i = .int .i64 z∧z=(j:Int) - 1∧j≤ln∧BwI wr bx ln cap l ao J (ln - j) O1) (fun i _=>(intOf i+1).toNat)
 case atStart=>exact ⟨ln,(ln:Int) - 1,O,by go_num,rfl,Nat.le_refl _,by rw [Nat.sub_self];exact ST.out⟩
 case round=>
  clear ST hbc;obtain ⟨j,z,O1,rfl,hz,hj,hst⟩:=hrel;have HS:=Hd hst;clear hst;by_cases hlt:0<j
  ·obtain ⟨k,rfl⟩:∃k,j=k+1:=⟨j - 1,by omega⟩;have hz2:z=(k:Int):=by omega
   subst hz2;clear hz;have hkl:k<l.length:=by rw [HLN.out];omega
   have hpl:ln - (k+1)<(backL l).length:=by rw [backL_len,HLN.out];omega
   obtain ⟨b0,off,rfl,hlb,hce⟩:=HS.out.row.str hkl;have hpx:=backL_get l k hkl (ln - (k+1)) (by rw [HLN.out];omega) hpl;have hSp:=Hd (show backL l=(backL l).take (ln - (k+1)) ++ (k,l[k]) :: (backL l).drop (ln - (k+1)+1) by rw [←hpx,←List.drop_eq_getElem_cons hpl,List.take_append_drop]);have hTk:=Hd (show (backL l).take (ln - k)=(backL l).take (ln - (k+1)) ++ [(k,l[k])] from by rw [←hpx,show ln - k=ln - (k+1)+1 by omega];exact List.take_succ_eq_append_getElem hpl);obtain ⟨fn,tmps,assign,body,hy,hR⟩:=HY.out _ _ _ _ _ hSp.out HS.out.inv;have HRD:=Hd hR;have k0:(0:Int)≤(k:Int):=by omega
   have k1:(k:Int)<(ln:Int):=by omega
   have wk:IntKind.i64.wrap ((k:Int) - 1)=(k:Int) - 1:=by rw [IntKind.wrap_i64];omega
   have cb:=HS.out.box;obtain ⟨id,hid⟩:∃id,l[k]=id:=⟨_,rfl⟩;rw [hid] at hce hy HRD hTk;dsimp only [encB2] at hy;clear hR hid hpl hpx;gi_wp2
   refine ⟨fun h=>absurd h (by simp [Fence.wide]),HRD.out.mono ?_⟩;rintro e W3 ⟨rfl,O2,hj3,hc3,ho3⟩;have J3:=Hd (show BwI W3 bx ln cap l (some ⟨b0,off,none⟩) J (ln - k) O2 from by
    have kp:∀z,z<wr.heap.size→¬O1 z→¬O2 z:=fun z h1 h2 q=>by
     rcases ho3 _ q with q | q
     ·exact h2 q
     omega
    have hbx:=World.block_lt_of_cell? _ _ HS.out.box;exact ⟨by rw [hTk.out];exact hj3,(hc3.cell HS.out.box (show ¬O1 bx from HS.out.nb)),rowT_chg HS.out.row hc3 (fun a e=>(HS.out.nr a e).1),
     kp _ hbx HS.out.nb,fun a e=>⟨kp _ (HS.out.nr a e).2 (HS.out.nr a e).1,Nat.lt_of_lt_of_le (HS.out.nr a e).2 hc3.size⟩⟩)
   clear hj3 hc3 ho3;gi_wp2
   go_roundw
   case rel=>exact ⟨k,(k:Int) - 1,O2,by go_num,rfl,by omega,J3.out⟩
   case measure=>simp [intOf] <;> omega
  have hj0:j=0:=by omega
  subst hj0;have hz2:z = -1:=by omega
  subst hz2;have hj2:=HS.out.inv;rw [Nat.sub_zero,←HLN.out,List.take_of_length_le (by rw [backL_len];exact Nat.le_refl _)] at hj2;have HJ2:=Hd hj2;clear hj2 hz;gi_wp2
  go_end0
  exact ⟨⟨_,rfl⟩,O1,HJ2.out⟩
end Fk
end
end Go.Proofs.YtifcdjmcoibblaaGreatDoor
