/- Ans R1 R2 -/
import Derived.Test.YtifcdjmcoibblaaGreatDoorFq33
import Derived.Test.YtifcdjmcoibblaaGreatDoorFq30
import Derived.Deep.RegionHeld3
import Derived.Test.YtifcdjmcoibblaaGreatDoorFq01
import Derived.Test.YtifcdjmcoibblaaGreatDoorFq29
import Derived.Test.YtifcdjmcoibblaaGreatDoorFq24
set_option linter.unusedVariables false
set_option linter.unusedSimpArgs false
set_option linter.unusedSectionVars false
set_option maxRecDepth 100000
set_option maxHeartbeats 80000000
namespace Go.Proofs.YtifcdjmcoibblaaGreatDoor
section
open Go.RowKit
structure AnsW (b:Nat) (w W:World) (xb x:Nat) (kv:Value) (keys:List Int):Prop where
 xb:W.heap[xb]?=some (.cells #[pv x] 25 (0,0))
 row:W.ownsRow b 3 1 kv keys.length (keys.map (Value.int .i64))
 bel:Below w.heap.size w W
theorem AnsW.kp {b:Nat} {w W W':World} {xb x:Nat} {kv:Value} {keys:List Int} (h:AnsW b w W xb x kv keys) (hk:Kp W W') (hb:Below w.heap.size w W'):AnsW b w W' xb x kv keys:=by
 refine ⟨hk.block _ _ h.xb (fun c f e=>by injection e with _ e _;exact absurd e (by decide)),owns_blk h.row (fun g cur hg hc=>?_),hb⟩;rw [hc];exact hk.block _ _ hc (fun c f e=>by injection e with _ e _;exact absurd e (by decide))
theorem AnsW.key {b:Nat} {w W:World} {xb x:Nat} {ao:Option Addr} {n cap:Nat} {keys:List Int} (h:AnsW b w W xb x (.slice ao n cap) keys) {k:Nat} (hk:k<keys.length):∃g,ao=some ⟨g,0,none⟩∧W.cell? ⟨g,k,none⟩=some (.int .i64 keys[k]):=by
 rcases h.row.2 with ⟨_,h0⟩ | ⟨g,c,cur,e,_⟩
 ·omega
 injection e with e1 e2 e3
 refine ⟨g,e1,?_⟩;have:=(h.row.cells (g:=g) (by rw [e1];rfl)) k (.int .i64 keys[k]) (by rw [List.getElem?_map,List.getElem?_eq_getElem hk];rfl);simp [Addr.add] at this;split at this
 ·rename_i e;subst e;exact this
 exact this
theorem insI_len (x:Int):∀l,(insI x l).length=l.length+1
 | []=>rfl
 | y :: l=>by
  unfold insI;split
  ·rfl
  rw [List.length_cons,insI_len x l];rfl
theorem sortI_len:∀l,(sortI l).length=l.length
 | []=>rfl
 | x :: l=>by
  show (insI x (sortI l)).length=_;rw [insI_len,sortI_len l];rfl
def ansAt (s:StB) (site:Int):List MsgB:=match getA site s.ques with
 | some q=>s.answer site q
 | none=>[]
theorem answers_at (s:StB):s.answers=(sortI (s.ques.map (·.1))).flatMap (ansAt s):=rfl
theorem ansAt_len {s:StB} (h:QuesI s.ques) (site:Int):(ansAt s site).length≤104:=by
 unfold ansAt;split
 ·rename_i q e
  have:=h.get e;unfold NS.answer;simp;omega
 exact Nat.zero_le _
theorem flat_len {s:StB} (h:QuesI s.ques):∀l:List Int,(l.flatMap (ansAt s)).length≤104 * l.length
 | []=>by simp
 | a :: l=>by
  have h1:=ansAt_len h a;have h2:=flat_len h l;rw [List.flatMap_cons,List.length_append,List.length_cons];omega
theorem look_dec2 {R:Nat→Prop} {w:World} {x:Nat} {p:Ptr} {s:StB} (h:NodeP R w x p s) (hdl:∀k v,getA k s.decs=some v→v.list.length≤1000) (k:Int) :
  ∃(vr:Int) (sl:Value),LRow R w sl (s.decList k)∧(s.decList k).length≤1000∧∀W,Below w.heap.size w W→(Instr.lookup 105 (.map (some p.decs)) (.int .i64 k) false).run Tryz.prog W = .ok (.agg #[.int .i64 vr,.string (s.decDig k),sl]) W:=by
 obtain ⟨L,h1,h2⟩:=h.maps.decs;have look:=fun W (hW:Below w.heap.size w W)=>(h1.kept (hW.block p.decs h1.lt)).lookup (P:=Tryz.prog) keyI Tryz.underlying105 (good_rel W h2) (x:=iv k) ⟨k,rfl⟩ (zVal W) false;rcases getV_rel k h2 with ⟨e1,e2⟩ | ⟨v,u,e1,e2,e3⟩
 ·refine ⟨0,.slice none 0 0,?_,?_,fun W hW=>?_⟩
  ·unfold NS.decList;rw [e2];exact LRow.nil _ _
  ·unfold NS.decList;rw [e2];exact Nat.zero_le _
  have:=look W hW;rw [e1] at this;unfold NS.decDig;rw [e2];exact this
 obtain ⟨sl,rfl,hrow⟩:=e3;refine ⟨u.round,sl,?_,?_,fun W hW=>?_⟩
 ·unfold NS.decList;rw [e2];exact hrow
 ·unfold NS.decList;rw [e2];exact hdl k _ e2
 have:=look W hW;rw [e1] at this;unfold NS.decDig;rw [e2];exact this
theorem key_ques {q:List (Int×(Int×Int))} {site:Int} (h:site∈sortI (q.map (·.1))):∃v,getA site q=some v:=by
 rcases e:getA site q with _ | v
 ·rw [getA_none] at e;exact absurd (mem_sortI h) e
 exact ⟨v,rfl⟩
theorem answers_any {R:Nat→Prop} {w:World} {x:Nat} {p:Ptr} {s:StB} (h:NodeP R w x p s) (hq:QuesI s.ques) (hn:1≤s.n) (hdl:∀k v,getA k s.decs=some v→v.list.length≤1000) :
  Calls Tryz.prog 64 #[pv x] w fun e w'=>∃v,e = .returned v∧OutR R w w' v s.answers∧NodeP R w' x p {s with ques:=[]}∧Chg R w w':=by
 have H:=Hd h;have HQ:=Hd hq;have HDL:=Hd hdl;obtain ⟨ks,hks⟩:∃ks,ks=sortI (s.ques.map (·.1)):=⟨_,rfl⟩;have hkl:ks.length=s.ques.length:=by rw [hks,sortI_len];simp
 have SRK:=Hd (fun W bx (hm:RawMap W p.ques (s.ques.map encSt)) (hb:W.cell? ⟨bx,0,none⟩=some (.map (some p.ques)))=>(callsIn_wide.1 (sorted_any 5 bx p.ques s.ques W (by have:=hq.len;omega) hm hb)).mono (fun e w' q=>show ∃v,e = .returned v∧w'.ownsRow W.heap.size 3 1 v ks.length (ks.map (Value.int .i64))∧Below W.heap.size W w' from by rw [hks,sortI_len,List.length_map];exact q));have HKS:=Hd hks;have HKL:=Hd (show ks.length≤7 from by rw [hkl];exact hq.len);clear hks hkl;have x19:=h.nc.c19;clear h hq hdl;unfold pv;go_enter Tryz.func64,Tryz.ntmps64
 go_upto_region 1 with (fail)
 obtain ⟨wa,hwa⟩:∃wa,wa=w.alloc (.cells #[.pointer (some ⟨x,0,none⟩)] 25):=⟨_,rfl⟩;have HBA:=Hd (show Below w.heap.size w wa from by rw [hwa];exact (Below.refl _ w).alloc (Nat.le_refl _) _);have HXB:=Hd (show wa.heap[w.heap.size]?=some (.cells #[pv x] 25 (0,0)) from by rw [hwa];exact World.alloc_heap_new w _);have HSA:=Hd (show wa.heap.size=w.heap.size+1 from by rw [hwa];simp);have x19:=cell_up x19 (.cells #[.pointer (some ⟨x,0,none⟩)] 25);rw [←hwa] at x19 ⊢;clear hwa;have xbc:=cell_of_row wa w.heap.size 0 _ _ _ HXB.out;unfold pv at xbc;simp at xbc;obtain ⟨xb,hxb⟩:∃xb,xb=w.heap.size:=⟨_,rfl⟩;have HXBE:=Hd hxb;rw [←hxb] at HXB xbc ⊢;clear hxb;have MM:=Hd (show RawMap (wa.alloc (.cells #[.map (some p.ques)] 106)) p.ques (s.ques.map encSt) from (H.out.below (HBA.out.alloc HBA.out.size _)).maps.ques);go_wp2_with (first
  | (go_at_call 110;refine (qkeys_any p.ques _).mono ?_;rintro e w2 ⟨rfl,rfl⟩)
  | (go_at_call 83;refine (SRK.out _ _ MM.out (cell_box _ _ _ _ _ rfl _ rfl)).mono ?_;rintro e W1 ⟨kv,rfl,hrow,hbl⟩;have HRW:=Hd hrow;have HBL:=Hd hbl;obtain ⟨ao,cap,rfl,_,_⟩:=rowK_of_owns (enc:=encI1) (l:=ks) encI1_len (by decide) (by rw [flat_I1];exact hrow);clear hrow hbl))
 obtain ⟨b,hb⟩:∃b,b=(wa.alloc (.cells #[.map (some p.ques)] 106)).heap.size:=⟨_,rfl⟩;have HAW:=Hd (show AnsW b w W1 xb x (.slice ao ks.length cap) ks from ⟨by
   have hl:xb<wa.heap.size:=lt_of_blk HXB.out;rw [HBL.out.block xb (by simp;omega),Below.heap_alloc _ _ _ hl];exact HXB.out,by rw [hb];exact HRW.out,(HBA.out.alloc HBA.out.size _).trans (HBL.out.mono (by have:=HBA.out.size;simp;omega))⟩)
 clear x19 xbc MM HXB HBA HSA HBL HRW SRK hb;go_loopw [2,16] (fun v i wr=>∃k:Nat,k≤ks.length∧i = .int .i64 (k:Int)∧AnsW b w wr xb x (.slice ao ks.length cap) ks∧OutR R w wr v ((ks.take k).flatMap (ansAt s))) (fun _ i _=>ks.length - (intOf i).toNat)
 case atStart=>exact ⟨0,by omega,rfl,HAW.out,by simpa using OutR.nil R w W1⟩
 case round=>
  obtain ⟨k,hk,rfl,haw,hor⟩:=hrel;have k0:(0:Int)≤(k:Int):=by omega
  by_cases hlt:k<ks.length
  ·obtain ⟨g,rfl,hkc⟩:=haw.key hlt;have hsm:=List.getElem_mem hlt;obtain ⟨site,hsite⟩:∃site,site=ks[k]:=⟨_,rfl⟩;rw [←hsite] at hkc hsm;obtain ⟨q,hgq⟩:=key_ques (by rw [←HKS.out];exact hsm);have HTK:=Hd (show (ks.take (k+1)).flatMap (ansAt s)=(ks.take k).flatMap (ansAt s) ++ s.answer site q from by
    rw [List.take_succ_eq_append_getElem hlt,List.flatMap_append,←hsite];simp [ansAt,hgq])
   have hq5:=HQ.out.get hgq;obtain ⟨_,_,qa,qb,qc,qd⟩:=hq5;have HLN:=Hd (show ((ks.take k).flatMap (ansAt s)).length≤728 from by
    have h1:=flat_len HQ.out (ks.take k);have h2:=HKL.out;have h3:(ks.take k).length≤7:=by rw [List.length_take];omega
    omega)
   have HAW:=Hd haw;have HOR:=Hd hor;have HGQ:=Hd hgq;have klt:(k:Int)<(ks.length:Int):=by omega
   have kl7:(k:Int)<7:=by have:=HKL.out;omega
   obtain ⟨qh,qr⟩:=q;simp only at qa qb qc qd;clear haw hor hgq hsite hsm;go_upto_region 4 with (fail)
   obtain ⟨wz,hwz⟩:∃wz,wz=wr.alloc (.cells #[.int .i64 site] 3):=⟨_,rfl⟩;obtain ⟨sb,hsb⟩:∃sb,sb=wr.heap.size:=⟨_,rfl⟩;have BZ:=Hd (show Below wr.heap.size wr wz from by rw [hwz];exact (Below.refl _ _).alloc (Nat.le_refl _) _);have HSB:=Hd (show wz.heap[sb]?=some (.cells #[.int .i64 site] 3 (0,0)) from by rw [hwz,hsb];exact World.alloc_heap_new wr _);have HBZ:=Hd (HAW.out.bel.trans (BZ.out.mono HAW.out.bel.size));have HAZ:=Hd (HAW.out.kp (Kp.of_below BZ.out) HBZ.out);have HOZ:=Hd (HOR.out.later BZ.out);rw [←hsb,←hwz];clear hwz hsb HAW HOR BZ hkc;have KEEP:=Hd (show ∀W,Below wz.heap.size wz W→W.cell? ⟨xb,0,none⟩=some (.pointer (some ⟨x,0,none⟩))∧W.cell? ⟨sb,0,none⟩=some (.int .i64 site)∧W.cell? ⟨x,19,none⟩=some (.map (some p.ques))∧(Instr.lookup 106 (.map (some p.ques)) (.int .i64 site) false).run Tryz.prog W = .ok (.agg #[.int .i64 qh,.int .i64 qr]) W∧Below wz.heap.size wz W from fun W hW=>by
    have hN:=H.out.below (HBZ.out.trans (hW.mono HBZ.out.size));refine ⟨?_,?_,hN.nc.c19,?_,hW⟩
    ·rw [cell_of_row W xb 0 _ _ _ ((hW.block xb (lt_of_blk HAZ.out.xb)).trans HAZ.out.xb)];rfl
    ·rw [cell_of_row W sb 0 _ _ _ ((hW.block sb (lt_of_blk HSB.out)).trans HSB.out)];rfl
    have:=hN.maps.look_ques site false;rw [HGQ.out] at this;exact this)
   go_cut [5] (fun t wc=>∃qb,t = .pointer (some ⟨qb,0,none⟩)∧wc.heap[qb]?=some (.cells #[.int .i64 qh,.int .i64 qr] 165 (0,0))∧Below wz.heap.size wz wc)
   case first=>
    go_region_held3 (fun W=>W.cell? ⟨xb,0,none⟩=some (.pointer (some ⟨x,0,none⟩))∧W.cell? ⟨sb,0,none⟩=some (.int .i64 site)∧W.cell? ⟨x,19,none⟩=some (.map (some p.ques))∧(Instr.lookup 106 (.map (some p.ques)) (.int .i64 site) false).run Tryz.prog W = .ok (.agg #[.int .i64 qh,.int .i64 qr]) W∧Below wz.heap.size wz W)
     (first | (exact KEEP.out _ (Below.refl _ wz).drew) | (exact KEEP.out _ ((Below.refl _ wz).drew.alloc (Nat.le_refl _) _)) | (exact KEEP.out _ ((((Below.refl _ wz).drew.alloc (Nat.le_refl _) _).setCell (Nat.le_refl _) _).setCell (Nat.le_refl _) _)))
     (fail)
    all_goals (
     go_wp2_with fail
     go_meet;refine ⟨wz.heap.size,rfl,World.alloc_heap_new wz _,((Below.refl _ wz).alloc (Nat.le_refl _) _).drew⟩)
   case rest=>
    obtain ⟨qb,rfl,hqb,hbq⟩:=hcut;obtain ⟨w4,rfl⟩:∃w4:World,w4=wc:=⟨_,rfl⟩;have HQB:=Hd hqb;have HBQ:=Hd hbq;have HB4:=Hd (HBZ.out.trans (hbq.mono HBZ.out.size));have HA4:=Hd (HAZ.out.kp (Kp.of_below hbq) HB4.out);have HO4:=Hd (HOZ.out.later hbq);have HS4:=Hd ((hbq.block sb (lt_of_blk HSB.out)).trans HSB.out);clear hqb hbq KEEP HBZ HAZ HOZ HSB HBQ;obtain ⟨vr,sl,hsl,hll,hlk⟩:=look_dec2 H.out HDL.out qh;obtain ⟨sao,scap,hsle,hslr⟩:=id hsl;obtain ⟨ls,hls⟩:∃ls,ls=s.decList qh:=⟨_,rfl⟩;rw [←hls] at hsle;subst hsle;clear hslr;have HSL:=Hd hsl;have HLL:=Hd hll;obtain ⟨dg,hdg⟩:∃dg,dg=s.decDig qh:=⟨_,rfl⟩;rw [←hdg] at hlk;rw [←hls] at HSL HLL;have HDG:=Hd hdg;have HLS:=Hd hls;have KEEP:=Hd (show ∀W,Below w4.heap.size w4 W→W.cell? ⟨xb,0,none⟩=some (.pointer (some ⟨x,0,none⟩))∧W.cell? ⟨qb,0,none⟩=some (.int .i64 qh)∧W.cell? ⟨x,18,none⟩=some (.map (some p.decs))∧(Instr.lookup 105 (.map (some p.decs)) (.int .i64 qh) false).run Tryz.prog W = .ok (.agg #[.int .i64 vr,.string dg,.slice sao ls.length scap]) W∧Below w4.heap.size w4 W from fun W hW=>by
     have hBW:=HB4.out.trans (hW.mono HB4.out.size);refine ⟨?_,?_,(H.out.below hBW).nc.c18,hlk W hBW,hW⟩
     ·rw [cell_of_row W xb 0 _ _ _ ((hW.block xb (lt_of_blk HA4.out.xb)).trans HA4.out.xb)];rfl
     rw [cell_of_row W qb 0 _ _ _ ((hW.block qb (lt_of_blk HQB.out)).trans HQB.out)];rfl)
    clear hsl hll hlk hdg hls;go_upto_region 5 with (fail)
    go_cut [6] (fun t wc=>∃vb,t = .pointer (some ⟨vb,0,none⟩)∧wc.heap[vb]?=some (.cells #[.int .i64 vr,.string dg,.slice sao ls.length scap] 120 (0,0))∧Below w4.heap.size w4 wc)
    case first=>
     go_region_held3 (fun W=>W.cell? ⟨xb,0,none⟩=some (.pointer (some ⟨x,0,none⟩))∧W.cell? ⟨qb,0,none⟩=some (.int .i64 qh)∧W.cell? ⟨x,18,none⟩=some (.map (some p.decs))∧(Instr.lookup 105 (.map (some p.decs)) (.int .i64 qh) false).run Tryz.prog W = .ok (.agg #[.int .i64 vr,.string dg,.slice sao ls.length scap]) W∧Below w4.heap.size w4 W)
      (first | (exact KEEP.out _ (Below.refl _ w4).drew) | (exact KEEP.out _ ((Below.refl _ w4).drew.alloc (Nat.le_refl _) _)) | (exact KEEP.out _ (((((Below.refl _ w4).drew.alloc (Nat.le_refl _) _).setCell (Nat.le_refl _) _).setCell (Nat.le_refl _) _).setCell (Nat.le_refl _) _)))
      (fail)
     all_goals (
      go_wp2_with fail
      go_meet;refine ⟨w4.heap.size,rfl,World.alloc_heap_new w4 _,((Below.refl _ w4).alloc (Nat.le_refl _) _).drew⟩)
    case rest=>
     obtain ⟨vb,rfl,hvb,hbv⟩:=hcut;obtain ⟨w5,rfl⟩:∃w5:World,w5=wc:=⟨_,rfl⟩;have HVB:=Hd hvb;have HB5:=Hd (HB4.out.trans (hbv.mono HB4.out.size));have HA5:=Hd (HA4.out.kp (Kp.of_below hbv) HB5.out);have HO5:=Hd (HO4.out.later hbv);have HS5:=Hd ((hbv.block sb (lt_of_blk HS4.out)).trans HS4.out);have HQ5:=Hd ((hbv.block qb (lt_of_blk HQB.out)).trans HQB.out);clear hvb hbv KEEP HB4 HA4 HO4 HS4 HQB;obtain ⟨PRE,hpre⟩:∃PRE,PRE=(ks.take k).flatMap (ansAt s):=⟨_,rfl⟩;rw [←hpre] at HTK HLN HO5;obtain ⟨cr,hcr⟩:∃cr,cr=s.claimRound qh qr:=⟨_,rfl⟩;have HAN:=Hd (show s.answer site (qh,qr) = [(⟨3,s.id,site,qh,cr,-1,dg,ls⟩:MsgB),⟨4,s.id,site,qh,qr,0,dg,[]⟩] ++ ((List.range (qr+1).toNat).map fun (r:Nat)=>(⟨6,s.id,site,qh,(r:Int),0,dg,[]⟩:MsgB)) ++ [⟨5,s.id,site,qh,qr,0,dg,[]⟩] from by
      rw [hcr,HDG.out,HLS.out];rfl)
     have HCR:=Hd hcr;have HRL:=Hd H.out.lt;clear hpre hcr;have ANS:=Hd (fun (kind round:Int) W (hW:Below w5.heap.size w5 W)=>(ans1_any (H.out.below (HB5.out.trans (hW.mono HB5.out.size))) xb sb qb vb site qh qr vr kind round dg (.slice sao ls.length scap) ((hW.block xb (lt_of_blk HA5.out.xb)).trans HA5.out.xb) ((hW.block sb (lt_of_blk HS5.out)).trans HS5.out) ((hW.block qb (lt_of_blk HQ5.out)).trans HQ5.out) ((hW.block vb (lt_of_blk HVB.out)).trans HVB.out)).mono (fun e w' q=>show e = .returned (.agg (encM ⟨kind,s.id,site,qh,round,0,dg,[]⟩ (.slice none 0 0)))∧Below w5.heap.size w5 w'∧Below W.heap.size W w' from ⟨q.1,hW.trans (q.2.mono hW.size),q.2⟩));have LNZ:=Hd (show ∀(wB W2:World) (v:Value),LRow (New w5 wB) wB v ls→Below wB.heap.size wB W2→LRow (NewZ R w W2) W2 v ls from fun wB W2 v h1 h2=>(h1.newer h2).mono (fun k hk=>⟨⟨Nat.le_trans HB5.out.size hk.1,hk.2⟩,fun hr=>by have:=H.out.lt k hr;have:=HB5.out.size;have:=hk.1;omega⟩));have LTZ:=Hd (show ∀(W2:World),Below w5.heap.size w5 W2→∀k,R k→k<W2.heap.size from fun W2 hW k hk=>by have:=H.out.lt k hk;have:=HB5.out.size;have:=hW.size;omega);have CLM:=Hd (fun W (hW:Below w5.heap.size w5 W)=>(claim_any (m:=⟨3,s.id,site,qh,qr,0,dg,[]⟩) (R0:=R) (v:=.agg (encM ⟨3,s.id,site,qh,qr,0,dg,[]⟩ (.slice none 0 0))) (H.out.below (HB5.out.trans (hW.mono HB5.out.size))) ⟨_,rfl,LRow.nil _ _⟩ (HSL.out.below H.out.lt (HB5.out.trans (hW.mono HB5.out.size))) (fun k hk=>Nat.lt_of_lt_of_le (H.out.lt k hk) (HB5.out.trans (hW.mono HB5.out.size)).size) HLL.out hn ⟨by show 0≤qh;omega,by show qh≤1000000;omega⟩ ⟨by show 0≤qr;omega,by show qr≤1000000;omega⟩).mono (fun e w' q=>show ∃ao cap,e = .returned (.agg (encM ⟨3,s.id,site,qh,cr,-1,dg,ls⟩ (.slice ao ls.length cap)))∧LRow (New w5 w') w' (.slice ao ls.length cap) ls∧Below w5.heap.size w5 w' from by
      obtain ⟨u,rfl,⟨ao,cap,rfl,hc⟩,hb⟩:=q;refine ⟨ao,cap,by rw [HCR.out],LRow.mono ⟨ao,cap,rfl,hc⟩ (fun k hk=>⟨Nat.le_trans hW.size hk.1,hk.2⟩),hW.trans (hb.mono hW.size)⟩))
     have KEEP:=Hd (show ∀W,Kp w5 W→W.cell? ⟨xb,0,none⟩=some (.pointer (some ⟨x,0,none⟩))∧W.cell? ⟨qb,1,none⟩=some (.int .i64 qr)∧W.cell? ⟨vb,2,none⟩=some (.slice sao ls.length scap)∧Kp w5 W from fun W hW=>by
      refine ⟨?_,?_,?_,hW⟩
      ·rw [cell_of_row W xb 0 _ _ _ (hW.block _ _ HA5.out.xb (fun c f e=>by injection e with _ e _;exact absurd e (by decide)))];rfl
      ·rw [cell_of_row W qb 1 _ _ _ (hW.block _ _ HQ5.out (fun c f e=>by injection e with _ e _;exact absurd e (by decide)))];rfl
      rw [cell_of_row W vb 2 _ _ _ (hW.block _ _ HVB.out (fun c f e=>by injection e with _ e _;exact absurd e (by decide)))];rfl)
     unfold encM iv pv at ANS CLM;go_upto_region 7 with (fail)
     go_cut [2] (fun v2 wc=>OutR R w wc v2 (PRE ++ [⟨3,s.id,site,qh,cr,-1,dg,ls⟩,⟨4,s.id,site,qh,qr,0,dg,[]⟩])∧Kp w5 wc∧Below w.heap.size w wc)
     case first=>
      go_region_held3 (fun W=>W.cell? ⟨xb,0,none⟩=some (.pointer (some ⟨x,0,none⟩))∧W.cell? ⟨qb,1,none⟩=some (.int .i64 qr)∧W.cell? ⟨vb,2,none⟩=some (.slice sao ls.length scap)∧Kp w5 W)
       (first | (exact KEEP.out _ (Kp.of_below (Below.refl _ w5).drew)) | (exact KEEP.out _ (Kp.of_below EA)) | (exact KEEP.out _ (Kp.of_below EB)) | (exact KEEP.out _ (Kp.of_below EC)) | (exact KEEP.out _ (Kp.of_below (EC.alloc EC.size _))) | (exact KEEP.out _ KA))
       (first
        | (go_at_call 111;(with_reducible refine (ANS.out 3 qr _ ?_).mono ?_);(exact (Below.refl _ w5).drew);rintro e wA ⟨rfl,EA,FA⟩)
        | (go_at_call 112;(with_reducible refine (CLM.out _ ?_).mono ?_);(exact EA);rintro e wB ⟨aoC,cpC,rfl,LC,EB⟩)
        | (go_at_call 111;(with_reducible refine (ANS.out 4 qr _ ?_).mono ?_);(exact EB);rintro e wC ⟨rfl,EC,FC⟩)
        | (refine step_push (w:=w) (wr:=w5) (Z:=R) (ms:=PRE) (nw:=[⟨3,s.id,site,qh,cr,-1,dg,ls⟩,⟨4,s.id,site,qh,qr,0,dg,[]⟩]) (sl2:=[.slice aoC ls.length cpC,.slice none 0 0]) (by rfl) (.tmp 34) (.tmp 47) (by rfl) ?_ HO5.out HB5.out (EC.alloc EC.size _) (LTZ.out _ (EC.alloc EC.size _)) ⟨wC.heap.size,0,none⟩ 2 ?_ ?_ ?_ ?_ ?_;(simp [Act.eval,Act.put]);(simp [Act.eval,Act.put]);(exact .cons (LNZ.out _ _ _ LC (FC.alloc FC.size _)) (.cons (LRow.nil _ _) .nil));(exact cells_at wC (flatM [.slice aoC ls.length cpC,.slice none 0 0] [⟨3,s.id,site,qh,cr,-1,dg,ls⟩,⟨4,s.id,site,qh,qr,0,dg,[]⟩]) _ _ rfl);(have:=HLN.out;simp only [List.length_cons,List.length_nil];omega);intro v7 w7 ho7 KA hb7 _;have HO7:=Hd ho7;have HB7:=Hd hb7;clear ho7 hb7))
      all_goals (
       go_wp2_with fail
       go_meet;exact ⟨HO7.out,KA,HB7.out⟩)
     case rest=>
      obtain ⟨ho6,hk6,hb6⟩:=hcut;obtain ⟨w6,rfl⟩:∃w6:World,w6=wc:=⟨_,rfl⟩;have HO6:=Hd ho6;have HK6:=Hd hk6;have HB6:=Hd hb6;have hne:∀(cur c2:Array Value) (t:TypeId) (fr f2:Nat×Nat),t≠36→Obj.cells c2 t f2≠Obj.cells cur 36 fr:=fun cur c2 t fr f2 ht e=>by injection e with _ e _;exact ht e
      have HA6:=Hd (HA5.out.kp hk6 hb6);have HS6:=Hd (hk6.block _ _ HS5.out (fun c f=>hne _ _ _ _ _ (by decide)));have HQ6:=Hd (hk6.block _ _ HQ5.out (fun c f=>hne _ _ _ _ _ (by decide)));have HV6:=Hd (hk6.block _ _ HVB.out (fun c f=>hne _ _ _ _ _ (by decide)));clear ho6 hk6 hb6 KEEP ANS CLM LNZ LTZ HB5 HA5 HS5 HQ5 HVB HO5;obtain ⟨P2,hP2⟩:∃P2:List MsgB,P2=PRE ++ [⟨3,s.id,site,qh,cr,-1,dg,ls⟩,⟨4,s.id,site,qh,qr,0,dg,[]⟩]:=⟨_,rfl⟩;rw [←hP2] at HO6;have HP2:=Hd hP2;have HP2L:=Hd (show P2.length≤730 from by rw [hP2];have:=HLN.out;simp;omega);clear hP2 hne;have b2:=cell_of_row w6 qb 1 _ _ _ HQ6.out;simp at b2;have qr1:-9223372036854775808≤qr+1:=by omega
      have qr2:qr+1≤9223372036854775807:=by omega
      obtain ⟨nk,hnk⟩:∃nk:Nat,(nk:Int)=qr+1:=⟨(qr+1).toNat,by omega⟩;have HNK:=Hd hnk;have hnk100:nk≤100:=by omega
      clear hnk;go_wp2_with fail
      go_loopw [2,52] (fun v i wr=>∃j:Nat,j≤nk∧i = .int .i64 (j:Int)∧OutR R w wr v (P2 ++ (List.range j).map fun (r:Nat)=>(⟨6,s.id,site,qh,(r:Int),0,dg,[]⟩:MsgB))∧Kp w6 wr∧Below w.heap.size w wr) (fun _ i _=>nk - (intOf i).toNat)
      case atStart=>exact ⟨0,by omega,rfl,by simpa using HO6.out,Kp.refl _,HB6.out⟩
      case round=>
       obtain ⟨j,hj,rfl,hor,hkp,hbl⟩:=hrel;obtain ⟨P3,hP3⟩:∃P3,P3=P2 ++ (List.range j).map fun (r:Nat)=>(⟨6,s.id,site,qh,(r:Int),0,dg,[]⟩:MsgB):=⟨_,rfl⟩;rw [←hP3] at hor;have HP3:=Hd hP3;have HP3L:=Hd (show P3.length≤830 from by rw [hP3];have:=HP2L.out;simp;omega);have HOR:=Hd hor;have HKP:=Hd hkp;have HBL:=Hd hbl;have AN:=Hd (fun (kind round:Int)=>(ans1_any (H.out.below hbl) xb sb qb vb site qh qr vr kind round dg (.slice sao ls.length scap) (hkp.block _ _ HA6.out.xb (fun c f e=>by injection e with _ e _;exact absurd e (by decide))) (hkp.block _ _ HS6.out (fun c f e=>by injection e with _ e _;exact absurd e (by decide))) (hkp.block _ _ HQ6.out (fun c f e=>by injection e with _ e _;exact absurd e (by decide))) (hkp.block _ _ HV6.out (fun c f e=>by injection e with _ e _;exact absurd e (by decide)))));have LTZ:=Hd (show ∀(W2:World),Below wr.heap.size wr W2→∀k,R k→k<W2.heap.size from fun W2 hW k hk=>by have:=H.out.lt k hk;have:=hbl.size;have:=hW.size;omega);have c2:=cell_of_row wr qb 1 _ _ _ (hkp.block _ _ HQ6.out (fun c f e=>by injection e with _ e _;exact absurd e (by decide)));simp at c2;unfold encM iv pv at AN;clear hP3 hor hkp hbl;have j0:(0:Int)≤(j:Int):=by omega
       by_cases hjl:j<nk
       ·have j1:(j:Int)<qr+1:=by have:=HNK.out;omega
        have j2:(j:Int)≤100:=by omega
        go_wp2_with (first
         | (go_at_call 111;(with_reducible refine (AN.out 6 (j:Int)).mono ?_);rintro e wA ⟨rfl,EA⟩)
         | (refine wpList_push (w:=w) (wr:=wr) (Z:=R) (ms:=P3) (nw:=[⟨6,s.id,site,qh,(j:Int),0,dg,[]⟩]) (sl2:=[.slice none 0 0]) rfl (.tmp 55) (.tmp 59) (by rfl) ?_ HOR.out HBL.out (EA.alloc EA.size _) (LTZ.out _ (EA.alloc EA.size _)) ⟨wA.heap.size,0,none⟩ 1 ?_ ?_ ?_ ?_ ?_;(simp [Act.eval,Act.put]);(simp [Act.eval,Act.put]);(exact .cons (LRow.nil _ _) .nil);(exact cells_at wA (flatM [.slice none 0 0] [⟨6,s.id,site,qh,(j:Int),0,dg,[]⟩]) _ _ rfl);(have:=HP3L.out;simp only [List.length_cons,List.length_nil];omega);intro v7 w7 ho7 hk7 hb7 _;have HO7:=Hd ho7;have HK7:=Hd hk7;have HB7:=Hd hb7;clear ho7 hk7 hb7))
        go_roundw
        case rel=>
         refine ⟨j+1,by omega,by go_num,?_,HKP.out.trans HK7.out,HB7.out⟩;rw [List.range_succ,List.map_append,←List.append_assoc,←HP3.out];exact HO7.out
        case measure=>simp [intOf];omega
       have j1:¬(j:Int)<qr+1:=by have:=HNK.out;omega
       have hjn:j=nk:=by omega
       have HAN2:=Hd (show P3 ++ [⟨5,s.id,site,qh,qr,0,dg,[]⟩]=(ks.take (k+1)).flatMap (ansAt s) from by
        rw [HTK.out,HAN.out,HP3.out,HP2.out,hjn,show (qr+1).toNat=nk from by have:=HNK.out;omega];simp only [List.append_assoc])
       clear hjn;go_wp2_with (first
        | (go_at_call 111;(with_reducible refine (AN.out 5 qr).mono ?_);rintro e wA ⟨rfl,EA⟩)
        | (refine wpList_push (w:=w) (wr:=wr) (Z:=R) (ms:=P3) (nw:=[⟨5,s.id,site,qh,qr,0,dg,[]⟩]) (sl2:=[.slice none 0 0]) rfl (.tmp 62) (.tmp 67) (by rfl) ?_ HOR.out HBL.out (EA.alloc EA.size _) (LTZ.out _ (EA.alloc EA.size _)) ⟨wA.heap.size,0,none⟩ 1 ?_ ?_ ?_ ?_ ?_;(simp [Act.eval,Act.put]);(simp [Act.eval,Act.put]);(exact .cons (LRow.nil _ _) .nil);(exact cells_at wA (flatM [.slice none 0 0] [⟨5,s.id,site,qh,qr,0,dg,[]⟩]) _ _ rfl);(have:=HP3L.out;simp only [List.length_cons,List.length_nil];omega);intro v7 w7 ho7 hk7 hb7 _;have HO7:=Hd ho7;have HK7:=Hd hk7;have HB7:=Hd hb7;clear ho7 hk7 hb7))
       go_roundw
       case rel=>
        refine ⟨k+1,by omega,by go_num,HA6.out.kp (HKP.out.trans HK7.out) HB7.out,?_⟩;rw [←HAN2.out];exact HO7.out
       case measure=>simp [intOf];omega
  have hkn:k=ks.length:=by omega
  have hkl:¬(k:Int)<(ks.length:Int):=by omega
  rw [hkn,List.take_length] at hor;rw [HKS.out,←answers_at] at hor;have HOR:=Hd hor;have HAW:=Hd haw;have x0:=cell_of_row wr xb 0 _ _ _ haw.xb;unfold pv at x0;simp at x0;have hN:=H.out.below haw.bel;have x19:=hN.nc.c19;obtain ⟨o,hcl,hN2,hC2⟩:=hN.clear_ques (ty:=0);have HN2:=Hd hN2;have HC2:=Hd hC2;clear hor haw hN hN2 hC2;go_wp2
  go_ret;have hpq:R p.ques:=H.out.maps.own _ (by simp [Ptr.maps]);refine ⟨_,rfl,HOR.out.kept (by simp [World.putObj]) (fun j _ _ hz=>World.putObj_heap_other (fun e=>hz (e ▸ hpq))),HN2.out,?_⟩;exact (Chg.of_below HAW.out.bel (fun j h1 h2=>absurd h1 (by omega))).trans (HC2.out.mono (fun j _ hj=>.inl hj))
end
section
open Go.RowKit
section
variable {R:Nat→Prop} {w:World} {x:Nat} {p:Ptr} {s:StB} {G:ByteArray→List ByteArray→Prop}
theorem miss_any (h:NodeP R w x p s) (ok:Ok G s):Calls Tryz.prog 122 #[pv x] w (RuleE R w x s.rMiss):=by
 have hI:=ok.inv.num;have c2:=h.nc.c2;have hfz:=h.nc.fz;have L:=Hd (isLate_any h ⟨hI.r0,by have:=hI.r1;omega⟩);have C:=Hd (fun W (hW:Below w.heap.size w W)=>cast_any (h.below hW) hI ok.mine 4 (.inl rfl) (ByteArray.mk #[]) szB_nil 2);clear h;by_cases h1:s.step=1
 ·rw [h1] at c2;rcases hl:s.late with _ | _
  ·have HE:=Hd (show s.rMiss=none from by unfold NS.rMiss;rw [if_pos (.inr hl)]);rw [hl] at L;clear h1 hl;unfold pv at *;try unfold iv at *
   go_enter Tryz.func122,Tryz.ntmps122
   go_wp2_with (go_at_call 175;refine L.out.mono ?_;rintro e w1 ⟨rfl,hb⟩;have HB:=Hd hb;clear hb)
   go_ret;rw [HE.out];exact ⟨rfl,HB.out⟩
  have HE:=Hd (show s.rMiss=some (s.cast 4 Dg.nil 2) from by unfold NS.rMiss;rw [if_neg (by simp [h1,hl])]);rw [hl] at L;clear h1 hl;unfold pv at *;try unfold iv at *
  go_enter Tryz.func122,Tryz.ntmps122
  go_wp2_with (first
   | (go_at_call 175;refine L.out.mono ?_;rintro e w1 ⟨rfl,hb⟩;have HB:=Hd hb;clear hb)
   | (go_at_call 173;refine (C.out _ HB.out).mono ?_;rintro e w2 ⟨rfl,ht⟩;have HT:=Hd ht;clear ht))
  go_ret;rw [HE.out];exact ⟨rfl,Turned.after HB.out HT.out⟩
 have e1:(s.step == 1)=false:=by simpa using h1
 have e2:(s.step != 1)=true:=by simpa using h1
 have HE:=Hd (show s.rMiss=none from by unfold NS.rMiss;rw [if_pos (.inl h1)]);clear h1;unfold pv at *;try unfold iv at *
 go_enter Tryz.func122,Tryz.ntmps122
 go_wp2
 go_ret;rw [HE.out];exact ⟨rfl,Below.refl _ _⟩
theorem leave_any (h:NodeP R w x p s) (ok:Ok G s):Calls Tryz.prog 126 #[pv x] w (RuleE R w x s.rLeave):=by
 have hI:=ok.inv.num;have c2:=h.nc.c2;have hfz:=h.nc.fz;have L:=Hd (isLate_any h ⟨hI.r0,by have:=hI.r1;omega⟩);have C:=Hd (fun W (hW:Below w.heap.size w W)=>cast_any (h.below hW) hI ok.mine 5 (.inr rfl) (ByteArray.mk #[]) szB_nil 4);clear h;by_cases h1:s.step=3
 ·rw [h1] at c2;rcases hl:s.late with _ | _
  ·have HE:=Hd (show s.rLeave=none from by unfold NS.rLeave;rw [if_pos (.inr hl)]);rw [hl] at L;clear h1 hl;unfold pv at *;try unfold iv at *
   go_enter Tryz.func126,Tryz.ntmps126
   go_wp2_with (go_at_call 175;refine L.out.mono ?_;rintro e w1 ⟨rfl,hb⟩;have HB:=Hd hb;clear hb)
   go_ret;rw [HE.out];exact ⟨rfl,HB.out⟩
  have HE:=Hd (show s.rLeave=some (s.cast 5 Dg.nil 4) from by unfold NS.rLeave;rw [if_neg (by simp [h1,hl])]);rw [hl] at L;clear h1 hl;unfold pv at *;try unfold iv at *
  go_enter Tryz.func126,Tryz.ntmps126
  go_wp2_with (first
   | (go_at_call 175;refine L.out.mono ?_;rintro e w1 ⟨rfl,hb⟩;have HB:=Hd hb;clear hb)
   | (go_at_call 173;refine (C.out _ HB.out).mono ?_;rintro e w2 ⟨rfl,ht⟩;have HT:=Hd ht;clear ht))
  go_ret;rw [HE.out];exact ⟨rfl,Turned.after HB.out HT.out⟩
 have e1:(s.step == 3)=false:=by simpa using h1
 have e2:(s.step != 3)=true:=by simpa using h1
 have HE:=Hd (show s.rLeave=none from by unfold NS.rLeave;rw [if_pos (.inl h1)]);clear h1;unfold pv at *;try unfold iv at *
 go_enter Tryz.func126,Tryz.ntmps126
 go_wp2
 go_ret;rw [HE.out];exact ⟨rfl,Below.refl _ _⟩
theorem next_any (h:NodeP R w x p s) (ok:Ok G s):Calls Tryz.prog 127 #[pv x] w (RuleE R w x s.rNext):=by
 have hI:=ok.inv.num;have c1:=h.nc.c1;have c2:=h.nc.c2;have hfz:=h.nc.fz;have r0:=hI.r0;have r1:=hI.r1;have H:=Hd h;have L:=Hd (isLate_any h ⟨hI.r0,by have:=hI.r1;omega⟩);clear h;by_cases h1:s.step=4
 ·rw [h1] at c2;rcases hl:s.late with _ | _
  ·have HE:=Hd (show s.rNext=none from by unfold NS.rNext;rw [if_pos (.inr (.inl hl))]);rw [hl] at L;clear h1 hl;unfold pv at *;try unfold iv at *
   go_enter Tryz.func127,Tryz.ntmps127
   go_wp2_with (go_at_call 175;refine L.out.mono ?_;rintro e w1 ⟨rfl,hb⟩;have HB:=Hd hb;clear hb)
   go_ret;rw [HE.out];exact ⟨rfl,HB.out⟩
  by_cases h2:100≤s.round+1
  ·have HE:=Hd (show s.rNext=none from by unfold NS.rNext;rw [if_pos (.inr (.inr h2))]);rw [hl] at L;clear h1 hl;unfold pv at *;try unfold iv at *
   go_enter Tryz.func127,Tryz.ntmps127
   go_wp2_with (go_at_call 175;refine L.out.mono ?_;rintro e w1 ⟨rfl,hb⟩;have c1b:=(H.out.below hb).nc.c1;have fzb:=(H.out.below hb).nc.fz;have HB:=Hd hb;clear hb)
   go_ret;rw [HE.out];exact ⟨rfl,HB.out⟩
  have HE:=Hd (show s.rNext=some ({s with round:=s.round+1}.enter 1) from by unfold NS.rNext;rw [if_neg (by simp only [not_or];exact ⟨by simpa using h1,by simp [hl],h2⟩)]);have H2:=Hd (fun W (hW:Below w.heap.size w W)=>show NodeP R (W.setCell ⟨x,1,none⟩ (.int .i64 (s.round+1))) x p {s with round:=s.round+1} from (H.out.below hW).set (s':={s with round:=s.round+1}) (p':=p) 1 (.int .i64 (s.round+1)) rfl (fun _ h=>h.same) (fun _ h=>h.same));rw [hl] at L;clear h1 hl;unfold pv at *;try unfold iv at *
  go_enter Tryz.func127,Tryz.ntmps127
  go_wp2_with (first
   | (go_at_call 175;refine L.out.mono ?_;rintro e w1 ⟨rfl,hb⟩;have c1b:=(H.out.below hb).nc.c1;have fzb:=(H.out.below hb).nc.fz;have HB:=Hd hb;clear hb)
   | (go_at_call 177;refine (enter_any (H2.out _ HB.out) 1).mono ?_;rintro e w2 ⟨rfl,ht⟩;have HT:=Hd ht;clear ht))
  go_ret;rw [HE.out];exact ⟨rfl,Turned.after HB.out (Turned.trans (Chg.set _ x 1 _ H.out.mem) (Grows.refl R _) HT.out)⟩
 have e1:(s.step == 4)=false:=by simpa using h1
 have e2:(s.step != 4)=true:=by simpa using h1
 have HE:=Hd (show s.rNext=none from by unfold NS.rNext;rw [if_pos (.inl h1)]);clear h1;unfold pv at *;try unfold iv at *
 go_enter Tryz.func127,Tryz.ntmps127
 go_wp2
 go_ret;rw [HE.out];exact ⟨rfl,Below.refl _ _⟩
end
end
section
open Go.RowKit
section
variable {R:Nat→Prop} {w:World} {x:Nat} {p:Ptr} {s:StB} {G:ByteArray→List ByteArray→Prop}
theorem cntD_count (s:StB) (k r:Int) (d:ByteArray):cntD (voters s.n.toNat s.votes k s.height r) d=s.count k r d:=rfl
theorem wait_any (h:NodeP R w x p s) (ok:Ok G s):Calls Tryz.prog 124 #[pv x] w (RuleE R w x s.rWait):=by
 have hI:=ok.inv.num;have H:=Hd h;have c0:=h.nc.c0;have c1:=h.nc.c1;have c2:=h.nc.c2;have c12:=h.nc.c12;have c15:=h.nc.c15;have c17:=h.nc.c17;have hfz:=h.nc.fz;have hlk:=h.maps.look_made 6 s.round;have hlk2:=h.drew.maps.look_made 6 s.round;have L:=Hd (fun W (hW:Below w.heap.size w W)=>(isLate_any (h.below hW) ⟨hI.r0,by have:=hI.r1;omega⟩).mono (fun e w' q=>show _∧Below w.heap.size w w' from ⟨q.1,hW.trans (q.2.mono hW.size)⟩));have CN:=Hd (fun W (hW:Below w.heap.size w W)=>(count_any (h.below hW).boxAt (by have:=hI.n1;omega) hI.n7 4 s.height s.round (ByteArray.mk #[])).mono (fun e w' q=>show _∧Below w.heap.size w w' from ⟨q.1,hW.trans (q.2.mono hW.size)⟩));have KEEP:=Hd (show ∀W,Below w.heap.size w W→W.cell? ⟨x,0,none⟩=some (.int .i64 s.height)∧W.cell? ⟨x,1,none⟩=some (.int .i64 s.round)∧W.cell? ⟨x,12,none⟩=some (.pointer (some ⟨p.box,0,none⟩))∧W.cell? ⟨x,17,none⟩=some (.int .i64 s.n)∧Below w.heap.size w W from fun W hW=>⟨(h.below hW).nc.c0,(h.below hW).nc.c1,(h.below hW).nc.c12,(h.below hW).nc.c17,hW⟩);have Q:=Hd (fun W=>quorum_any s.n W hI.n1 hI.n7);have C:=Hd (fun W (hW:Below w.heap.size w W)=>cast_any (h.below hW) hI ok.mine 5 (.inr rfl) (ByteArray.mk #[]) szB_nil 4);have E:=Hd (fun W (hW:Below w.heap.size w W)=>enter_any (h.below hW) 3);simp only [cntD_count] at CN;clear h;by_cases h1:s.step=2
 ·rw [h1] at c2;rcases hm:memD ((6:Int),s.round) s.made with _ | _
  ·have hm2:=memD_false.1 hm;rw [hm] at hlk hlk2;rcases hl:s.late with _ | _
   ·have HE:=Hd (show s.rWait=if quorumN s.n≤s.count 4 s.round Dg.nil then some (s.cast 5 Dg.nil 4) else none from by unfold NS.rWait;simp [h1,hm2,hl]);rw [hl] at L;obtain ⟨cn,hcn⟩:∃cn,cn=s.count 4 s.round (ByteArray.mk #[]):=⟨_,rfl⟩;have HCN:=Hd (show s.count 4 s.round Dg.nil=cn from hcn.symm);rw [←hcn] at CN;obtain ⟨qn,hqn⟩:∃qn,qn=quorumN s.n:=⟨_,rfl⟩;rw [HCN.out,←hqn] at HE;rw [←hqn] at Q;clear h1 hm hm2 hl hcn hqn;unfold pv at *;try unfold iv at *
    go_enter Tryz.func124,Tryz.ntmps124
    go_upto_region 4 with (fail)
    go_region
    go_wp2_with (go_at_call 175;refine (L.out _ (by repeat (first | exact Below.refl _ _ | refine Below.drew ?_))).mono ?_;rintro e w1 ⟨rfl,hb⟩;have HB:=Hd hb;clear hb)
    have d0:=(H.out.below HB.out).nc.c0;have d1:=(H.out.below HB.out).nc.c1;have d12:=(H.out.below HB.out).nc.c12;have d17:=(H.out.below HB.out).nc.c17;clear c0 c1 c2 c12 c15 c17 hfz hlk hlk2;go_region_held3 (fun W=>W.cell? ⟨x,0,none⟩=some (.int .i64 s.height)∧W.cell? ⟨x,1,none⟩=some (.int .i64 s.round)∧W.cell? ⟨x,12,none⟩=some (.pointer (some ⟨p.box,0,none⟩))∧W.cell? ⟨x,17,none⟩=some (.int .i64 s.n)∧Below w.heap.size w W)
     (first | (exact KEEP.out _ E1) | (exact KEEP.out _ HB.out.drew) | (go_split_ands;exact ⟨by assumption,by assumption,by assumption,by assumption,by assumption⟩))
     (first
      | (go_at_call 174;refine (CN.out _ ?_).mono ?_;(go_split_ands;assumption);rintro e w2 ⟨rfl,hb⟩;have E1:=hb;clear hb)
      | (go_at_call 113;refine (Q.out _).mono ?_;rintro _ _ ⟨rfl,rfl⟩))
    have HE1:=Hd E1;clear E1;by_cases hq:qn≤cn
    ·rw [if_pos hq] at HE;go_wp2_with (go_at_call 173;refine (C.out _ HE1.out).mono ?_;rintro e w3 ⟨rfl,ht⟩;have HT:=Hd ht;clear ht)
     go_ret;rw [HE.out];exact ⟨rfl,Turned.after HE1.out HT.out⟩
    rw [if_neg hq] at HE;go_wp2
    go_ret;rw [HE.out];exact ⟨rfl,HE1.out⟩
   have HE:=Hd (show s.rWait=some (s.cast 5 Dg.nil 4) from by unfold NS.rWait;simp [h1,hm2,hl]);rw [hl] at L;clear h1 hm hm2 hl CN Q E KEEP;unfold pv at *;try unfold iv at *
   go_enter Tryz.func124,Tryz.ntmps124
   go_upto_region 4 with (fail)
   go_region
   go_wp2_with (first
    | (go_at_call 175;refine (L.out _ (by repeat (first | exact Below.refl _ _ | refine Below.drew ?_))).mono ?_;rintro e w1 ⟨rfl,hb⟩;have HB:=Hd hb;clear hb)
    | (go_at_call 173;refine (C.out _ HB.out).mono ?_;rintro e w2 ⟨rfl,ht⟩;have HT:=Hd ht;clear ht))
   go_ret;rw [HE.out];exact ⟨rfl,Turned.after HB.out HT.out⟩
  have hm2:=memD_true.1 hm;rw [hm] at hlk hlk2;have HE:=Hd (show s.rWait=some (s.enter 3) from by unfold NS.rWait;simp [h1,hm2]);clear h1 hm hm2 CN Q L C KEEP;unfold pv at *;try unfold iv at *
  go_enter Tryz.func124,Tryz.ntmps124
  go_upto_region 4 with (fail)
  go_region
  go_wp2_with (go_at_call 177;refine (E.out _ (by repeat (first | exact Below.refl _ _ | refine Below.drew ?_))).mono ?_;rintro e w2 ⟨rfl,ht⟩;have HT:=Hd ht;clear ht)
  go_ret;rw [HE.out];exact ⟨rfl,Turned.after (Below.refl _ w).drew HT.out⟩
 have e1:(s.step == 2)=false:=by simpa using h1
 have e2:(s.step != 2)=true:=by simpa using h1
 have HE:=Hd (show s.rWait=none from by unfold NS.rWait;rw [if_pos h1]);clear h1;unfold pv at *;try unfold iv at *
 go_enter Tryz.func124,Tryz.ntmps124
 go_wp2
 go_ret;rw [HE.out];exact ⟨rfl,Below.refl _ _⟩
theorem key_none (h:s.chosen 4 s.round=none):s.rKey=none:=by unfold NS.rKey;rw [h]
theorem key_bad {d:ByteArray} (h:s.chosen 4 s.round=some d) (h2:s.step=1∨((6:Int),s.round)∈s.made):s.rKey=none:=by unfold NS.rKey;rw [h];simp only;rw [if_pos h2]
theorem key_no1 (h2:s.step=1):s.rKey=none:=by
 rcases h:s.chosen 4 s.round with _ | d
 ·exact key_none h
 exact key_bad h (.inl h2)
theorem key_ok {d:ByteArray} (h:s.chosen 4 s.round=some d) (h1:¬s.step=1) (h2:((6:Int),s.round)∉s.made):s.rKey=some (if s.step=2 then (s.say (vote 6 s.round d)).enter 3 else s.say (vote 6 s.round d)):=by
 unfold NS.rKey;rw [h];simp only;rw [if_neg (by simp only [not_or];exact ⟨h1,h2⟩),(say_same s _).2.2.1]
theorem key_any (h:NodeP R w x p s) (ok:Ok G s):Calls Tryz.prog 123 #[pv x] w (RuleE R w x s.rKey):=by
 have hI:=ok.inv.num;have H:=Hd h;have c1:=h.nc.c1;have hfz:=h.nc.fz;have CH:=Hd (chosen_any h hI.n1 hI.n7 4 s.round);obtain ⟨md,hmd⟩:∃md,md=(s.most 4 s.round).1:=⟨_,rfl⟩;unfold chosenE at CH;rw [←hmd] at CH;by_cases h1:s.step=1
 ·have HE:=Hd (key_no1 h1);obtain ⟨io,hio⟩:∃io,io=(s.chosen 4 s.round).isSome:=⟨_,rfl⟩;rw [←hio] at CH;have C2:=Hd (fun W (hW:Below w.heap.size w W)=>show W.cell? ⟨x,2,none⟩=some (.int .i64 1) from by rw [←h1];exact (h.below hW).nc.c2);clear h1 hio hmd h;unfold pv iv at *;go_enter Tryz.func123,Tryz.ntmps123
  go_upto_region 2 with (go_at_call 176;refine CH.out.mono ?_;rintro e w1 ⟨rfl,hb⟩;have HB:=Hd hb;have d2:=C2.out _ hb;clear hb)
  go_region
  all_goals (
   go_wp2
   go_ret;rw [HE.out];exact ⟨rfl,by first | exact HB.out | exact HB.out.drew⟩)
 have e1:(s.step == 1)=false:=by simpa using h1
 rcases hch:s.chosen 4 s.round with _ | d
 ·have HE:=Hd (key_none hch);rw [hch] at CH;clear hch hmd h1 h;unfold pv iv at *;go_enter Tryz.func123,Tryz.ntmps123
  go_upto_region 2 with (go_at_call 176;refine CH.out.mono ?_;rintro e w1 ⟨rfl,hb⟩;have HB:=Hd hb;have d2:=(H.out.below hb).nc.c2;clear hb)
  go_region
  all_goals (
   go_wp2
   go_ret;rw [HE.out];exact ⟨rfl,by first | exact HB.out | exact HB.out.drew⟩)
 have hdd:md=d:=hmd.trans (chosen_most hch);subst hdd;rw [hch] at CH;have HSZ:=Hd (chosen_sz ok.inv hch).1;have HLK:=Hd (fun W (hW:Below w.heap.size w W)=>(h.below hW).maps.look_made 6 s.round);rcases hm:memD ((6:Int),s.round) s.made with _ | _
 ·have HK:=Hd (key_ok hch h1 (memD_false.1 hm));have S:=Hd (fun W (hW:Below w.heap.size w W)=>say_any (h.below hW) (m:=vote 6 s.round md) ⟨.slice none 0 0,rfl,LRow.nil R W⟩ (Nat.zero_le _) hI ok.mine (fun _=>say_okv hI (by simp [vote]) ⟨hI.r0,hI.r1⟩ rfl rfl HSZ.out));obtain ⟨s2,hs2⟩:∃s2,s2=s.say (vote 6 s.round md):=⟨_,rfl⟩;have HST:=Hd (show s2.step=s.step from by rw [hs2];exact (say_same s _).2.2.1);rw [←hs2] at S HK;rw [hm] at HLK;clear hch hmd h1 h hm hs2;unfold encM vote at S;unfold pv iv at *;go_enter Tryz.func123,Tryz.ntmps123
  go_upto_region 2 with (go_at_call 176;refine CH.out.mono ?_;rintro e w1 ⟨rfl,hb⟩;have HB:=Hd hb;have d1:=(H.out.below hb).nc.c1;have d2:=(H.out.below hb).nc.c2;have d15:=(H.out.below hb).nc.c15;have hlk:=HLK.out _ hb;have hlk2:=HLK.out _ hb.drew;clear hb)
  go_region
  go_upto_region 5 with (go_at_call 108;refine (S.out _ HB.out.drew).mono ?_;rintro e w2 ⟨rfl,ht⟩;obtain ⟨p2,R2,hn,hup⟩:=(Turned.after HB.out.drew ht).node;have f2:=hn.nc.c2;rw [HST.out] at f2;have HN2:=Hd hn;have HUP:=Hd hup;have HT:=Hd (Turned.after HB.out.drew ht);clear ht hn hup)
  clear d1 d2 d15 hlk hlk2 c1 hfz;by_cases h2:s.step=2
  ·have HE:=HK.out;rw [if_pos h2] at HE;rw [h2] at f2;have EN:=Hd (enter_any HN2.out 3);have HE2:=Hd HE;clear h2 HE e1;unfold pv iv at EN;go_wp2_with (go_at_call 177;refine EN.out.mono ?_;rintro e w3 ⟨rfl,ht⟩;have HT2:=Hd (HUP.out _ _ ht);clear ht)
   go_ret;rw [HE2.out];exact ⟨rfl,HT2.out⟩
  have HE:=HK.out;rw [if_neg h2] at HE;have e2:(s.step == 2)=false:=by simpa using h2
  have HE2:=Hd HE;clear h2 HE;go_wp2
  go_ret;rw [HE2.out];exact ⟨rfl,HT.out⟩
 have HE:=Hd (key_bad hch (.inr (memD_true.1 hm)));rw [hm] at HLK;clear hch hmd h1 h hm;unfold pv iv at *;go_enter Tryz.func123,Tryz.ntmps123
 go_upto_region 2 with (go_at_call 176;refine CH.out.mono ?_;rintro e w1 ⟨rfl,hb⟩;have HB:=Hd hb;have d1:=(H.out.below hb).nc.c1;have d2:=(H.out.below hb).nc.c2;have d15:=(H.out.below hb).nc.c15;have hlk:=HLK.out _ hb;have hlk2:=HLK.out _ hb.drew;clear hb)
 go_region
 all_goals (
  go_wp2
  go_ret;rw [HE.out];exact ⟨rfl,by first | exact HB.out | exact HB.out.drew⟩)
theorem seal_none (h:s.chosenList 6 s.round=none):s.rSeal=none:=by unfold NS.rSeal;rw [h]
theorem seal_bad (h2:¬s.step=3):s.rSeal=none:=by
 unfold NS.rSeal;rcases s.chosenList 6 s.round with _ | v
 ·rfl
 simp only;rw [if_pos h2]
theorem seal_ok {v:ValB} (h:s.chosenList 6 s.round=some v) (h2:s.step=3):s.rSeal=some (({s with lock:=some v}:StB).cast 5 v.dig 4):=by
 unfold NS.rSeal;rw [h];simp only;rw [if_neg (fun q=>q h2)]
theorem seal_any (h:NodeP R w x p s) (ok:Ok G s) (gl:GLaw G):Calls Tryz.prog 125 #[pv x] w (RuleE R w x s.rSeal):=by
 have hI:=ok.inv.num;have H:=Hd h;have c1:=h.nc.c1;have hfz:=h.nc.fz;have CL:=Hd (chosenList_any h hI.n1 hI.n7 (ok.coh gl) 6 s.round);have HML:=Hd ok.mine;rcases hcl:s.chosenList 6 s.round with _ | v
 ·have HE:=Hd (seal_none hcl);have HCL:=Hd hcl;clear hcl h;unfold pv iv at *;go_enter Tryz.func125,Tryz.ntmps125
  go_upto_region 2 with (go_at_call 171;refine CL.out.mono ?_;rintro e w1 ⟨he,hb⟩;unfold ChosenLE at he;rw [HCL.out] at he;obtain ⟨a,b,ao,n,cap,rfl⟩:=he;have HB:=Hd hb;clear hb)
  have HB1:=Hd (HB.out.alloc HB.out.size (.cells #[.int .i64 a,.string b,.slice ao n cap] 120));have d2:=(H.out.below HB1.out).nc.c2;by_cases h3:s.step=3
  ·rw [h3] at d2;go_wp2
   go_ret;rw [HE.out];exact ⟨rfl,HB1.out⟩
  have e3:(s.step == 3)=false:=by simpa using h3
  have e4:(s.step != 3)=true:=by simpa using h3
  clear h3;go_wp2
  go_ret;rw [HE.out];exact ⟨rfl,HB1.out⟩
 have HCL:=Hd hcl;have HSZ:=Hd (chosenList_sz ok.inv hcl).1;clear hcl h;unfold pv iv at *;go_enter Tryz.func125,Tryz.ntmps125
 go_upto_region 2 with (go_at_call 171;refine CL.out.mono ?_;rintro e w1 ⟨he,hb⟩;unfold ChosenLE at he;rw [HCL.out] at he;obtain ⟨u,rfl,sl,rfl,ao,cap2,rfl,hcap2,hrow2⟩:=he;have HLV:=Hd (show LRow R w1 (.slice ao v.list.length cap2) v.list from ⟨ao,cap2,rfl,hcap2,hrow2⟩);clear hcap2 hrow2;unfold iv;have HB:=Hd hb;clear hb)
 have HB1:=Hd (HB.out.alloc HB.out.size (.cells #[.int .i64 v.round,.string v.dig,.slice ao v.list.length cap2] 120));have HR1:=Hd (World.alloc_heap_new w1 (.cells #[.int .i64 v.round,.string v.dig,.slice ao v.list.length cap2] 120));have HLV1:=Hd (HLV.out.below (fun k hk=>Nat.lt_of_lt_of_le (H.out.lt k hk) HB.out.size) ((Below.refl w1.heap.size w1).alloc (Nat.le_refl _) (.cells #[.int .i64 v.round,.string v.dig,.slice ao v.list.length cap2] 120)));obtain ⟨wm,hwm⟩:∃wm,wm=w1.alloc (.cells #[.int .i64 v.round,.string v.dig,.slice ao v.list.length cap2] 120):=⟨_,rfl⟩;rw [←hwm] at HB1 HR1 HLV1 ⊢;clear hwm;have d2:=(H.out.below HB1.out).nc.c2;have dfz:=(H.out.below HB1.out).nc.fz;by_cases h3:s.step=3
 ·have HE:=Hd (seal_ok HCL.out h3);rw [h3] at d2;have d5:=(H.out.below HB1.out).nc.c5;clear h3 c1 hfz;obtain ⟨g,hg⟩:∃g,g=w1.heap.size:=⟨_,rfl⟩;rw [←hg] at HR1 ⊢;have HGG:=Hd hg;clear hg;have hgl:g<wm.heap.size:=(gE HR1.out).1;have hm1:NodeP (fun k=>R k∨k=g) wm x p s:=(H.out.below HB1.out).mono (fun k hk=>.inl hk) (fun k hk=>by
   rcases hk with hk | hk
   ·exact (H.out.below HB1.out).lt k hk
   subst hk;exact hgl)
  have HNL:=Hd (hm1.put_lock (g:=g) (v:=v) (.inr rfl) HR1.out (HLV1.out.mono (fun k hk=>.inl hk)));have HCG:=Hd (show Chg R w (wm.setCell ⟨x,5,none⟩ (pv g)) from (Chg.of_below HB1.out (fun k q1 q2=>by omega)).trans (Chg.set wm x 5 _ (.inl H.out.mem)));have HGR:=Hd (show Grows R (fun k=>R k∨k=g) w from ⟨fun k hk=>.inl hk,fun k hk=>by
   rcases hk with hk | hk
   ·exact .inl hk
   exact .inr (by rw [hk,HGG.out];exact HB.out.size)⟩)
  have CT:=Hd (cast_any HNL.out (show NumI ({s with lock:=some v}:StB) from ⟨hI.n1,hI.n7,hI.id0,hI.idn,hI.h0,hI.h1,hI.r0,hI.r1,hI.st1,hI.st4,hI.c0,hI.c1,hI.vr,fun v2 e=>by injection e with e;subst e;rw [(chosenList_sz ok.inv HCL.out).2.1];exact ⟨hI.r0,hI.r1⟩⟩) HML.out 5 (.inr rfl) v.dig HSZ.out 4);have v1:=cell_of_row wm g 1 _ _ _ HR1.out;have hne:g≠x:=fun e=>by
   have:=H.out.lt x H.out.mem;have:=HGG.out;have:=HB.out.size;omega
  simp at v1;clear hm1 hgl;unfold pv iv at CT;unfold pv at HNL HCG;go_wp2_with (go_at_call 173;refine CT.out.mono ?_;rintro e w3 ⟨rfl,ht⟩;have HT:=Hd (Turned.trans HCG.out HGR.out ht);clear ht)
  go_ret;rw [HE.out];exact ⟨rfl,HT.out⟩
 have HE:=Hd (seal_bad h3);have e3:(s.step == 3)=false:=by simpa using h3
 have e4:(s.step != 3)=true:=by simpa using h3
 clear h3;go_wp2
 go_ret;rw [HE.out];exact ⟨rfl,HB1.out⟩
end
end
end Go.Proofs.YtifcdjmcoibblaaGreatDoor
