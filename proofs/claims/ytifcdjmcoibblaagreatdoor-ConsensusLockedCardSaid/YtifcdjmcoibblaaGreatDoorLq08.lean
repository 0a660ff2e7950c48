/- Look NC Op1 Box Most Chs -/
import Derived.Test.YtifcdjmcoibblaaGreatDoorLq07
import Derived.BigQuiet
import Derived.Test.YtifcdjmcoibblaaGreatDoorLq01
import Derived.WalkSpells
import Derived.WalkLawsBesides
import Derived.Test.YtifcdjmcoibblaaGreatDoorLq03
import Derived.Sort.Walk0
import Derived.Lib.SlicesS
import Derived.Deep.QuietTactic
import Derived.Deep.DeepCutAuto
import Derived.Deep.RegionLaw
set_option linter.unusedVariables false
set_option linter.unusedSimpArgs false
set_option linter.unusedSectionVars false
set_option maxRecDepth 100000
set_option maxHeartbeats 80000000
namespace Go.Proofs.YtifcdjmcoibblaaGreatDoor
section
open Go.RowKit
theorem zB (w:World):(zeroValue 4).run Tryz.prog w = .ok (.bool false) w:=by kernel_rfl
theorem zI (w:World):(zeroValue 3).run Tryz.prog w = .ok (iv 0) w:=by kernel_rfl
theorem zS (w:World):(zeroValue 9).run Tryz.prog w = .ok (.string (ByteArray.mk #[])) w:=by kernel_rfl
def zQ:Value:=.agg #[iv 0,iv 0]
theorem zQuest (w:World):(zeroValue 165).run Tryz.prog w = .ok zQ w:=by kernel_rfl
theorem zStand (w:World):(zeroValue 179).run Tryz.prog w = .ok zQ w:=by kernel_rfl
def zM:Value:=.agg #[iv 0,iv 0,iv 0,iv 0,iv 0,iv 0,.string (ByteArray.mk #[]),.slice none 0 0]
theorem zMsg (w:World):(zeroValue 36).run Tryz.prog w = .ok zM w:=by kernel_rfl
def zV:Value:=.agg #[iv 0,.string (ByteArray.mk #[]),.slice none 0 0]
theorem zVal (w:World):(zeroValue 120).run Tryz.prog w = .ok zV w:=by kernel_rfl
def memD {κ:Type} [DecidableEq κ] (k:κ) (l:List κ):Bool:=decide (k∈l)
theorem memD_true {κ:Type} [DecidableEq κ] {k:κ} {l:List κ}:memD k l=true↔k∈l:=by simp [memD]
theorem memD_false {κ:Type} [DecidableEq κ] {k:κ} {l:List κ}:memD k l=false↔k∉l:=by simp [memD]
theorem getV_mem {κ:Type} [DecidableEq κ] {e:κ→Value×Value} {ek:κ→Value} (he:∀p,e p=(ek p,.bool true)) (hi:∀a b,ek a=ek b→a=b) (k:κ) (l:List κ):(getV (ek k) (l.map e)).getD (.bool false) = .bool (memD k l):=by
 rw [getV_set he hi k l];unfold memD;by_cases hd:k∈l <;> simp [hd]
theorem encAcc_eq (p:ByteArray):encAcc p=(Value.string p,.bool true):=rfl
theorem encPl_eq (p:Int×Int):encPl p=(plv p,.bool true):=rfl
theorem encSt_eq (p:Int×(Int×Int)):encSt p=(iv p.1,plv p.2):=rfl
theorem encVt_eq (p:Bal×ByteArray):encVt p=(balv p.1,Value.string p.2):=rfl
section
variable {R:Nat→Prop} {w:World} {p:Ptr} {s:StB}
theorem Maps.look_acc (h:Maps R w p s) (d:ByteArray):(Instr.lookup 109 (.map (some p.acc)) (.string d) false).run Tryz.prog w = .ok (.bool (memD d s.acc)) w:=by
 have:=h.acc.lookup (P:=Tryz.prog) keyS Tryz.underlying109 (good_acc w _) ⟨d,rfl⟩ (zB w) false;refine this.trans ?_;rw [←getV_mem (ek:=.string) encAcc_eq str_inj];rfl
theorem Maps.look_made (h:Maps R w p s) (k r:Int):(Instr.lookup 113 (.map (some p.made)) (.agg #[.int .i64 k,.int .i64 r]) false).run Tryz.prog w = .ok (.bool (memD (k,r) s.made)) w:=by
 have:=h.made.lookup (P:=Tryz.prog) keyPlace Tryz.underlying113 (good_pl w _) (x:=plv (k,r)) ⟨k,r,rfl⟩ (zB w) false;refine this.trans ?_;rw [←getV_mem (ek:=plv) encPl_eq plv_inj];rfl
theorem Maps.look_inf (h:Maps R w p s) (k r:Int):(Instr.lookup 107 (.map (some p.inf)) (.agg #[.int .i64 k,.int .i64 r]) false).run Tryz.prog w = .ok (.bool (memD (k,r) s.inf)) w:=by
 have:=h.inf.lookup (P:=Tryz.prog) keyQuest Tryz.underlying107 (good_pl w _) (x:=plv (k,r)) ⟨k,r,rfl⟩ (zB w) false;refine this.trans ?_;rw [←getV_mem (ek:=plv) encPl_eq plv_inj];rfl
theorem Maps.look_stand (h:Maps R w p s) (k:Int):(Instr.lookup 112 (.map (some p.stand)) (.int .i64 k) true).run Tryz.prog w = .ok (.tuple #[plv ((getA k s.stand).getD (0,0)),.bool (getA k s.stand).isSome]) w:=by
 have:=h.stand.lookup (P:=Tryz.prog) keyI Tryz.underlying112 (good_st w _) (x:=iv k) ⟨k,rfl⟩ (zStand w) true;rw [getV_enc (ek:=iv) (ev:=fun _=>plv) encSt_eq iv_inj] at this;refine this.trans ?_;rcases getA k s.stand with _ | q <;> rfl
theorem Maps.look_ques (h:Maps R w p s) (k:Int) (ok:Bool):(Instr.lookup 106 (.map (some p.ques)) (.int .i64 k) ok).run Tryz.prog w = .ok (if ok then .tuple #[plv ((getA k s.ques).getD (0,0)),.bool (getA k s.ques).isSome] else plv ((getA k s.ques).getD (0,0))) w:=by
 have:=h.ques.lookup (P:=Tryz.prog) keyI Tryz.underlying106 (good_st w _) (x:=iv k) ⟨k,rfl⟩ (zQuest w) ok;rw [getV_enc (ek:=iv) (ev:=fun _=>plv) encSt_eq iv_inj] at this;refine this.trans ?_;rcases getA k s.ques with _ | q <;> rfl
theorem Maps.look_votes (h:Maps R w p s) (a b c d:Int):(Instr.lookup 219 (.map (some p.votes)) (.agg #[.int .i64 a,.int .i64 b,.int .i64 c,.int .i64 d]) true).run Tryz.prog w = .ok (.tuple #[.string ((getA (a,b,c,d) s.votes).getD (ByteArray.mk #[])),.bool (getA (a,b,c,d) s.votes).isSome]) w:=by
 have:=h.votes.lookup (P:=Tryz.prog) keyBal Tryz.underlying219 (good_vt w _) (x:=balv (a,b,c,d)) ⟨a,b,c,d,rfl⟩ (zS w) true;rw [getV_enc (ek:=balv) (ev:=fun _=>Value.string) encVt_eq balv_inj] at this;refine this.trans ?_;rcases getA (a,b,c,d) s.votes with _ | q <;> rfl
theorem look_rel {β:Type} {r:Value→β→Prop} {T E:TypeId} (hT:Tryz.prog.underlying T=some (.map 3 E)) {b:Nat} {l:List (Int×β)} (h:∃L,RawMap w b L∧All2 (KRel r) L l) {z:Value} (hz:(zeroValue E).run Tryz.prog w = .ok z w) (k:Int) (ok:Bool) :
  (getA k l=none∧(Instr.lookup T (.map (some b)) (.int .i64 k) ok).run Tryz.prog w = .ok (if ok then .tuple #[z,.bool false] else z) w) ∨
  ∃x v,getA k l=some x∧r v x∧(Instr.lookup T (.map (some b)) (.int .i64 k) ok).run Tryz.prog w = .ok (if ok then .tuple #[v,.bool true] else v) w:=by
 obtain ⟨L,h1,h2⟩:=h;have:=h1.lookup (P:=Tryz.prog) keyI hT (good_rel w h2) (x:=iv k) ⟨k,rfl⟩ hz ok;rcases getV_rel k h2 with ⟨e1,e2⟩ | ⟨v,x,e1,e2,e3⟩
 ·rw [e1] at this;exact .inl ⟨e2,this⟩
 rw [e1] at this;exact .inr ⟨x,v,e2,e3,this⟩
theorem Maps.look_props (h:Maps R w p s) (k:Int) (ok:Bool):(getA k s.props=none∧(Instr.lookup 110 (.map (some p.props)) (.int .i64 k) ok).run Tryz.prog w = .ok (if ok then .tuple #[zM,.bool false] else zM) w) ∨
  ∃x v,getA k s.props=some x∧MsgV R w v x∧(Instr.lookup 110 (.map (some p.props)) (.int .i64 k) ok).run Tryz.prog w = .ok (if ok then .tuple #[v,.bool true] else v) w:=
 look_rel Tryz.underlying110 h.props (zMsg w) k ok
theorem Maps.look_claims (h:Maps R w p s) (k:Int) (ok:Bool):(getA k s.claims=none∧(Instr.lookup 110 (.map (some p.claims)) (.int .i64 k) ok).run Tryz.prog w = .ok (if ok then .tuple #[zM,.bool false] else zM) w) ∨
  ∃x v,getA k s.claims=some x∧MsgV R w v x∧(Instr.lookup 110 (.map (some p.claims)) (.int .i64 k) ok).run Tryz.prog w = .ok (if ok then .tuple #[v,.bool true] else v) w:=
 look_rel Tryz.underlying110 h.claims (zMsg w) k ok
theorem Maps.look_decs (h:Maps R w p s) (k:Int) (ok:Bool):(getA k s.decs=none∧(Instr.lookup 105 (.map (some p.decs)) (.int .i64 k) ok).run Tryz.prog w = .ok (if ok then .tuple #[zV,.bool false] else zV) w) ∨
  ∃x v,getA k s.decs=some x∧ValV R w v x∧(Instr.lookup 105 (.map (some p.decs)) (.int .i64 k) ok).run Tryz.prog w = .ok (if ok then .tuple #[v,.bool true] else v) w:=
 look_rel Tryz.underlying105 h.decs (zVal w) k ok
end
end
section
open Go.RowKit
structure NC (w:World) (x:Nat) (p:Ptr) (s:StB):Prop where
 c0:w.cell? ⟨x,0,none⟩=some (.int .i64 s.height)
 c1:w.cell? ⟨x,1,none⟩=some (.int .i64 s.round)
 c2:w.cell? ⟨x,2,none⟩=some (.int .i64 s.step)
 c3:w.cell? ⟨x,3,none⟩=some (.int .i64 s.clock)
 c4:w.cell? ⟨x,4,none⟩=some (.int .i64 s.ticks)
 c5:w.cell? ⟨x,5,none⟩=some (po p.lock)
 c6:w.cell? ⟨x,6,none⟩=some (po p.valid)
 c7:w.cell? ⟨x,7,none⟩=some (po p.own)
 c8:w.cell? ⟨x,8,none⟩=some (.map (some p.acc))
 c9:w.cell? ⟨x,9,none⟩=some (.map (some p.props))
 c10:w.cell? ⟨x,10,none⟩=some (.map (some p.claims))
 c11:w.cell? ⟨x,11,none⟩=some p.order
 c12:w.cell? ⟨x,12,none⟩=some (.pointer (some ⟨p.box,0,none⟩))
 c13:w.cell? ⟨x,13,none⟩=some (.map (some p.stand))
 c14:w.cell? ⟨x,14,none⟩=some p.mine
 c15:w.cell? ⟨x,15,none⟩=some (.map (some p.made))
 c16:w.cell? ⟨x,16,none⟩=some (.int .i64 s.id)
 c17:w.cell? ⟨x,17,none⟩=some (.int .i64 s.n)
 c18:w.cell? ⟨x,18,none⟩=some (.map (some p.decs))
 c19:w.cell? ⟨x,19,none⟩=some (.map (some p.ques))
 c20:w.cell? ⟨x,20,none⟩=some (.map (some p.inf))
 fz:∀o,w.frozen? ⟨x,o,none⟩=false
theorem NodeP.nc {R:Nat→Prop} {w:World} {x:Nat} {p:Ptr} {s:StB} (h:NodeP R w x p s):NC w x p s:=
 ⟨h.c rfl,h.c rfl,h.c rfl,h.c rfl,h.c rfl,h.c rfl,h.c rfl,h.c rfl,h.c rfl,h.c rfl,h.c rfl,h.c rfl,h.c rfl,h.c rfl,h.c rfl,h.c rfl,h.c rfl,h.c rfl,h.c rfl,h.c rfl,h.c rfl,h.fz⟩
theorem heap_setC {W:World} {b o:Nat} {cs:Array Value} {t:TypeId} {fr:Nat×Nat} (h:W.heap[b]?=some (.cells cs t fr)) (v:Value):(W.setCell ⟨b,o,none⟩ v).heap[b]?=some (.cells (cs.setIfInBounds o v) t fr):=by
 obtain ⟨hlt,hg⟩:=gE h;simp [World.setCell,hlt,Array.getElem_modify,hg]
theorem Maps.same {R:Nat→Prop} {w:World} {p p':Ptr} {s s':StB} (h:Maps R w p s) (e:p'.maps=p.maps:=by rfl) (e0:(p'.acc,p'.props,p'.claims,p'.votes,p'.stand,p'.made,p'.decs,p'.ques,p'.inf)=(p.acc,p.props,p.claims,p.votes,p.stand,p.made,p.decs,p.ques,p.inf):=by rfl)
  (e1:(s'.acc,s'.props,s'.claims,s'.votes,s'.stand,s'.made,s'.decs,s'.ques,s'.inf)=(s.acc,s.props,s.claims,s.votes,s.stand,s.made,s.decs,s.ques,s.inf):=by rfl):Maps R w p' s':=by
 simp only [Prod.mk.injEq] at e0 e1;obtain ⟨a1,a2,a3,a4,a5,a6,a7,a8,a9⟩:=e0;obtain ⟨b1,b2,b3,b4,b5,b6,b7,b8,b9⟩:=e1;exact ⟨by rw [a1,b1];exact h.acc,by rw [a2,b2];exact h.props,by rw [a3,b3];exact h.claims,by rw [a4,b4];exact h.votes,by rw [a5,b5];exact h.stand,by rw [a6,b6];exact h.made,by rw [a7,b7];exact h.decs,by rw [a8,b8];exact h.ques,by rw [a9,b9];exact h.inf,by rw [e];exact h.nd,by rw [e];exact h.own⟩
theorem Rest.same {R:Nat→Prop} {w:World} {p p':Ptr} {s s':StB} (h:Rest R w p s) (e0:(p'.box,p'.votes,p'.lock,p'.valid,p'.own,p'.order,p'.mine)=(p.box,p.votes,p.lock,p.valid,p.own,p.order,p.mine):=by rfl)
  (e1:(s'.n,s'.lock,s'.valid,s'.own,s'.order,s'.mine)=(s.n,s.lock,s.valid,s.own,s.order,s.mine):=by rfl):Rest R w p' s':=by
 simp only [Prod.mk.injEq] at e0 e1;obtain ⟨a1,a2,a3,a4,a5,a6,a7⟩:=e0;obtain ⟨b1,b2,b3,b4,b5,b6⟩:=e1;exact ⟨by rw [a1,a2,b1];exact h.box,by rw [a3,b2];exact h.lock,by rw [a4,b3];exact h.valid,by rw [a5,b4];exact h.own,by rw [a6,b5];exact h.order,by rw [a7,b6];exact h.mine⟩
theorem NodeP.set {R:Nat→Prop} {w:World} {x:Nat} {p p':Ptr} {s s':StB} (h:NodeP R w x p s) (i:Nat) (v:Value) (hrow:(nodeRow s p).setIfInBounds i v=nodeRow s' p')
  (hm:∀w2,Maps R w2 p s→Maps R w2 p' s') (hr:∀w2,Rest R w2 p s→Rest R w2 p' s'):NodeP R (w.setCell ⟨x,i,none⟩ v) x p' s':=by
 have hk:∀k,k≠x→(w.setCell ⟨x,i,none⟩ v).heap[k]?=w.heap[k]?:=fun k hk=>by
  simp [World.setCell,Array.getElem?_modify,Ne.symm hk]
 have hne:∀g cur t fr,R g→w.heap[g]?=some (.cells cur t fr)→t≠117→(w.setCell ⟨x,i,none⟩ v).heap[g]?=w.heap[g]?:=fun g cur t fr _ hg ht=>hk g (fun e=>by
  subst e;rw [h.node] at hg;injection hg with hg;injection hg with _ hg _;exact ht hg.symm)
 refine ⟨by rw [←hrow];exact heap_setC h.node v,h.mem,hm _ (h.maps.kept (fun b hb=>hk b (fun e=>?_)) (fun g cur fr hr hg=>hne g cur _ fr hr hg (by decide))),hr _ (h.rest.kept hne),fun k hk=>by simpa [World.setCell] using h.lt k hk⟩;obtain ⟨es,c,hb'⟩:=h.maps.isMap b hb;subst e;rw [h.node] at hb';cases hb'
theorem Chg.set {C:Nat→Prop} (w:World) (x i:Nat) (v:Value) (h:C x):Chg C w (w.setCell ⟨x,i,none⟩ v):=by
 refine ⟨rfl,rfl,rfl,by simp [World.setCell],fun k hk hn=>?_⟩;have:x≠k:=fun e=>hn (e ▸ h);simp [World.setCell,Array.getElem?_modify,this]
def Grows (R R':Nat→Prop) (w:World):Prop:=(∀k,R k→R' k)∧∀k,R' k→R k∨w.heap.size≤k
theorem Grows.refl (R:Nat→Prop) (w:World):Grows R R w:=⟨fun _ h=>h,fun _ h=>.inl h⟩
theorem Grows.trans {R R' R'':Nat→Prop} {w w':World} (h:Grows R R' w) (h2:Grows R' R'' w') (hs:w.heap.size≤w'.heap.size):Grows R R'' w:=
 ⟨fun k hk=>h2.1 k (h.1 k hk),fun k hk=>by
  rcases h2.2 k hk with q | q
  ·exact h.2 k q
  exact .inr (Nat.le_trans hs q)⟩
def Turned (R:Nat→Prop) (w:World) (x:Nat) (s':StB) (w':World):Prop:=∃p' R',NodeP R' w' x p' s'∧Chg R w w'∧Grows R R' w
theorem Turned.of {R:Nat→Prop} {w w':World} {x:Nat} {p:Ptr} {s':StB} (h:NodeP R w' x p s') (hc:Chg R w w'):Turned R w x s' w':=⟨p,R,h,hc,Grows.refl R w⟩
theorem Turned.trans {R R1:Nat→Prop} {w w1 w2:World} {x:Nat} {s':StB} (hc:Chg R w w1) (hg:Grows R R1 w) (h:Turned R1 w1 x s' w2):Turned R w x s' w2:=by
 obtain ⟨p,R',h1,h2,h3⟩:=h;exact ⟨p,R',h1,hc.trans (h2.mono (fun k _ hk=>by rcases hg.2 k hk with q | q;exact .inl q;exact .inr (by
  have:=hc.size;exact Nat.le_of_not_lt (fun q2=>by omega)))),hg.trans h3 hc.size⟩
end
section
open Go.RowKit
theorem faults_any (n:Int) (w:World) (h1:1≤n) (h7:n≤7):Calls Tryz.prog 167 #[.int .i64 n] w fun e w'=>e = .returned (.int .i64 (faultsN n))∧w'=w:=by
 have q1:decide (n<1)=false:=by simpa using h1
 have q2:decide (7<n)=false:=by simpa using h7
 have q3:(n - 1).tdiv 3=faultsN n:=by unfold faultsN;rw [Int.tdiv_eq_ediv_of_nonneg (by omega)]
 have hf:0≤faultsN n∧faultsN n≤2:=by unfold faultsN;omega
 go_enter Tryz.func167,Tryz.ntmps167
 go_wp2
 go_ret;exact ⟨rfl,rfl⟩
theorem quorum_any (n:Int) (w:World) (h1:1≤n) (h7:n≤7):Calls Tryz.prog 113 #[.int .i64 n] w fun e w'=>e = .returned (.int .i64 (quorumN n))∧w'=w:=by
 have H:=Hd (faults_any n w h1 h7);have q1:decide (n<1)=false:=by simpa using h1
 have q2:decide (7<n)=false:=by simpa using h7
 have hf:0≤faultsN n∧faultsN n≤2:=by unfold faultsN;omega
 go_enter Tryz.func113,Tryz.ntmps113
 go_wp2_with fail
 refine (H.out).mono ?_;rintro _ _ ⟨rfl,rfl⟩;go_wp2
 go_ret;exact ⟨rfl,rfl⟩
section
variable {R:Nat→Prop} {w:World} {x:Nat} {p:Ptr} {s:StB}
theorem isDecided_any (h:NodeP R w x p s) (k:Int):Calls Tryz.prog 63 #[pv x,iv k] w fun e w'=>e = .returned (.bool (s.isDec k))∧Below w.heap.size w w':=by
 have c18:=h.nc.c18;have hfz:=h.nc.fz;rcases h.maps.look_decs k true with ⟨e,hl⟩ | ⟨v,u,e,hv,hl⟩
 ·have HE:=Hd (show s.isDec k=false from by unfold NS.isDec;rw [e];rfl);clear h e;unfold zV iv at hl;unfold pv iv;go_enter Tryz.func63,Tryz.ntmps63
  go_wp2
  go_ret;rw [HE.out];exact ⟨rfl,by repeat (first | exact Below.refl _ _ | refine below_drewN ?_ _ | refine Below.alloc ?_ (by simp) _ | refine Below.drew ?_)⟩
 have HE:=Hd (show s.isDec k=true from by unfold NS.isDec;rw [e];rfl);obtain ⟨sl,rfl,ao,cap,rfl,_⟩:=hv;clear h e;unfold iv at hl;unfold pv iv;go_enter Tryz.func63,Tryz.ntmps63
 go_wp2
 go_ret;rw [HE.out];exact ⟨rfl,by repeat (first | exact Below.refl _ _ | refine below_drewN ?_ _ | refine Below.alloc ?_ (by simp) _ | refine Below.drew ?_)⟩
theorem isProposer_any (h:NodeP R w x p s) (site k r:Int) (hn:1≤s.n) (hk:0≤k∧k≤1000000) (hr:0≤r∧r≤1000000):Calls Tryz.prog 76 #[pv x,iv site,iv k,iv r] w fun e w'=>e = .returned (.bool (s.proposer site k r))∧w'=w:=by
 have c17:=h.nc.c17;have hfz:=h.nc.fz;have q1:(s.n == 0)=false:=by simp;omega
 have q2:(k+r).tmod s.n=(k+r) % s.n:=Int.tmod_eq_emod_of_nonneg (by omega);have HE:=Hd (show s.proposer site k r=((k+r) % s.n == site) from by unfold NS.proposer;rw [Bool.beq_eq_decide_eq]);obtain ⟨hk1,hk2⟩:=hk;obtain ⟨hr1,hr2⟩:=hr;obtain ⟨n,hn'⟩:∃n,n=s.n:=⟨_,rfl⟩;rw [←hn'] at *;clear h hn';unfold pv iv;go_enter Tryz.func76,Tryz.ntmps76
 go_wp2
 go_ret;rw [HE.out];exact ⟨rfl,rfl⟩
theorem isLate_any (h:NodeP R w x p s) (hr:0≤s.round∧s.round≤1000000):Calls Tryz.prog 175 #[pv x] w fun e w'=>e = .returned (.bool s.late)∧Below w.heap.size w w':=by
 have c1:=h.nc.c1;have c3:=h.nc.c3;have hfz:=h.nc.fz;have HE:=Hd (show s.late=decide (12 * (s.round+1)≤s.clock) from rfl);obtain ⟨hr1,hr2⟩:=hr;obtain ⟨r,hr'⟩:∃n,n=s.round:=⟨_,rfl⟩;obtain ⟨c,hc'⟩:∃n,n=s.clock:=⟨_,rfl⟩;rw [←hr',←hc'] at *;clear h hr' hc';unfold pv;go_enter Tryz.func175,Tryz.ntmps175
 go_wp2_with fail
 go_quiet (fail)
 go_wp2
 go_ret;rw [HE.out];exact ⟨rfl,by repeat (first | exact Below.refl _ _ | refine below_drewN ?_ _ | refine Below.alloc ?_ (by simp) _ | refine Below.drew ?_)⟩
theorem enter_any (h:NodeP R w x p s) (k:Int):Calls Tryz.prog 177 #[pv x,iv k] w fun e w'=>e = .returned (.tuple #[])∧Turned R w x (s.enter k) w':=by
 have hfz:=h.nc.fz;have c2:=h.nc.c2;have c3:=h.nc.c3;have H:=Hd h;clear h;unfold pv iv;go_enter Tryz.func177,Tryz.ntmps177
 go_wp2
 refine bodyPost_end (results_none rfl _ _ _) rfl ?_;have h1:=H.out.set (s':={s with step:=k}) (p':=p) 2 (iv k) rfl (fun _ h=>h.same) (fun _ h=>h.same);have h2:=h1.set (s':=s.enter k) (p':=p) 3 (iv 0) rfl (fun _ h=>h.same) (fun _ h=>h.same);exact ⟨rfl,.of h2 ((Chg.set w x 2 (iv k) H.out.mem).trans ((Chg.set _ x 3 (iv 0) H.out.mem).mono (fun _ _ h=>.inl h)))⟩
end
end
section
open Go.RowKit
def encCt (p:ByteArray×Int):Value×Value:=(.string p.1,iv p.2)
theorem encCt_eq (p:ByteArray×Int):encCt p=(Value.string p.1,iv p.2):=rfl
theorem good_ct (w:World) (l:List (ByteArray×Int)):KeysGood goodS w (l.map encCt):=by
 intro p hp;obtain ⟨x,_,rfl⟩:=List.mem_map.1 hp;exact ⟨_,rfl⟩
theorem look_ct {w:World} {b:Nat} {l:List (ByteArray×Int)} (h:RawMap w b (l.map encCt)) (d:ByteArray):(Instr.lookup 224 (.map (some b)) (.string d) false).run Tryz.prog w = .ok (.int .i64 ((getA d l).getD 0)) w:=by
 have:=h.lookup (P:=Tryz.prog) keyS Tryz.underlying224 (good_ct w _) (x:=.string d) ⟨d,rfl⟩ (zI w) false;rw [getV_enc (ek:=.string) (ev:=fun _=>iv) encCt_eq str_inj] at this;refine this.trans ?_;rcases getA d l with _ | q <;> rfl
theorem countsL_snoc (l:List ByteArray) (d:ByteArray):countsL (l ++ [d])=putA d ((getA d (countsL l)).getD 0+1) (countsL l):=by
 unfold countsL;rw [List.foldl_append];rfl
theorem voters_succ (k:Nat) (votes:List (Bal×ByteArray)) (a b c:Int):voters (k+1) votes a b c=voters k votes a b c ++ (match getA ((k:Int),a,b,c) votes with | some d=>[d] | none=>[]):=by
 unfold voters;rw [List.range_succ,List.filterMap_append];congr 1
 rcases h:getA ((k:Int),a,b,c) votes with _ | d <;> simp [h]
theorem counts_le {D:Type} [Dg D] (l:List D) (d:D):0≤(getA d (countsL l)).getD 0∧(getA d (countsL l)).getD 0≤(l.length:Int):=by
 rw [counts_get];split
 ·simp;exact List.count_le_length
 simp
theorem voters_len (k:Nat) (votes:List (Bal×ByteArray)) (a b c:Int):(voters k votes a b c).length≤k:=by
 unfold voters;exact Nat.le_trans (List.length_filterMap_le _ _) (by simp)
structure BoxAt (w:World) (bx vb:Nat) (n:Int) (votes:List (Bal×ByteArray)):Prop where
 cell:w.heap[bx]?=some (.cells #[iv n,mv vb] 221 (0,0))
 map:RawMap w vb (votes.map encVt)
theorem BoxAt.below {w w':World} {bx vb:Nat} {n:Int} {votes:List (Bal×ByteArray)} (h:BoxAt w bx vb n votes) (hb:Below w.heap.size w w'):BoxAt w' bx vb n votes:=
 ⟨(hb.block bx (gE h.cell).1).trans h.cell,h.map.kept (hb.block vb h.map.lt)⟩
theorem BoxAt.look {w:World} {bx vb:Nat} {n:Int} {votes:List (Bal×ByteArray)} (h:BoxAt w bx vb n votes) (a b c d:Int):(Instr.lookup 219 (.map (some vb)) (.agg #[.int .i64 a,.int .i64 b,.int .i64 c,.int .i64 d]) true).run Tryz.prog w = .ok (.tuple #[.string ((getA (a,b,c,d) votes).getD (ByteArray.mk #[])),.bool (getA (a,b,c,d) votes).isSome]) w:=by
 have:=h.map.lookup (P:=Tryz.prog) keyBal Tryz.underlying219 (good_vt w _) (x:=balv (a,b,c,d)) ⟨a,b,c,d,rfl⟩ (zS w) true;rw [getV_enc (ek:=balv) (ev:=fun _=>Value.string) encVt_eq balv_inj] at this;refine this.trans ?_;rcases getA (a,b,c,d) votes with _ | q <;> rfl
theorem NodeP.boxAt {R:Nat→Prop} {w:World} {x:Nat} {p:Ptr} {s:StB} (h:NodeP R w x p s):BoxAt w p.box p.votes s.n s.votes:=⟨h.rest.box.2,h.maps.votes⟩
theorem RawMap.fresh {w:World} {b:Nat} {L:List (Value×Value)} (h:RawMap w b L):∀k,w.heap.size≤k→b≠k:=fun k hk e=>by have:=h.lt;omega
theorem below_put {B:Nat} {a w:World} (h:Below B a w) {b:Nat} (hb:B≤b) (o:Obj):Below B a (w.putObj b o):=
 h.trans ⟨rfl,rfl,rfl,by simp [World.putObj],fun k hk=>World.putObj_heap_other (by omega)⟩
theorem counts_any {w:World} {bx vb:Nat} {n:Int} {votes:List (Bal×ByteArray)} (h:BoxAt w bx vb n votes) (h1:0≤n) (h7:n≤7) (kind height round:Int) :
  Calls Tryz.prog 221 #[pv bx,iv kind,iv height,iv round] w fun e w'=>e = .returned (.map (some w.heap.size))∧RawMap w' w.heap.size ((countsL (voters n.toNat votes kind height round)).map encCt)∧Below w.heap.size w w':=by
 have hmm:=@run_makeMap Tryz.prog;have H:=Hd h;have HB:=Hd (gE h.cell).1;have HM:=Hd (RawMap.made w);clear h;unfold pv iv;go_enter Tryz.func221,Tryz.ntmps221
 go_wp2
 go_loopw [10,11,12] (fun i _ _ wr=>∃k:Nat,(k:Int)≤n∧i = .int .i64 (k:Int)∧Below w.heap.size w wr∧w.heap.size<wr.heap.size∧RawMap wr w.heap.size ((countsL (voters k votes kind height round)).map encCt)) (fun i _ _ _=>n.toNat - (intOf i).toNat)
 case atStart=>exact ⟨0,by omega,rfl,(Below.refl _ _).alloc (Nat.le_refl _) _,by simp,HM.out⟩
 case round=>
  obtain ⟨k,hk,rfl,hb,hsz,hm⟩:=hrel;have HBX:=Hd (show BoxAt wr bx vb n votes from H.out.below hb);have c0:=cell_of_row wr bx 0 _ _ _ HBX.out.cell;have c1:=cell_of_row wr bx 1 _ _ _ HBX.out.cell;have f0:=frozen_of_row wr bx 0 _ _ HBX.out.cell;have f1:=frozen_of_row wr bx 1 _ _ HBX.out.cell;simp [iv,mv] at c0 c1;have HB2:=Hd hb;have HS2:=Hd hsz;have HM2:=Hd hm;clear hb hsz hm;have hlk:=HBX.out.look (k:Int) kind height round;by_cases hlt:(k:Int)<n
  ·rcases hg:getA ((k:Int),kind,height,round) votes with _ | d
   ·rw [hg] at hlk;simp at hlk;have HV:=Hd (show voters (k+1) votes kind height round=voters k votes kind height round from by rw [voters_succ,hg];simp);clear hg;go_wp2
    go_roundw
    case rel=>exact ⟨k+1,by omega,by simp,HB2.out,HS2.out,by rw [HV.out];exact HM2.out⟩
    case measure=>simp [intOf];omega
   rw [hg] at hlk;simp at hlk;have HV:=Hd (show voters (k+1) votes kind height round=voters k votes kind height round ++ [d] from by rw [voters_succ,hg]);clear hg;have hl2:=look_ct HM2.out d;have hle:=counts_le (voters k votes kind height round) d;have hvl:=voters_len k votes kind height round;obtain ⟨c,hc⟩:∃c,c=(getA d (countsL (voters k votes kind height round))).getD 0:=⟨_,rfl⟩;have HC:=Hd hc;rw [←hc] at hl2 hle;obtain ⟨hl0,hle⟩:=hle;have hl7:c≤7:=by omega
   clear hc hle hvl;go_wp2_with (refine wpList_mapUpdate_raw _ rfl (.tmp 40) (.tmp 41) (.tmp 43) 224 (by rfl) 9 3 Tryz.underlying224 keyS w.heap.size _ (by rfl) HM2.out (good_ct _ _) (.string d) (.int .i64 (c+1)) (by rfl) (by rfl) ⟨d,rfl⟩ ?_;intro ob hob;have HO:=Hd hob;clear hob)
   go_roundw
   case rel=>
    refine ⟨k+1,by omega,by simp,below_put HB2.out (Nat.le_refl _) ob,by have:=HS2.out;simpa [World.putObj] using this,?_⟩;rw [HV.out,countsL_snoc,←HC.out];have:=HO.out;rwa [show (Value.int .i64 (c+1))=iv (c+1) from rfl,putV_enc (ek:=.string) (ev:=fun _=>iv) encCt_eq str_inj] at this
   case measure=>simp [intOf];omega
  have e:k=n.toNat:=by omega
  have HK:=Hd e;clear e;go_wp2
  go_ret;rw [←HK.out];exact ⟨rfl,HM2.out,HB2.out⟩
end
section
open Go.RowKit
theorem lt_def (a b:ByteArray):Dg.lt a b=Op.bytesLess a.toList b.toList:=rfl
theorem toList_inj {a b:ByteArray} (h:a.toList=b.toList):a=b:=(Lib.bytes_beq_iff a b).1 (by simp [h])
instance:DgL ByteArray where
 irr a:=by rw [lt_def,bytesLess_eq];simp
 trans a b c:=by
  rw [lt_def,lt_def,lt_def,bytesLess_eq,bytesLess_eq,bytesLess_eq];simp only [decide_eq_true_eq];exact List.lt_trans
 tri a b:=by
  rw [lt_def,lt_def,bytesLess_eq,bytesLess_eq];simp only [decide_eq_false_iff_not,List.not_lt];intro h1 h2;exact toList_inj (List.le_antisymm h2 h1)
def cntD {D:Type} [Dg D] (l:List D) (d:D):Int:=(l.count d:Int)
theorem cntD_get {D:Type} [Dg D] (l:List D) (d:D):(getA d (countsL l)).getD 0=cntD l d:=by
 rw [counts_get];unfold cntD;split
 ·rfl
 rename_i h;simp [List.count_eq_zero.2 h]
theorem RawRange.left_len {w:World} {b r:Nat} {L left:List (Value×Value)} (h:RawRange w b r L left):w.rangeLeft b r=left.length:=by
 obtain ⟨es,clk,since,seen,c0,h1,_,_,_,h5,_,_,_,rfl⟩:=h;unfold World.rangeLeft;rw [h1,h5];simp only [List.length_map];unfold leftOf;rw [←Array.length_toList,Array.toList_filter]
section
variable {w:World} {bx vb:Nat} {n:Int} {votes:List (Bal×ByteArray)}
theorem count_any (h:BoxAt w bx vb n votes) (h1:0≤n) (h7:n≤7) (kind height round:Int) (d:ByteArray) :
  Calls Tryz.prog 174 #[pv bx,iv kind,iv height,iv round,.string d] w fun e w'=>e = .returned (.int .i64 (cntD (voters n.toNat votes kind height round) d))∧Below w.heap.size w w':=by
 have H:=Hd (counts_any h h1 h7 kind height round);clear h;unfold pv iv at *;rw [←cntD_get];go_enter Tryz.func174,Tryz.ntmps174
 go_wp2_with fail
 refine (H.out).mono ?_;rintro _ w1 ⟨rfl,hm,hb⟩;have HB:=Hd hb;have hl:=look_ct hm d;clear hb hm;go_wp2
 go_ret;exact ⟨rfl,HB.out⟩
theorem map_split {α β:Type} {f:α→β} {lf:List α} {pre post:List β} {k:β} (h:lf.map f=pre ++ k :: post):∃lp q lq,lf=lp ++ q :: lq∧f q=k∧lp.map f=pre∧lq.map f=post:=by
 induction pre generalizing lf with
 | nil=>
  cases lf with
  | nil=>simp at h
  | cons a l=>simp at h;exact ⟨[],a,l,rfl,h.1,rfl,h.2⟩
 | cons b pre ih=>
  cases lf with
  | nil=>simp at h
  | cons a l=>
   simp at h;obtain ⟨lp,q,lq,e1,e2,e3,e4⟩:=ih h.2;exact ⟨a :: lp,q,lq,by simp [e1],e2,by simp [h.1,e3],e4⟩
structure MostI (C:List (ByteArray×Int)) (w:World) (m it:Nat) (b:ByteArray×Int) (lf:List (ByteArray×Int)) (wr:World):Prop where
 rng:RawRange wr m it (C.map encCt) (lf.map encCt)
 dn:∃dn,(dn ++ lf).Perm C∧b=dn.foldl bst (ByteArray.mk #[],0)
 bel:Below w.heap.size w wr
 it:w.heap.size≤it
theorem MostI.next {C:List (ByteArray×Int)} {w wr w2:World} {m it:Nat} {b:ByteArray×Int} {lf:List (ByteArray×Int)} (h:MostI C w m it b lf wr) {k v:Value} {pre post:List (Value×Value)} (hl:lf.map encCt=pre ++ (k,v) :: post) (hr:RawRange w2 m it (C.map encCt) (pre ++ post)) (hg:wr.grownBy w2 (some it)) :
  ∃(d:ByteArray) (c:Int) (lf':List (ByteArray×Int)),k = .string d∧v = .int .i64 c∧lf.length=lf'.length+1∧MostI C w m it (bst b (d,c)) lf' w2∧(d,c)∈C:=by
 obtain ⟨lp,⟨d,c⟩,lq,rfl,e2,rfl,rfl⟩:=map_split hl;obtain ⟨dn,h1,h2⟩:=h.dn;cases e2;refine ⟨d,c,lp ++ lq,rfl,rfl,by simp;omega,⟨by rw [List.map_append];exact hr,⟨dn ++ [(d,c)],?_,by rw [List.foldl_append,←h2];rfl⟩,h.bel.grown hg (by have:=h.bel.size;exact this) (fun k e=>by cases e;exact h.it),h.it⟩,h1.mem_iff.1 (by simp)⟩;refine List.Perm.trans ?_ h1;rw [List.append_assoc];exact List.Perm.append_left dn (by simpa using (List.perm_middle (a:=(d,c)) (l₁:=lp) (l₂:=lq)).symm)
theorem mostB_any (h:BoxAt w bx vb n votes) (h1:0≤n) (h7:n≤7) (kind height round:Int) :
  Calls Tryz.prog 172 #[pv bx,iv kind,iv height,iv round] w fun e w'=>e = .returned (.tuple #[.string (mostL (voters n.toNat votes kind height round)).1,.int .i64 (mostL (voters n.toNat votes kind height round)).2])∧Below w.heap.size w w':=by
 have H:=Hd (counts_any h h1 h7 kind height round);clear h;unfold pv iv at *;obtain ⟨vs,hvs⟩:∃vs,voters n.toNat votes kind height round=vs:=⟨_,rfl⟩;rw [hvs] at H ⊢;clear hvs;go_enter Tryz.func172,Tryz.ntmps172
 go_wp2_with fail
 refine (H.out).mono ?_;rintro _ w1 ⟨rfl,hm,hb⟩;have HM:=Hd hm;have HB:=Hd hb;clear hm hb;obtain ⟨m,hmm⟩:∃m,w.heap.size=m:=⟨_,rfl⟩;rw [hmm] at HM ⊢;have HMM:=Hd hmm;clear hmm;go_wp2_with (at_range;go_loud (refine wpList_range_raw _ rfl (.tmp 18) 224 (by rfl) 9 3 Tryz.underlying224 m _ (by rfl) HM.out ?_;intro ob hob;have S0:=Hd (show MostI (countsL vs) w m w1.heap.size (ByteArray.mk #[],0) (countsL vs) (w1.alloc ob) from ⟨hob,⟨[],List.Perm.refl _,rfl⟩,HB.out.alloc HB.out.size _,HB.out.size⟩);clear hob))
 obtain ⟨it,hit⟩:∃it,w1.heap.size=it:=⟨_,rfl⟩;rw [hit] at S0 ⊢;clear hit;go_frame
 go_loopw [10,11,12,13] (fun b c _ _ wr=>∃bd bc lf,b = .string bd∧c = .int .i64 bc∧MostI (countsL vs) w m it (bd,bc) lf wr) (fun _ _ _ _ wr=>wr.rangeLeft m it)
 case atStart=>exact ⟨_,_,_,rfl,rfl,S0.out⟩
 case round=>
  obtain ⟨bd,bc,lf,rfl,rfl,hr⟩:=hrel;have RR:=Hd hr;have RNG:=Hd hr.rng;have LEN:=Hd hr.rng.left_len;clear hr;obtain ⟨LL,hLL⟩:∃LL,LL=lf.map encCt:=⟨_,rfl⟩;obtain ⟨CC,hCC⟩:∃CC,CC=(countsL vs).map encCt:=⟨_,rfl⟩;rw [←hLL,←hCC] at RNG;have HLC:=Hd (And.intro hLL hCC);clear hLL hCC;go_wp2_with (at_next;refine wpList_next_raw _ rfl (.tmp 19) (by rfl) m it CC LL (by rfl) RNG.out ?_ ?_)
  ·intro hl;have hl2:lf = []:=by rw [HLC.out.1] at hl;simpa using hl
   subst hl2;go_wp2
   go_ret2
   obtain ⟨dn,p1,p2⟩:=RR.out.dn;rw [List.append_nil] at p1;have:=most_any vs p1;rw [←show (bd,bc)=mostL vs from p2.trans this];rw [HMM.out.symm];exact ⟨rfl,RR.out.bel⟩
  intro k v pre post w2 hl hm hr2 hg2 hs2 hen2;rw [HLC.out.2] at hr2;obtain ⟨d,c,lf',rfl,rfl,hll,hnx,hmem⟩:=RR.out.next (HLC.out.1.symm.trans hl) hr2 hg2;have NX:=Hd hnx;have HLL:=Hd hll;clear hl hm hr2 hg2 hs2 hll hnx hmem;by_cases g1:bc<c
  ·have BE:=Hd (show bst (bd,bc) (d,c)=(d,c) from if_pos (.inl g1));go_wp2
   go_roundw
   case rel=>have:=NX.out;rw [BE.out] at this;exact ⟨_,_,_,rfl,rfl,this⟩
   case measure=>rw [NX.out.rng.left_len,LEN.out,List.length_map,List.length_map,HLL.out];omega
  by_cases g2:c=bc
  ·subst g2;rcases g3:Op.bytesLess d.toList bd.toList with _ | _
   ·have BE:=Hd (show bst (bd,c) (d,c)=(bd,c) from if_neg (by rintro (q | q);exact g1 q;have:=q.2;rw [lt_def] at this;rw [g3] at this;cases this));go_wp2
    go_roundw
    case rel=>have:=NX.out;rw [BE.out] at this;exact ⟨_,_,_,rfl,rfl,this⟩
    case measure=>rw [NX.out.rng.left_len,LEN.out,List.length_map,List.length_map,HLL.out];omega
   have BE:=Hd (show bst (bd,c) (d,c)=(d,c) from if_pos (.inr ⟨rfl,g3⟩));go_wp2
   go_roundw
   case rel=>have:=NX.out;rw [BE.out] at this;exact ⟨_,_,_,rfl,rfl,this⟩
   case measure=>rw [NX.out.rng.left_len,LEN.out,List.length_map,List.length_map,HLL.out];omega
  have BE:=Hd (show bst (bd,bc) (d,c)=(bd,bc) from if_neg (by rintro (q | q);exact g1 q;exact g2 q.1));have g4:(c == bc)=false:=by simpa using g2
  go_wp2
  go_roundw
  case rel=>have:=NX.out;rw [BE.out] at this;exact ⟨_,_,_,rfl,rfl,this⟩
  case measure=>rw [NX.out.rng.left_len,LEN.out,List.length_map,List.length_map,HLL.out];omega
end
end
section
open Go.RowKit
theorem NodeP.drew {R:Nat→Prop} {w:World} {x:Nat} {p:Ptr} {s:StB} (h:NodeP R w x p s):NodeP R w.drew x p s:=h.below ((Below.refl _ w).drew)
theorem NodeP.up {R:Nat→Prop} {w:World} {x:Nat} {p:Ptr} {s:StB} (h:NodeP R w x p s) (o:Obj):NodeP R (w.alloc o) x p s:=h.below ((Below.refl _ w).alloc (Nat.le_refl _) o)
theorem isEmpty_ne {d:ByteArray} (h:d≠ByteArray.mk #[]):d.toList.isEmpty=false:=by
 rw [List.isEmpty_eq_false_iff];intro q;exact h (toList_inj (by rw [q];simp))
section
variable {R:Nat→Prop} {w:World} {x:Nat} {p:Ptr} {s:StB}
def chosenE (s:StB) (kind round:Int):Value:=.tuple #[.string (s.most kind round).1,.bool (s.chosen kind round).isSome]
theorem chosen_any (h:NodeP R w x p s) (h1:1≤s.n) (h7:s.n≤7) (kind round:Int) :
  Calls Tryz.prog 176 #[pv x,iv kind,iv round] w fun e w'=>e = .returned (chosenE s kind round)∧Below w.heap.size w w':=by
 have M:=Hd (mostB_any h.drew.boxAt (by omega) h7 kind s.height round);have Q:=Hd (fun W=>quorum_any s.n W h1 h7);have c0:=h.nc.c0;have c12:=h.nc.c12;have c17:=h.nc.c17;have hfz:=h.nc.fz;have H:=Hd h;have E1:=Hd (show s.most kind round=mostL (voters s.n.toNat s.votes kind s.height round) from rfl);obtain ⟨v,hv⟩:∃v,s.most kind round=v:=⟨_,rfl⟩;have HV:=Hd hv;rw [←E1.out,hv] at M;obtain ⟨d,c⟩:=v;have hq:0≤quorumN s.n∧quorumN s.n≤7:=by unfold quorumN faultsN;omega
 clear h hv;unfold pv iv at *;go_enter Tryz.func176,Tryz.ntmps176
 go_upto_region 1 with (fail)
 go_region_law (go_simp;go_at_call 172;(with_reducible refine (M.out).mono ?_);rintro e w1 ⟨rfl,hb⟩;have HB:=Hd hb;clear hb)
 all_goals (
  have H1:=Hd (H.out.drew.below HB.out);have HB1:=Hd (show Below w.heap.size w w1 from ((Below.refl _ w).drew).trans HB.out);have d17:=H1.out.nc.c17;have dfz:=H1.out.nc.fz;have HE:=Hd (show s.chosen kind round=if d≠ByteArray.mk #[]∧quorumN s.n≤c then some d else none from by unfold NS.chosen;rw [HV.out];rfl);clear c0 c12 c17 hfz;by_cases hd:d=ByteArray.mk #[]
  ·have HR:=Hd (show chosenE s kind round = .tuple #[.string d,.bool false] from by unfold chosenE;rw [HV.out,HE.out,if_neg (fun q=>q.1 hd)];rfl);subst hd;go_wp2
   go_ret2
   exact ⟨by rw [HR.out];rfl,HB1.out⟩
  have n1:d.toList.isEmpty=false:=isEmpty_ne hd;have hs:(if d≠ByteArray.mk #[]∧quorumN s.n≤c then some d else none:Option ByteArray).isSome=decide (quorumN s.n≤c):=by
   by_cases q:quorumN s.n≤c <;> simp [hd,q]
  have HR:=Hd (show chosenE s kind round = .tuple #[.string d,.bool (decide (quorumN s.n≤c))] from by unfold chosenE;rw [HV.out,HE.out,hs]);clear hs;have HD:=Hd hd;clear hd;go_wp2_with (go_at_call 113;refine (Q.out _).mono ?_;rintro _ _ ⟨rfl,rfl⟩)
  go_ret2
  exact ⟨by rw [HR.out];rfl,HB1.out⟩)
end
end
end Go.Proofs.YtifcdjmcoibblaaGreatDoor
