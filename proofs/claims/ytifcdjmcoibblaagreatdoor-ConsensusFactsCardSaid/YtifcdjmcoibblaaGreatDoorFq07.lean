/- Op1 -/
import Derived.Test.YtifcdjmcoibblaaGreatDoorFq06
import Derived.WalkSpells
import Derived.WalkLawsBesides
import Derived.BigQuiet
import Derived.Test.YtifcdjmcoibblaaGreatDoorFq01
set_option linter.unusedVariables false
set_option linter.unusedSimpArgs false
set_option linter.unusedSectionVars false
set_option maxRecDepth 100000
set_option maxHeartbeats 80000000
namespace Go.Proofs.YtifcdjmcoibblaaGreatDoor
section
open Go.RowKit
theorem faults_any (n:Int) (w:World) (h1:1≤n) (h7:n≤7):Calls Tryz.prog 167 #[.int .i64 n] w fun e w'=>e = .returned (.int .i64 (faultsN n))∧w'=w:=by
 have q1:decide (n<1)=false:=by simpa using h1
 have q2:decide (7<n)=false:=by simpa using h7
 have q3:(n - 1).tdiv 3=faultsN n:=by unfold faultsN;rw [Int.tdiv_eq_ediv_of_nonneg (by omega)]
 have hf:0≤faultsN n∧faultsN n≤2:=by unfold faultsN;omega
 go_enter Tryz.func167,Tryz.ntmps167
 go_wp2
 go_ret;exact ⟨rfl,rfl⟩
theorem quorum_any (n:Int) (w:World) (h1:1≤n) (h7:n≤7):Calls Tryz.prog 113 #[.int .i64 n] w fun e w'=>e = .returned (.int .i64 (quorumN n))∧w'=w:=by
 have H:=Hd (faults_any n w h1 h7);have q1:decide (n<1)=false:=by simpa using h1
 have q2:decide (7<n)=false:=by simpa using h7
 have hf:0≤faultsN n∧faultsN n≤2:=by unfold faultsN;omega
 go_enter Tryz.func113,Tryz.ntmps113
 go_wp2_with fail
 refine (H.out).mono ?_;rintro _ _ ⟨rfl,rfl⟩;go_wp2
 go_ret;exact ⟨rfl,rfl⟩
section
variable {R:Nat→Prop} {w:World} {x:Nat} {p:Ptr} {s:StB}
theorem isDecided_any (h:NodeP R w x p s) (k:Int):Calls Tryz.prog 63 #[pv x,iv k] w fun e w'=>e = .returned (.bool (s.isDec k))∧Below w.heap.size w w':=by
 have c18:=h.nc.c18;have hfz:=h.nc.fz;rcases h.maps.look_decs k true with ⟨e,hl⟩ | ⟨v,u,e,hv,hl⟩
 ·have HE:=Hd (show s.isDec k=false from by unfold NS.isDec;rw [e];rfl);clear h e;unfold zV iv at hl;unfold pv iv;go_enter Tryz.func63,Tryz.ntmps63
  go_wp2
  go_ret;rw [HE.out];exact ⟨rfl,by repeat (first | exact Below.refl _ _ | refine below_drewN ?_ _ | refine Below.alloc ?_ (by simp) _ | refine Below.drew ?_)⟩
 have HE:=Hd (show s.isDec k=true from by unfold NS.isDec;rw [e];rfl);obtain ⟨sl,rfl,ao,cap,rfl,_⟩:=hv;clear h e;unfold iv at hl;unfold pv iv;go_enter Tryz.func63,Tryz.ntmps63
 go_wp2
 go_ret;rw [HE.out];exact ⟨rfl,by repeat (first | exact Below.refl _ _ | refine below_drewN ?_ _ | refine Below.alloc ?_ (by simp) _ | refine Below.drew ?_)⟩
theorem isProposer_any (h:NodeP R w x p s) (site k r:Int) (hn:1≤s.n) (hk:0≤k∧k≤1000000) (hr:0≤r∧r≤1000000):Calls Tryz.prog 76 #[pv x,iv site,iv k,iv r] w fun e w'=>e = .returned (.bool (s.proposer site k r))∧w'=w:=by
 have c17:=h.nc.c17;have hfz:=h.nc.fz;have q1:(s.n == 0)=false:=by simp;omega
 have q2:(k+r).tmod s.n=(k+r) % s.n:=Int.tmod_eq_emod_of_nonneg (by omega);have HE:=Hd (show s.proposer site k r=((k+r) % s.n == site) from by unfold NS.proposer;rw [Bool.beq_eq_decide_eq]);obtain ⟨hk1,hk2⟩:=hk;obtain ⟨hr1,hr2⟩:=hr;obtain ⟨n,hn'⟩:∃n,n=s.n:=⟨_,rfl⟩;rw [←hn'] at *;clear h hn';unfold pv iv;go_enter Tryz.func76,Tryz.ntmps76
 go_wp2
 go_ret;rw [HE.out];exact ⟨rfl,rfl⟩
theorem isLate_any (h:NodeP R w x p s) (hr:0≤s.round∧s.round≤1000000):Calls Tryz.prog 175 #[pv x] w fun e w'=>e = .returned (.bool s.late)∧Below w.heap.size w w':=by
 have c1:=h.nc.c1;have c3:=h.nc.c3;have hfz:=h.nc.fz;have HE:=Hd (show s.late=decide (12 * (s.round+1)≤s.clock) from rfl);obtain ⟨hr1,hr2⟩:=hr;obtain ⟨r,hr'⟩:∃n,n=s.round:=⟨_,rfl⟩;obtain ⟨c,hc'⟩:∃n,n=s.clock:=⟨_,rfl⟩;rw [←hr',←hc'] at *;clear h hr' hc';unfold pv;go_enter Tryz.func175,Tryz.ntmps175
 go_wp2_with fail
 go_quiet (fail)
 go_wp2
 go_ret;rw [HE.out];exact ⟨rfl,by repeat (first | exact Below.refl _ _ | refine below_drewN ?_ _ | refine Below.alloc ?_ (by simp) _ | refine Below.drew ?_)⟩
theorem enter_any (h:NodeP R w x p s) (k:Int):Calls Tryz.prog 177 #[pv x,iv k] w fun e w'=>e = .returned (.tuple #[])∧Turned R w x (s.enter k) w':=by
 have hfz:=h.nc.fz;have c2:=h.nc.c2;have c3:=h.nc.c3;have H:=Hd h;clear h;unfold pv iv;go_enter Tryz.func177,Tryz.ntmps177
 go_wp2
 refine bodyPost_end (results_none rfl _ _ _) rfl ?_;have h1:=H.out.set (s':={s with step:=k}) (p':=p) 2 (iv k) rfl (fun _ h=>h.same) (fun _ h=>h.same);have h2:=h1.set (s':=s.enter k) (p':=p) 3 (iv 0) rfl (fun _ h=>h.same) (fun _ h=>h.same);exact ⟨rfl,.of h2 ((Chg.set w x 2 (iv k) H.out.mem).trans ((Chg.set _ x 3 (iv 0) H.out.mem).mono (fun _ _ h=>.inl h)))⟩
end
end
end Go.Proofs.YtifcdjmcoibblaaGreatDoor
