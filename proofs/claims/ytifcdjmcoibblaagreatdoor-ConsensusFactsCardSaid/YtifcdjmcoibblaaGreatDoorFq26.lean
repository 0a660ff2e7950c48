/- Rcv -/
import Derived.Test.YtifcdjmcoibblaaGreatDoorFq25
import Derived.Test.YtifcdjmcoibblaaGreatDoorFq24
import Derived.Test.YtifcdjmcoibblaaGreatDoorFq04
import Derived.Test.YtifcdjmcoibblaaGreatDoorFq01
set_option linter.unusedVariables false
set_option linter.unusedSimpArgs false
set_option linter.unusedSectionVars false
set_option maxRecDepth 100000
set_option maxHeartbeats 80000000
namespace Go.Proofs.YtifcdjmcoibblaaGreatDoor
section
open Go.RowKit
section
variable {R R0:Nat→Prop} {w:World} {x:Nat} {p:Ptr} {s:StB}
def badM (s:StB) (m:MsgB):Bool:=!(validB m) || !(m.to == s.id) || decide (s.n≤m.frm) || decide (s.height<m.height)
theorem valid_placed {m:MsgB} (h:validB m=true) (hk:m.kind=3∨m.kind=4∨m.kind=6∨m.kind=5):0≤m.height∧m.height<1200∧0≤m.round∧m.round<100∧0≤m.frm:=by
 unfold validB at h;rw [Bool.and_eq_true] at h;obtain ⟨h1,h2⟩:=h;have hs:0≤m.frm:=by unfold sitesB siteB at h1;simp at h1;omega
 have k1:¬m.kind=1:=by omega
 have k2:¬m.kind=2:=by omega
 rw [if_neg k1,if_neg k2] at h2;have hp:placedB m=true:=by
  split at h2
  ·unfold propOk at h2;simp at h2;exact h2.1.1.1.1
  unfold voteOk at h2;simp at h2;exact h2.2.1.1.1
 unfold placedB at hp;simp at hp;omega
theorem rcv_bad {m:MsgB} (h:badM s m=true):s.receive m (validB m)=s:=by
 unfold NS.receive;rw [if_pos];unfold badM at h;simp at h;rcases h with ((h | h) | h) | h
 ·exact .inl h
 ·exact .inr (.inl h)
 ·exact .inr (.inr (.inl h))
 exact .inr (.inr (.inr h))
theorem bad_not {m:MsgB} (h:badM s m=false):validB m=true∧m.to=s.id∧m.frm<s.n∧m.height≤s.height:=by
 unfold badM at h;simp at h;exact ⟨h.1.1.1,h.1.1.2,h.1.2,h.2⟩
theorem rcv_kind {m:MsgB} (h:¬(m.kind=3∨m.kind=4∨m.kind=6∨m.kind=5)):s.receive m (validB m)=s:=by
 unfold NS.receive;split
 ·rfl
 first | rfl | rw [if_pos h]
theorem rcv_ask {m:MsgB} (hb:badM s m=false) (hk:m.kind=3∨m.kind=4∨m.kind=6∨m.kind=5) (hd:s.isDec m.height=true):s.receive m (validB m)=s.ask m:=by
 obtain ⟨a,b,c,d⟩:=bad_not hb;unfold NS.receive;rw [if_neg (by simp only [not_or];exact ⟨by simp [a],by simp [b],by omega,by omega⟩),if_neg (by simp only [Classical.not_not];exact hk),if_pos hd]
theorem rcv_go {m:MsgB} (hb:badM s m=false) (hk:m.kind=3∨m.kind=4∨m.kind=6∨m.kind=5) (hd:s.isDec m.height=false):s.receive m (validB m)=if m.height<s.height then s else if m.kind≠3 then s.putVote m
  else if s.proposer m.frm m.height m.round=true then {s with props:=keepA s.props m.round m}
  else match getA m.frm s.claims with
   | some _=>s
   | none=>{s with claims:=putA m.frm m s.claims,order:=s.order ++ [m.frm]}:=by
 obtain ⟨a,b,c,d⟩:=bad_not hb;unfold NS.receive;rw [if_neg (by simp only [not_or];exact ⟨by simp [a],by simp [b],by omega,by omega⟩),if_neg (by simp only [Classical.not_not];exact hk),if_neg (by simp [hd])];rcases getA m.frm s.claims with _ | _ <;> rfl
theorem receive_any {v:Value} {m:MsgB} (h:NodeP R w x p s) (hm:MsgV R0 w v m) (h0:∀k,R0 k→k<w.heap.size) (hl:m.list.length≤60) (hG:Glob w) (hI:NumI s) (hol:s.order.length≤1000) :
  Calls Tryz.prog 20 #[pv x,v] w fun e w'=>e = .returned (.tuple #[])∧Turned R w x (s.receive m (validB m)) w':=by
 obtain ⟨sl,rfl,ao,cap,rfl,hcap,hrow⟩:=hm;obtain ⟨mb,hmb⟩:∃mb,mb=w.heap.size:=⟨_,rfl⟩;have HMB:=Hd hmb;have H:=Hd h;have HI:=Hd hI;have HG:=Hd hG;have H0:=Hd h0;have HB0:=Hd ((Below.refl _ w).alloc (Nat.le_refl _) (.cells (encM m (.slice ao m.list.length cap)) 36));have HR0:=Hd (World.alloc_heap_new w (.cells (encM m (.slice ao m.list.length cap)) 36));have HL:=Hd (show LRow R0 w (.slice ao m.list.length cap) m.list from ⟨ao,cap,rfl,hcap,hrow⟩);have VA:=Hd (fun W (hW:Below w.heap.size w W)=>(valid_any (R:=R0) (m:=m) (v:=.agg (encM m (.slice ao m.list.length cap))) ⟨_,rfl,HL.out.below h0 hW⟩ (fun k hk=>Nat.lt_of_lt_of_le (h0 k hk) hW.size) hl (fun _=>hG.later hW)).mono (fun e w' q=>show e = .returned (.bool (validB m))∧Below W.heap.size W w' from ⟨q.1,q.2⟩));clear hrow hcap hmb h hI hG h0;unfold encM iv pv at *;go_enter Tryz.func20,Tryz.ntmps20
 go_upto_region 1 with (fail)
 obtain ⟨wa,hwa⟩:∃wa,wa=w.alloc (.cells #[.int .i64 m.kind,.int .i64 m.frm,.int .i64 m.to,.int .i64 m.height,.int .i64 m.round,.int .i64 m.valid,.string m.dig,.slice ao m.list.length cap] 36):=⟨_,rfl⟩;rw [←HMB.out] at HR0 ⊢;rw [←hwa] at HB0 HR0 ⊢;clear hwa;have HN0:=Hd (H.out.below HB0.out);obtain ⟨bd,hbd⟩:∃bd,bd=badM s m:=⟨_,rfl⟩;have HBD:=Hd hbd;clear hbd;go_cut [38] (fun t wc=>t = .bool bd∧Below wa.heap.size wa wc)
 case first=>
  obtain ⟨c0,c1,c2,c3,c4,c5,c6,c7,fz⟩:=MRow.of HR0.out;have VB:=Hd (show ∀W,Below wa.heap.size wa W→Calls Tryz.prog 19 #[.agg #[.int .i64 m.kind,.int .i64 m.frm,.int .i64 m.to,.int .i64 m.height,.int .i64 m.round,.int .i64 m.valid,.string m.dig,.slice ao m.list.length cap]] W fun e w'=>e = .returned (.bool (validB m))∧Below wa.heap.size wa w' from fun W hW=>(VA.out W (HB0.out.trans (hW.mono HB0.out.size))).mono (fun e w' q=>⟨q.1,hW.trans (q.2.mono hW.size)⟩));have KEEP:=Hd (show ∀W,Below wa.heap.size wa W→W.cell? ⟨mb,0,none⟩=some (.int .i64 m.kind)∧W.cell? ⟨mb,1,none⟩=some (.int .i64 m.frm)∧W.cell? ⟨mb,2,none⟩=some (.int .i64 m.to)∧W.cell? ⟨mb,3,none⟩=some (.int .i64 m.height)∧W.cell? ⟨mb,4,none⟩=some (.int .i64 m.round)∧W.cell? ⟨mb,5,none⟩=some (.int .i64 m.valid)∧W.cell? ⟨mb,6,none⟩=some (.string m.dig)∧W.cell? ⟨mb,7,none⟩=some (.slice ao m.list.length cap)∧W.cell? ⟨x,0,none⟩=some (.int .i64 s.height)∧W.cell? ⟨x,16,none⟩=some (.int .i64 s.id)∧W.cell? ⟨x,17,none⟩=some (.int .i64 s.n)∧Below wa.heap.size wa W from fun W hW=>by
   have hr:=MRow.of ((hW.block mb (gE HR0.out).1).trans HR0.out);have hn:=(HN0.out.below hW).nc;exact ⟨hr.c0,hr.c1,hr.c2,hr.c3,hr.c4,hr.c5,hr.c6,hr.c7,hn.c0,hn.c16,hn.c17,hW⟩)
  rcases hv:validB m with _ | _
  ·rw [hv] at VB;have e1:bd=true:=by rw [HBD.out];unfold badM;rw [hv];rfl
   refine wp_region_held_drew (S:=fun W=>W.cell? ⟨mb,0,none⟩=some (.int .i64 m.kind)∧W.cell? ⟨mb,1,none⟩=some (.int .i64 m.frm)∧W.cell? ⟨mb,2,none⟩=some (.int .i64 m.to)∧W.cell? ⟨mb,3,none⟩=some (.int .i64 m.height)∧W.cell? ⟨mb,4,none⟩=some (.int .i64 m.round)∧W.cell? ⟨mb,5,none⟩=some (.int .i64 m.valid)∧W.cell? ⟨mb,6,none⟩=some (.string m.dig)∧W.cell? ⟨mb,7,none⟩=some (.slice ao m.list.length cap)∧W.cell? ⟨x,0,none⟩=some (.int .i64 s.height)∧W.cell? ⟨x,16,none⟩=some (.int .i64 s.id)∧W.cell? ⟨x,17,none⟩=some (.int .i64 s.n)∧Below wa.heap.size wa W) (by kernel_rfl) (KEEP.out _ (Below.refl _ wa).drew) (fun hHeld=>?_);refine hyw (i:=0) (by assumption) ?_;try simp only [Act.put,zz]
   refine hyw (i:=1) (by assumption) ?_;try simp only [Act.put,zz]
   refine hyw (i:=2) (by assumption) ?_;try simp only [Act.put,zz]
   refine hyw (i:=3) (by assumption) ?_;try simp only [Act.put,zz]
   refine wpAnyH_ready (rs:=[4]) (by kernel_rfl) (by simp) ?_;refine AllReadyH.cons (o:=_) rfl (fun K hK=>?_) AllReadyH.nil;go_simp;go_at_call 19
   refine (VB.out _ (Below.refl _ wa).drew).mono ?_;rintro e w2 ⟨rfl,hb⟩;go_wp2_with fail
   have HE1:=Hd hb;clear hb hHeld;refine hK.out _ _ (KEEP.out _ HE1.out) (fun hHeld=>?_);clear hK K;try simp only [Act.put,zz]
   refine hyw (i:=5) (by assumption) ?_;try simp only [Act.put,zz]
   refine hyw (i:=6) (by assumption) ?_;try simp only [Act.put,zz]
   refine hyw (i:=7) (by assumption) ?_;try simp only [Act.put,zz]
   refine hun (i:=8) (by assumption) ?_;try simp only [Act.put,zz]
   refine hun (i:=9) (by assumption) ?_;try simp only [Act.put,zz]
   refine hun (i:=10) (by assumption) ?_;try simp only [Act.put,zz]
   refine hun (i:=11) (by assumption) ?_;try simp only [Act.put,zz]
   refine hun (i:=12) (by assumption) ?_;try simp only [Act.put,zz]
   refine hun (i:=13) (by assumption) ?_;try simp only [Act.put,zz]
   refine hun (i:=14) (by assumption) ?_;try simp only [Act.put,zz]
   refine hyw (i:=15) (by assumption) ?_;try simp only [Act.put,zz]
   refine hyw (i:=16) (by assumption) ?_;try simp only [Act.put,zz]
   refine hun (i:=17) (by assumption) ?_;try simp only [Act.put,zz]
   refine hun (i:=18) (by assumption) ?_;try simp only [Act.put,zz]
   refine hun (i:=19) (by assumption) ?_;try simp only [Act.put,zz]
   refine hun (i:=20) (by assumption) ?_;try simp only [Act.put,zz]
   refine hun (i:=21) (by assumption) ?_;try simp only [Act.put,zz]
   refine hun (i:=22) (by assumption) ?_;try simp only [Act.put,zz]
   refine hun (i:=23) (by assumption) ?_;try simp only [Act.put,zz]
   refine hyw (i:=24) (by assumption) ?_;try simp only [Act.put,zz]
   refine hyw (i:=25) (by assumption) ?_;try simp only [Act.put,zz]
   refine hun (i:=26) (by assumption) ?_;try simp only [Act.put,zz]
   refine hun (i:=27) (by assumption) ?_;try simp only [Act.put,zz]
   refine hun (i:=28) (by assumption) ?_;try simp only [Act.put,zz]
   refine hun (i:=29) (by assumption) ?_;try simp only [Act.put,zz]
   refine hun (i:=30) (by assumption) ?_;try simp only [Act.put,zz]
   refine hun (i:=31) (by assumption) ?_;try simp only [Act.put,zz]
   refine hun (i:=32) (by assumption) ?_;try simp only [Act.put,zz]
   refine hun (i:=33) (by assumption) ?_;try simp only [Act.put,zz]
   refine hyw (i:=34) (by assumption) ?_;try simp only [Act.put,zz]
   refine wpAnyH_done (by kernel_rfl) ?_ _;go_wp2_with fail
   go_meet;exact ⟨by rw [e1],HE1.out⟩
  rw [hv] at VB;by_cases ht:m.to=s.id
  ·have n1:(m.to != s.id)=false:=by simpa using ht
   have n1b:(m.to == s.id)=true:=by simpa using ht
   by_cases hf:s.n≤m.frm
   ·have n2:decide (s.n≤m.frm)=true:=by simpa using hf
    have e1:bd=true:=by rw [HBD.out];unfold badM;rw [n2];simp
    clear ht hf;refine wp_region_held_drew (S:=fun W=>W.cell? ⟨mb,0,none⟩=some (.int .i64 m.kind)∧W.cell? ⟨mb,1,none⟩=some (.int .i64 m.frm)∧W.cell? ⟨mb,2,none⟩=some (.int .i64 m.to)∧W.cell? ⟨mb,3,none⟩=some (.int .i64 m.height)∧W.cell? ⟨mb,4,none⟩=some (.int .i64 m.round)∧W.cell? ⟨mb,5,none⟩=some (.int .i64 m.valid)∧W.cell? ⟨mb,6,none⟩=some (.string m.dig)∧W.cell? ⟨mb,7,none⟩=some (.slice ao m.list.length cap)∧W.cell? ⟨x,0,none⟩=some (.int .i64 s.height)∧W.cell? ⟨x,16,none⟩=some (.int .i64 s.id)∧W.cell? ⟨x,17,none⟩=some (.int .i64 s.n)∧Below wa.heap.size wa W) (by kernel_rfl) (KEEP.out _ (Below.refl _ wa).drew) (fun hHeld=>?_);refine hyw (i:=0) (by assumption) ?_;try simp only [Act.put,zz]
    refine hyw (i:=1) (by assumption) ?_;try simp only [Act.put,zz]
    refine hyw (i:=2) (by assumption) ?_;try simp only [Act.put,zz]
    refine hyw (i:=3) (by assumption) ?_;try simp only [Act.put,zz]
    refine wpAnyH_ready (rs:=[4]) (by kernel_rfl) (by simp) ?_;refine AllReadyH.cons (o:=_) rfl (fun K hK=>?_) AllReadyH.nil;go_simp;go_at_call 19
    refine (VB.out _ (Below.refl _ wa).drew).mono ?_;rintro e w2 ⟨rfl,hb⟩;go_wp2_with fail
    have HE1:=Hd hb;clear hb hHeld;refine hK.out _ _ (KEEP.out _ HE1.out) (fun hHeld=>?_);clear hK K;try simp only [Act.put,zz]
    refine hyw (i:=5) (by assumption) ?_;try simp only [Act.put,zz]
    refine hyw (i:=6) (by assumption) ?_;try simp only [Act.put,zz]
    refine hyw (i:=7) (by assumption) ?_;try simp only [Act.put,zz]
    refine hyw (i:=8) (by assumption) ?_;try simp only [Act.put,zz]
    refine hyw (i:=9) (by assumption) ?_;try simp only [Act.put,zz]
    refine hyw (i:=10) (by assumption) ?_;try simp only [Act.put,zz]
    refine hyw (i:=11) (by assumption) ?_;try simp only [Act.put,zz]
    refine hyw (i:=12) (by assumption) ?_;try simp only [Act.put,zz]
    refine hyw (i:=13) (by assumption) ?_;try simp only [Act.put,zz]
    refine hyw (i:=14) (by assumption) ?_;try simp only [Act.put,zz]
    refine hyw (i:=15) (by assumption) ?_;try simp only [Act.put,zz]
    refine hyw (i:=16) (by assumption) ?_;try simp only [Act.put,zz]
    refine hyw (i:=17) (by assumption) ?_;try simp only [Act.put,zz]
    refine hyw (i:=18) (by assumption) ?_;try simp only [Act.put,zz]
    refine hyw (i:=19) (by assumption) ?_;try simp only [Act.put,zz]
    refine hyw (i:=20) (by assumption) ?_;try simp only [Act.put,zz]
    refine hyw (i:=21) (by assumption) ?_;try simp only [Act.put,zz]
    refine hyw (i:=22) (by assumption) ?_;try simp only [Act.put,zz]
    refine hyw (i:=23) (by assumption) ?_;try simp only [Act.put,zz]
    refine hyw (i:=24) (by assumption) ?_;try simp only [Act.put,zz]
    refine hyw (i:=25) (by assumption) ?_;try simp only [Act.put,zz]
    refine hun (i:=26) (by assumption) ?_;try simp only [Act.put,zz]
    refine hun (i:=27) (by assumption) ?_;try simp only [Act.put,zz]
    refine hun (i:=28) (by assumption) ?_;try simp only [Act.put,zz]
    refine hun (i:=29) (by assumption) ?_;try simp only [Act.put,zz]
    refine hun (i:=30) (by assumption) ?_;try simp only [Act.put,zz]
    refine hun (i:=31) (by assumption) ?_;try simp only [Act.put,zz]
    refine hun (i:=32) (by assumption) ?_;try simp only [Act.put,zz]
    refine hun (i:=33) (by assumption) ?_;try simp only [Act.put,zz]
    refine hyw (i:=34) (by assumption) ?_;try simp only [Act.put,zz]
    refine wpAnyH_done (by kernel_rfl) ?_ _;go_wp2_with fail
    go_meet;exact ⟨by rw [e1],HE1.out⟩
   have n2:decide (s.n≤m.frm)=false:=by simpa using hf
   have e1:bd=decide (s.height<m.height):=by rw [HBD.out];unfold badM;rw [hv,n1b,n2];simp
   clear ht hf;refine wp_region_held_drew (S:=fun W=>W.cell? ⟨mb,0,none⟩=some (.int .i64 m.kind)∧W.cell? ⟨mb,1,none⟩=some (.int .i64 m.frm)∧W.cell? ⟨mb,2,none⟩=some (.int .i64 m.to)∧W.cell? ⟨mb,3,none⟩=some (.int .i64 m.height)∧W.cell? ⟨mb,4,none⟩=some (.int .i64 m.round)∧W.cell? ⟨mb,5,none⟩=some (.int .i64 m.valid)∧W.cell? ⟨mb,6,none⟩=some (.string m.dig)∧W.cell? ⟨mb,7,none⟩=some (.slice ao m.list.length cap)∧W.cell? ⟨x,0,none⟩=some (.int .i64 s.height)∧W.cell? ⟨x,16,none⟩=some (.int .i64 s.id)∧W.cell? ⟨x,17,none⟩=some (.int .i64 s.n)∧Below wa.heap.size wa W) (by kernel_rfl) (KEEP.out _ (Below.refl _ wa).drew) (fun hHeld=>?_);refine hyw (i:=0) (by assumption) ?_;try simp only [Act.put,zz]
   refine hyw (i:=1) (by assumption) ?_;try simp only [Act.put,zz]
   refine hyw (i:=2) (by assumption) ?_;try simp only [Act.put,zz]
   refine hyw (i:=3) (by assumption) ?_;try simp only [Act.put,zz]
   refine wpAnyH_ready (rs:=[4]) (by kernel_rfl) (by simp) ?_;refine AllReadyH.cons (o:=_) rfl (fun K hK=>?_) AllReadyH.nil;go_simp;go_at_call 19
   refine (VB.out _ (Below.refl _ wa).drew).mono ?_;rintro e w2 ⟨rfl,hb⟩;go_wp2_with fail
   have HE1:=Hd hb;clear hb hHeld;refine hK.out _ _ (KEEP.out _ HE1.out) (fun hHeld=>?_);clear hK K;try simp only [Act.put,zz]
   refine hyw (i:=5) (by assumption) ?_;try simp only [Act.put,zz]
   refine hyw (i:=6) (by assumption) ?_;try simp only [Act.put,zz]
   refine hyw (i:=7) (by assumption) ?_;try simp only [Act.put,zz]
   refine hyw (i:=8) (by assumption) ?_;try simp only [Act.put,zz]
   refine hyw (i:=9) (by assumption) ?_;try simp only [Act.put,zz]
   refine hyw (i:=10) (by assumption) ?_;try simp only [Act.put,zz]
   refine hyw (i:=11) (by assumption) ?_;try simp only [Act.put,zz]
   refine hyw (i:=12) (by assumption) ?_;try simp only [Act.put,zz]
   refine hyw (i:=13) (by assumption) ?_;try simp only [Act.put,zz]
   refine hyw (i:=14) (by assumption) ?_;try simp only [Act.put,zz]
   refine hyw (i:=15) (by assumption) ?_;try simp only [Act.put,zz]
   refine hyw (i:=16) (by assumption) ?_;try simp only [Act.put,zz]
   refine hyw (i:=17) (by assumption) ?_;try simp only [Act.put,zz]
   refine hyw (i:=18) (by assumption) ?_;try simp only [Act.put,zz]
   refine hyw (i:=19) (by assumption) ?_;try simp only [Act.put,zz]
   refine hyw (i:=20) (by assumption) ?_;try simp only [Act.put,zz]
   refine hyw (i:=21) (by assumption) ?_;try simp only [Act.put,zz]
   refine hyw (i:=22) (by assumption) ?_;try simp only [Act.put,zz]
   refine hyw (i:=23) (by assumption) ?_;try simp only [Act.put,zz]
   refine hyw (i:=24) (by assumption) ?_;try simp only [Act.put,zz]
   refine hyw (i:=25) (by assumption) ?_;try simp only [Act.put,zz]
   refine hyw (i:=26) (by assumption) ?_;try simp only [Act.put,zz]
   refine hyw (i:=27) (by assumption) ?_;try simp only [Act.put,zz]
   refine hyw (i:=28) (by assumption) ?_;try simp only [Act.put,zz]
   refine hyw (i:=29) (by assumption) ?_;try simp only [Act.put,zz]
   refine hyw (i:=30) (by assumption) ?_;try simp only [Act.put,zz]
   refine hyw (i:=31) (by assumption) ?_;try simp only [Act.put,zz]
   refine hyw (i:=32) (by assumption) ?_;try simp only [Act.put,zz]
   refine hyw (i:=33) (by assumption) ?_;try simp only [Act.put,zz]
   refine hyw (i:=34) (by assumption) ?_;try simp only [Act.put,zz]
   refine wpAnyH_done (by kernel_rfl) ?_ _;go_wp2_with fail
   go_meet;exact ⟨by rw [e1],HE1.out⟩
  have n1:(m.to != s.id)=true:=by simpa using ht
  have n1b:(m.to == s.id)=false:=by simpa using ht
  have e1:bd=true:=by rw [HBD.out];unfold badM;rw [n1b];simp
  clear ht;refine wp_region_held_drew (S:=fun W=>W.cell? ⟨mb,0,none⟩=some (.int .i64 m.kind)∧W.cell? ⟨mb,1,none⟩=some (.int .i64 m.frm)∧W.cell? ⟨mb,2,none⟩=some (.int .i64 m.to)∧W.cell? ⟨mb,3,none⟩=some (.int .i64 m.height)∧W.cell? ⟨mb,4,none⟩=some (.int .i64 m.round)∧W.cell? ⟨mb,5,none⟩=some (.int .i64 m.valid)∧W.cell? ⟨mb,6,none⟩=some (.string m.dig)∧W.cell? ⟨mb,7,none⟩=some (.slice ao m.list.length cap)∧W.cell? ⟨x,0,none⟩=some (.int .i64 s.height)∧W.cell? ⟨x,16,none⟩=some (.int .i64 s.id)∧W.cell? ⟨x,17,none⟩=some (.int .i64 s.n)∧Below wa.heap.size wa W) (by kernel_rfl) (KEEP.out _ (Below.refl _ wa).drew) (fun hHeld=>?_);refine hyw (i:=0) (by assumption) ?_;try simp only [Act.put,zz]
  refine hyw (i:=1) (by assumption) ?_;try simp only [Act.put,zz]
  refine hyw (i:=2) (by assumption) ?_;try simp only [Act.put,zz]
  refine hyw (i:=3) (by assumption) ?_;try simp only [Act.put,zz]
  refine wpAnyH_ready (rs:=[4]) (by kernel_rfl) (by simp) ?_;refine AllReadyH.cons (o:=_) rfl (fun K hK=>?_) AllReadyH.nil;go_simp;go_at_call 19
  refine (VB.out _ (Below.refl _ wa).drew).mono ?_;rintro e w2 ⟨rfl,hb⟩;go_wp2_with fail
  have HE1:=Hd hb;clear hb hHeld;refine hK.out _ _ (KEEP.out _ HE1.out) (fun hHeld=>?_);clear hK K;try simp only [Act.put,zz]
  refine hyw (i:=5) (by assumption) ?_;try simp only [Act.put,zz]
  refine hyw (i:=6) (by assumption) ?_;try simp only [Act.put,zz]
  refine hyw (i:=7) (by assumption) ?_;try simp only [Act.put,zz]
  refine hyw (i:=8) (by assumption) ?_;try simp only [Act.put,zz]
  refine hyw (i:=9) (by assumption) ?_;try simp only [Act.put,zz]
  refine hyw (i:=10) (by assumption) ?_;try simp only [Act.put,zz]
  refine hyw (i:=11) (by assumption) ?_;try simp only [Act.put,zz]
  refine hyw (i:=12) (by assumption) ?_;try simp only [Act.put,zz]
  refine hyw (i:=13) (by assumption) ?_;try simp only [Act.put,zz]
  refine hyw (i:=14) (by assumption) ?_;try simp only [Act.put,zz]
  refine hyw (i:=15) (by assumption) ?_;try simp only [Act.put,zz]
  refine hyw (i:=16) (by assumption) ?_;try simp only [Act.put,zz]
  refine hun (i:=17) (by assumption) ?_;try simp only [Act.put,zz]
  refine hun (i:=18) (by assumption) ?_;try simp only [Act.put,zz]
  refine hun (i:=19) (by assumption) ?_;try simp only [Act.put,zz]
  refine hun (i:=20) (by assumption) ?_;try simp only [Act.put,zz]
  refine hun (i:=21) (by assumption) ?_;try simp only [Act.put,zz]
  refine hun (i:=22) (by assumption) ?_;try simp only [Act.put,zz]
  refine hun (i:=23) (by assumption) ?_;try simp only [Act.put,zz]
  refine hyw (i:=24) (by assumption) ?_;try simp only [Act.put,zz]
  refine hyw (i:=25) (by assumption) ?_;try simp only [Act.put,zz]
  refine hun (i:=26) (by assumption) ?_;try simp only [Act.put,zz]
  refine hun (i:=27) (by assumption) ?_;try simp only [Act.put,zz]
  refine hun (i:=28) (by assumption) ?_;try simp only [Act.put,zz]
  refine hun (i:=29) (by assumption) ?_;try simp only [Act.put,zz]
  refine hun (i:=30) (by assumption) ?_;try simp only [Act.put,zz]
  refine hun (i:=31) (by assumption) ?_;try simp only [Act.put,zz]
  refine hun (i:=32) (by assumption) ?_;try simp only [Act.put,zz]
  refine hun (i:=33) (by assumption) ?_;try simp only [Act.put,zz]
  refine hyw (i:=34) (by assumption) ?_;try simp only [Act.put,zz]
  refine wpAnyH_done (by kernel_rfl) ?_ _;go_wp2_with fail
  go_meet;exact ⟨by rw [e1],HE1.out⟩
 case rest=>
 obtain ⟨rfl,hb1⟩:=hcut;obtain ⟨w1,rfl⟩:∃w1:World,w1=wc:=⟨_,rfl⟩;have HRM:=Hd ((hb1.block mb (gE HR0.out).1).trans HR0.out);have HB1:=Hd (HB0.out.trans (hb1.mono HB0.out.size));have HN1:=Hd (H.out.below HB1.out);have HL1:=Hd (HL.out.below H0.out HB1.out);have DONE:=Hd (fun (e:s.receive m (validB m)=s) W (hW:Below w.heap.size w W)=>show Turned R w x (s.receive m (validB m)) W from by rw [e];exact Turned.of (H.out.below hW) (Chg.of_below hW (fun k q1 q2=>by omega)));clear hb1 HR0 HB0 HN0 VA;obtain ⟨c0,c1,c2,c3,c4,c5,c6,c7,fz⟩:=MRow.of HRM.out;rcases bd with _ | _
 ·obtain ⟨hva,hto,hfr,hhe⟩:=bad_not HBD.out.symm;have HVA:=Hd hva;have HFR:=Hd hfr;clear hva hto hfr hhe;by_cases hks:m.kind=3∨m.kind=4∨m.kind=6∨m.kind=5
  ·have HKS:=Hd hks;have HPL:=Hd (valid_placed HVA.out hks);have ID:=Hd (isDecided_any HN1.out m.height);unfold pv iv at ID;rcases hks with hkk | hkk | hkk | hkk
   ·have AK:=Hd (fun W (hW:Below w.heap.size w W)=>ask_any (R:=R) (R0:=R0) (m:=m) (H.out.below hW) ⟨_,rfl,HL.out.below H0.out hW⟩ HI.out.n1 ⟨HPL.out.1,by have:=HPL.out.2.1;omega⟩ ⟨HPL.out.2.2.1,by have:=HPL.out.2.2.2.1;omega⟩);have HKK:=Hd hkk;unfold encM iv pv at AK;rw [hkk] at AK c0;rcases hd:s.isDec m.height with _ | _
    ·have HGO:=Hd (rcv_go HBD.out.symm HKS.out hd);rw [hd] at ID;clear hd;go_upto_region 9 with (go_at_call 63;refine ID.out.mono ?_;rintro e w2 ⟨rfl,hb⟩;have HB2:=Hd (HB1.out.trans (hb.mono HB1.out.size));have HR2:=Hd ((hb.block mb (gE HRM.out).1).trans HRM.out);clear hb)
     clear c0 c1 c2 c3 c4 c5 c6 c7 fz;obtain ⟨c0,c1,c2,c3,c4,c5,c6,c7,fz⟩:=MRow.of HR2.out;rw [hkk] at c0;have d0:=(H.out.below HB2.out).nc.c0;go_region
     obtain ⟨w3,hw3⟩:∃w3,w3=w2.drew:=⟨_,rfl⟩;have HB3:=Hd (show Below w.heap.size w w3 from by rw [hw3];exact HB2.out.drew);have HR3:=Hd (show w3.heap[mb]?=some (.cells (encM m (.slice ao m.list.length cap)) 36 (0,0)) from by rw [hw3];exact HR2.out);rw [←hw3];clear hw3 c0 c1 c2 c3 c4 c5 c6 c7 fz d0 HR2 HB2 AK ID;obtain ⟨c0,c1,c2,c3,c4,c5,c6,c7,fz⟩:=MRow.of HR3.out;rw [hkk] at c0;by_cases hlt:m.height<s.height
     ·have hlt2:decide (m.height<s.height)=true:=by simpa using hlt
      have HD:=Hd (DONE.out (by rw [HGO.out,if_pos hlt]) _ HB3.out);clear DONE;go_wp2
      exact bodyPost_ret (results_none rfl _ _ _) rfl ⟨rfl,HD.out⟩
     have hlt2:decide (m.height<s.height)=false:=by simpa using hlt
     clear DONE
     ·skip
      have HGP:=Hd (show s.receive m (validB m)=if s.proposer m.frm m.height m.round=true then {s with props:=keepA s.props m.round m}
        else match getA m.frm s.claims with
         | some _=>s
         | none=>{s with claims:=putA m.frm m s.claims,order:=s.order ++ [m.frm]} from by rw [HGO.out,if_neg hlt,if_neg (by omega)])
      have IP:=Hd (isProposer_any (H.out.below HB3.out) m.frm m.height m.round HI.out.n1 ⟨HPL.out.1,by have:=HPL.out.2.1;omega⟩ ⟨HPL.out.2.2.1,by have:=HPL.out.2.2.2.1;omega⟩);unfold pv iv at IP;have HNS:=Hd (H.out.below HB3.out);have hmb3:mb<w3.heap.size:=(gE HR3.out).1;have HMBN:=Hd (show ∀b,b∈p.maps→mb≠b from fun b hb e=>by
       have h1:=H.out.lt b (H.out.maps.own b hb);have h2:=HMB.out;omega)
      have HLS:=Hd (HL.out.below H0.out HB3.out.drew);have HKX:=Hd hkk;rcases hp:s.proposer m.frm m.height m.round with _ | _
      ·rw [hp] at IP;have HGQ:=Hd (show s.receive m (validB m)=match getA m.frm s.claims with
         | some _=>s
         | none=>{s with claims:=putA m.frm m s.claims,order:=s.order ++ [m.frm]} from by rw [HGP.out,hp,if_neg (by simp)])
       obtain ⟨L,hL,hA⟩:=HNS.out.drew.maps.claims;have KP:=Hd (keep_any (R:=R) (R0:=R0) (m:=m) hL hA ⟨_,rfl,HLS.out⟩ (fun k hk=>Nat.lt_of_lt_of_le (H0.out k hk) HB3.out.size) (by omega) m.frm);clear hL hA hp hmb3;unfold encM iv at KP;rw [hkk] at KP;have x10:=HNS.out.nc.c10;go_upto_region 14 with (go_at_call 76;refine IP.out.mono ?_;rintro e wq ⟨rfl,hwq⟩;rw [hwq];clear hwq wq)
       go_cut [86] (fun t wc=>t = .bool (getA m.frm s.claims).isNone∧(∃L',RawMap wc p.claims L'∧All2 (RMsg (fun k=>R k∨New w3.drew wc k) wc) L' (keepA s.claims m.frm m))∧Chg (fun k=>k=p.claims) w3.drew wc)
       case first=>
        go_region_law (go_simp;go_at_call 77;(with_reducible refine (KP.out).mono ?_);rintro e w4 ⟨rfl,hkl,hch⟩;have HKL:=Hd hkl;have HCH:=Hd hch;clear hkl hch)
        all_goals (go_wp2_with fail;go_meet;exact ⟨rfl,HKL.out,HCH.out⟩)
       case rest=>
       obtain ⟨rfl,hkl,hch⟩:=hcut;obtain ⟨w4,rfl⟩:∃w4:World,w4=wc:=⟨_,rfl⟩;have HN4:=Hd (HNS.out.drew.claims_new (fun k hk hn=>hch.block k hk hn) (R':=fun k=>R k∨New w3.drew w4 k) (fun k hk=>.inl hk) (fun k hk=>by
        rcases hk with hk | hk
        ·exact Nat.lt_of_lt_of_le (HNS.out.lt k hk) hch.size
        exact hk.2) _ hkl)
       have hs34:w3.heap.size≤w4.heap.size:=hch.size;have hw3:=HB3.out.size;have HG4:=Hd (show Grows R (fun k=>R k∨New w3.drew w4 k) w from ⟨fun k hk=>.inl hk,fun k hk=>by
        rcases hk with hk | hk
        ·exact .inl hk
        have h1:w3.heap.size≤k:=hk.1;exact .inr (by omega)⟩)
       have HC4:=Hd (show Chg R w w4 from (Chg.of_below HB3.out.drew (fun k q1 q2=>by omega)).trans (hch.mono (fun k _ hk=>by subst hk;exact .inl (H.out.maps.own p.claims (by simp [Ptr.maps])))));have HR4:=Hd ((hch.block mb (gE HR3.out).1 (HMBN.out p.claims (by simp [Ptr.maps]))).trans HR3.out);clear hkl hch x10 c0 c1 c2 c3 c4 c5 c6 c7 fz KP IP;rcases hg:getA m.frm s.claims with _ | y
       ·have HE:=Hd (show s.receive m (validB m) = {s with claims:=putA m.frm m s.claims,order:=s.order ++ [m.frm]} from by rw [HGQ.out,hg]);rw [keepA_none hg] at HN4;clear hg HGQ HGP HGO;obtain ⟨c0,c1,c2,c3,c4,c5,c6,c7,fz⟩:=MRow.of HR4.out;obtain ⟨mv,hmv⟩:∃mv,mv=p.order:=⟨_,rfl⟩;have x11:=HN4.out.nc.c11;have xfz:=HN4.out.nc.fz;rw [←hmv] at x11;have hown:=HN4.out.rest.order.1;rw [←hmv] at hown;have HMV:=Hd hmv;obtain ⟨ti,hi,hz0,hz1,hz2⟩:=info_parts Tryz.infoI;obtain ⟨wz,hwz⟩:∃wz,wz=(w4.alloc (.cells #[.int .i64 m.frm] 3)).drew:=⟨_,rfl⟩;have HBZ:=Hd (show Below w4.heap.size w4 wz from by rw [hwz];exact ((Below.refl _ _).alloc (Nat.le_refl _) _).drew);have HNZ:=Hd (HN4.out.below HBZ.out);obtain ⟨XS,hXS⟩:∃XS,XS=s.order.map iv:=⟨_,rfl⟩;have HOD:wz.ownsRow 0 3 1 mv s.order.length XS:=by rw [hXS];exact ownsRow_blk hown (fun g _ hl=>HBZ.out.block g hl)
        have HXS:=Hd hXS;have NEW:=show ∀j u,[Value.int .i64 m.frm][j]?=some u→wz.cell? ((⟨w4.heap.size,0,none⟩:Addr).add j)=some u from by
         rw [hwz];exact cells_at w4 [.int .i64 m.frm] 3 w4.heap.size rfl
        have FIN:=Hd (show ∀(v2:Value) (w7:World),w7.ownsRow 0 3 1 v2 (s.order.length+1) (XS ++ [.int .i64 m.frm])→wz.grownBy w7 mv.ownBlock→(∀g,v2.ownBlock=some g→mv.ownBlock=some g∨wz.heap.size≤g) →
          Turned R w x (s.receive m (validB m)) (w7.setCell ⟨x,11,none⟩ v2)∧(∃g c,v2 = .slice (some ⟨g,0,none⟩) (s.order.length+1) c)∧w7.cell? ⟨x,11,none⟩=some mv∧∀o,w7.frozen? ⟨x,o,none⟩=false from by
         intro v2 w7 own gr hn;rw [HMV.out] at gr hn ⊢;have hz:=HBZ.out.size;have hmr:=HNZ.out.rest.order.2;have hx7:=(HNZ.out.order_grown gr x _ _ _ HNZ.out.mem HNZ.out.node (by decide)).trans HNZ.out.node;refine ⟨⟨{p with order:=v2},fun k=>(R k∨New w3.drew w4 k)∨v2.ownBlock=some k,?_,?_,⟨fun k hk=>.inl (.inl hk),fun k hk=>?_⟩⟩,?_,?_,fun o=>frozen_of_row w7 x o _ _ hx7⟩
         ·rw [HE.out];exact HNZ.out.order_put gr (z:=m.frm) (by rw [HXS.out] at own;exact own) hn
         ·exact HC4.out.trans ((Chg.of_below HBZ.out (fun k q1 q2=>by omega)).trans ((Chg.grown (C:=fun k=>(R k∨w.heap.size≤k)∨w4.heap.size≤k) gr (fun k e=>by
           rcases hmr k e with q | q
           ·exact .inl (.inl q)
           have h1:w3.heap.size≤k:=q.1;exact .inl (.inr (by omega)))).trans (Chg.set _ x 11 v2 (.inl (.inl (.inl H.out.mem))))))
         ·rcases hk with hk | hk
          ·exact HG4.out.2 k hk
          rcases hn k hk with q | q
          ·exact HG4.out.2 k (hmr k q)
          exact .inr (by omega)
         ·rcases own.2 with ⟨_,h0⟩ | ⟨g,c,_,hv,_⟩
          ·omega
          exact ⟨g,c,hv⟩
         rw [cell_of_row w7 x 11 _ _ _ hx7];rfl)
        have x11a:=cell_up x11 (.cells #[.int .i64 m.frm] 3);have c1a:=cell_up c1 (.cells #[.int .i64 m.frm] 3);clear hmv hXS hown;go_upto_region 15 with (fail)
        go_region_law (first
         | (refine step_new (by rfl) (.tmp 101) (.tmp 104) 47 (by rfl) 0 3 ti (.int .i64 0) 1 8 Tryz.underlying47 hi hz0 hz1 hz2 (by rfl) (by decide) mv s.order.length XS ?_ ?_ ⟨w4.heap.size,0,none⟩ 1 1 [.int .i64 m.frm] ?_ (by rfl) ?_ (by intro u hu;simp at hu;subst hu;rfl) ?_ ?_ ?_ ?_;(simp [Act.eval,Act.put]);(rw [←hwz];with_reducible exact HOD);(simp [Act.eval,Act.put]);(rw [←hwz];with_reducible exact NEW);(unfold maxLen;omega);omega;omega;rw [←hwz];intro v2 w7 own2 gr2 hn2;obtain ⟨hfin,⟨g2,cp2,rfl⟩,hx7,hf7⟩:=FIN.out v2 w7 own2 gr2 hn2;have HF:=Hd hfin;clear hfin own2 gr2 hn2))
        all_goals (
         go_wp2
         exact bodyPost_end (results_none rfl _ _ _) rfl ⟨rfl,HF.out⟩)
       have HE:=Hd (show s.receive m (validB m)=s from by rw [HGQ.out,hg]);rw [keepA_some hg] at HN4;clear hg;go_wp2
       refine bodyPost_end (results_none rfl _ _ _) rfl ⟨rfl,?_⟩;rw [HE.out];exact ⟨p,_,HN4.out,HC4.out,HG4.out⟩
      rw [hp] at IP;have HE:=Hd (show s.receive m (validB m) = {s with props:=keepA s.props m.round m} from by rw [HGP.out,hp,if_pos rfl]);obtain ⟨L,hL,hA⟩:=HNS.out.drew.maps.props;have KP:=Hd (keep_any (R:=R) (R0:=R0) (m:=m) hL hA ⟨_,rfl,HLS.out⟩ (fun k hk=>Nat.lt_of_lt_of_le (H0.out k hk) HB3.out.size) (by omega) m.round);clear hL hA hp hmb3;unfold encM iv at KP;rw [hkk] at KP;have x9:=HNS.out.nc.c9;have hw3:=HB3.out.size;go_upto_region 13 with (go_at_call 76;refine IP.out.mono ?_;rintro e wq ⟨rfl,hwq⟩;rw [hwq];clear hwq wq)
      go_region_law (go_simp;go_at_call 77;(with_reducible refine (KP.out).mono ?_);rintro e w4 ⟨rfl,hkl,hch⟩;have HKL:=Hd hkl;have HCH:=Hd hch;clear hkl hch)
      all_goals (
       go_wp2
       refine bodyPost_end (results_none rfl _ _ _) rfl ⟨rfl,p,fun k=>R k∨New w3.drew w4 k,?_,?_,?_⟩
       ·rw [HE.out];exact HNS.out.drew.props_new (fun k hk hn=>HCH.out.block k hk hn) (fun k hk=>.inl hk) (fun k hk=>by
         rcases hk with hk | hk
         ·exact Nat.lt_of_lt_of_le (HNS.out.lt k hk) HCH.out.size
         exact hk.2) _ HKL.out
       ·exact (Chg.of_below HB3.out.drew (fun k q1 q2=>by omega)).trans (HCH.out.mono (fun k _ hk=>by subst hk;exact .inl (H.out.maps.own p.props (by simp [Ptr.maps]))))
       refine ⟨fun k hk=>.inl hk,fun k hk=>?_⟩;rcases hk with hk | hk
       ·exact .inl hk
       have h1:w3.heap.size≤k:=hk.1;exact .inr (by omega))
    have HE:=Hd (rcv_ask HBD.out.symm HKS.out hd);rw [hd] at ID;clear hd hkk DONE;go_wp2_with (first
     | (go_at_call 63;refine ID.out.mono ?_;rintro e w2 ⟨rfl,hb⟩;have HB2:=Hd (HB1.out.trans (hb.mono HB1.out.size));have HR2:=(hb.block mb (gE HRM.out).1).trans HRM.out;clear hb c0 c1 c2 c3 c4 c5 c6 c7 fz;obtain ⟨c0,c1,c2,c3,c4,c5,c6,c7,fz⟩:=MRow.of HR2;rw [HKK.out] at c0;clear HR2)
     | (go_at_call 74;refine (AK.out _ HB2.out).mono ?_;rintro e w3 ⟨rfl,ht⟩;have HT:=Hd ht;clear ht))
    refine bodyPost_ret (results_none rfl _ _ _) rfl ⟨rfl,?_⟩;rw [HE.out];exact Turned.after HB2.out HT.out
   ·have AK:=Hd (fun W (hW:Below w.heap.size w W)=>ask_any (R:=R) (R0:=R0) (m:=m) (H.out.below hW) ⟨_,rfl,HL.out.below H0.out hW⟩ HI.out.n1 ⟨HPL.out.1,by have:=HPL.out.2.1;omega⟩ ⟨HPL.out.2.2.1,by have:=HPL.out.2.2.2.1;omega⟩);have HKK:=Hd hkk;unfold encM iv pv at AK;rw [hkk] at AK c0;rcases hd:s.isDec m.height with _ | _
    ·have HGO:=Hd (rcv_go HBD.out.symm HKS.out hd);rw [hd] at ID;clear hd;go_upto_region 9 with (go_at_call 63;refine ID.out.mono ?_;rintro e w2 ⟨rfl,hb⟩;have HB2:=Hd (HB1.out.trans (hb.mono HB1.out.size));have HR2:=Hd ((hb.block mb (gE HRM.out).1).trans HRM.out);clear hb)
     clear c0 c1 c2 c3 c4 c5 c6 c7 fz;obtain ⟨c0,c1,c2,c3,c4,c5,c6,c7,fz⟩:=MRow.of HR2.out;rw [hkk] at c0;have d0:=(H.out.below HB2.out).nc.c0;go_region
     obtain ⟨w3,hw3⟩:∃w3,w3=w2.drew:=⟨_,rfl⟩;have HB3:=Hd (show Below w.heap.size w w3 from by rw [hw3];exact HB2.out.drew);have HR3:=Hd (show w3.heap[mb]?=some (.cells (encM m (.slice ao m.list.length cap)) 36 (0,0)) from by rw [hw3];exact HR2.out);rw [←hw3];clear hw3 c0 c1 c2 c3 c4 c5 c6 c7 fz d0 HR2 HB2 AK ID;obtain ⟨c0,c1,c2,c3,c4,c5,c6,c7,fz⟩:=MRow.of HR3.out;rw [hkk] at c0;by_cases hlt:m.height<s.height
     ·have hlt2:decide (m.height<s.height)=true:=by simpa using hlt
      have HD:=Hd (DONE.out (by rw [HGO.out,if_pos hlt]) _ HB3.out);clear DONE;go_wp2
      exact bodyPost_ret (results_none rfl _ _ _) rfl ⟨rfl,HD.out⟩
     have hlt2:decide (m.height<s.height)=false:=by simpa using hlt
     clear DONE
     ·skip
      have PU:=Hd (fun W (hW:Below w.heap.size w W)=>put_any (R:=R) (R0:=R0) (m:=m) (H.out.below hW) ⟨_,rfl,HL.out.below H0.out hW⟩ (fun k hk=>Nat.lt_of_lt_of_le (H0.out k hk) hW.size) hl (by rw [hkk];rfl) HVA.out HFR.out);have HE:=Hd (show s.receive m (validB m)=s.putVote m from by rw [HGO.out,if_neg hlt,if_pos (by omega)]);unfold encM iv pv at PU;rw [hkk] at PU;clear hkk;go_wp2_with (go_at_call 75;refine (PU.out _ HB3.out).mono ?_;rintro e w4 ⟨rfl,ht⟩;have HT:=Hd ht;clear ht)
      refine bodyPost_end (results_none rfl _ _ _) rfl ⟨rfl,?_⟩;rw [HE.out];exact Turned.after HB3.out HT.out
    have HE:=Hd (rcv_ask HBD.out.symm HKS.out hd);rw [hd] at ID;clear hd hkk DONE;go_wp2_with (first
     | (go_at_call 63;refine ID.out.mono ?_;rintro e w2 ⟨rfl,hb⟩;have HB2:=Hd (HB1.out.trans (hb.mono HB1.out.size));have HR2:=(hb.block mb (gE HRM.out).1).trans HRM.out;clear hb c0 c1 c2 c3 c4 c5 c6 c7 fz;obtain ⟨c0,c1,c2,c3,c4,c5,c6,c7,fz⟩:=MRow.of HR2;rw [HKK.out] at c0;clear HR2)
     | (go_at_call 74;refine (AK.out _ HB2.out).mono ?_;rintro e w3 ⟨rfl,ht⟩;have HT:=Hd ht;clear ht))
    refine bodyPost_ret (results_none rfl _ _ _) rfl ⟨rfl,?_⟩;rw [HE.out];exact Turned.after HB2.out HT.out
   ·have AK:=Hd (fun W (hW:Below w.heap.size w W)=>ask_any (R:=R) (R0:=R0) (m:=m) (H.out.below hW) ⟨_,rfl,HL.out.below H0.out hW⟩ HI.out.n1 ⟨HPL.out.1,by have:=HPL.out.2.1;omega⟩ ⟨HPL.out.2.2.1,by have:=HPL.out.2.2.2.1;omega⟩);have HKK:=Hd hkk;unfold encM iv pv at AK;rw [hkk] at AK c0;rcases hd:s.isDec m.height with _ | _
    ·have HGO:=Hd (rcv_go HBD.out.symm HKS.out hd);rw [hd] at ID;clear hd;go_upto_region 9 with (go_at_call 63;refine ID.out.mono ?_;rintro e w2 ⟨rfl,hb⟩;have HB2:=Hd (HB1.out.trans (hb.mono HB1.out.size));have HR2:=Hd ((hb.block mb (gE HRM.out).1).trans HRM.out);clear hb)
     clear c0 c1 c2 c3 c4 c5 c6 c7 fz;obtain ⟨c0,c1,c2,c3,c4,c5,c6,c7,fz⟩:=MRow.of HR2.out;rw [hkk] at c0;have d0:=(H.out.below HB2.out).nc.c0;go_region
     obtain ⟨w3,hw3⟩:∃w3,w3=w2.drew:=⟨_,rfl⟩;have HB3:=Hd (show Below w.heap.size w w3 from by rw [hw3];exact HB2.out.drew);have HR3:=Hd (show w3.heap[mb]?=some (.cells (encM m (.slice ao m.list.length cap)) 36 (0,0)) from by rw [hw3];exact HR2.out);rw [←hw3];clear hw3 c0 c1 c2 c3 c4 c5 c6 c7 fz d0 HR2 HB2 AK ID;obtain ⟨c0,c1,c2,c3,c4,c5,c6,c7,fz⟩:=MRow.of HR3.out;rw [hkk] at c0;by_cases hlt:m.height<s.height
     ·have hlt2:decide (m.height<s.height)=true:=by simpa using hlt
      have HD:=Hd (DONE.out (by rw [HGO.out,if_pos hlt]) _ HB3.out);clear DONE;go_wp2
      exact bodyPost_ret (results_none rfl _ _ _) rfl ⟨rfl,HD.out⟩
     have hlt2:decide (m.height<s.height)=false:=by simpa using hlt
     clear DONE
     ·skip
      have PU:=Hd (fun W (hW:Below w.heap.size w W)=>put_any (R:=R) (R0:=R0) (m:=m) (H.out.below hW) ⟨_,rfl,HL.out.below H0.out hW⟩ (fun k hk=>Nat.lt_of_lt_of_le (H0.out k hk) hW.size) hl (by rw [hkk];rfl) HVA.out HFR.out);have HE:=Hd (show s.receive m (validB m)=s.putVote m from by rw [HGO.out,if_neg hlt,if_pos (by omega)]);unfold encM iv pv at PU;rw [hkk] at PU;clear hkk;go_wp2_with (go_at_call 75;refine (PU.out _ HB3.out).mono ?_;rintro e w4 ⟨rfl,ht⟩;have HT:=Hd ht;clear ht)
      refine bodyPost_end (results_none rfl _ _ _) rfl ⟨rfl,?_⟩;rw [HE.out];exact Turned.after HB3.out HT.out
    have HE:=Hd (rcv_ask HBD.out.symm HKS.out hd);rw [hd] at ID;clear hd hkk DONE;go_wp2_with (first
     | (go_at_call 63;refine ID.out.mono ?_;rintro e w2 ⟨rfl,hb⟩;have HB2:=Hd (HB1.out.trans (hb.mono HB1.out.size));have HR2:=(hb.block mb (gE HRM.out).1).trans HRM.out;clear hb c0 c1 c2 c3 c4 c5 c6 c7 fz;obtain ⟨c0,c1,c2,c3,c4,c5,c6,c7,fz⟩:=MRow.of HR2;rw [HKK.out] at c0;clear HR2)
     | (go_at_call 74;refine (AK.out _ HB2.out).mono ?_;rintro e w3 ⟨rfl,ht⟩;have HT:=Hd ht;clear ht))
    refine bodyPost_ret (results_none rfl _ _ _) rfl ⟨rfl,?_⟩;rw [HE.out];exact Turned.after HB2.out HT.out
   have AK:=Hd (fun W (hW:Below w.heap.size w W)=>ask_any (R:=R) (R0:=R0) (m:=m) (H.out.below hW) ⟨_,rfl,HL.out.below H0.out hW⟩ HI.out.n1 ⟨HPL.out.1,by have:=HPL.out.2.1;omega⟩ ⟨HPL.out.2.2.1,by have:=HPL.out.2.2.2.1;omega⟩);have HKK:=Hd hkk;unfold encM iv pv at AK;rw [hkk] at AK c0;rcases hd:s.isDec m.height with _ | _
   ·have HGO:=Hd (rcv_go HBD.out.symm HKS.out hd);rw [hd] at ID;clear hd;go_upto_region 9 with (go_at_call 63;refine ID.out.mono ?_;rintro e w2 ⟨rfl,hb⟩;have HB2:=Hd (HB1.out.trans (hb.mono HB1.out.size));have HR2:=Hd ((hb.block mb (gE HRM.out).1).trans HRM.out);clear hb)
    clear c0 c1 c2 c3 c4 c5 c6 c7 fz;obtain ⟨c0,c1,c2,c3,c4,c5,c6,c7,fz⟩:=MRow.of HR2.out;rw [hkk] at c0;have d0:=(H.out.below HB2.out).nc.c0;go_region
    obtain ⟨w3,hw3⟩:∃w3,w3=w2.drew:=⟨_,rfl⟩;have HB3:=Hd (show Below w.heap.size w w3 from by rw [hw3];exact HB2.out.drew);have HR3:=Hd (show w3.heap[mb]?=some (.cells (encM m (.slice ao m.list.length cap)) 36 (0,0)) from by rw [hw3];exact HR2.out);rw [←hw3];clear hw3 c0 c1 c2 c3 c4 c5 c6 c7 fz d0 HR2 HB2 AK ID;obtain ⟨c0,c1,c2,c3,c4,c5,c6,c7,fz⟩:=MRow.of HR3.out;rw [hkk] at c0;by_cases hlt:m.height<s.height
    ·have hlt2:decide (m.height<s.height)=true:=by simpa using hlt
     have HD:=Hd (DONE.out (by rw [HGO.out,if_pos hlt]) _ HB3.out);clear DONE;go_wp2
     exact bodyPost_ret (results_none rfl _ _ _) rfl ⟨rfl,HD.out⟩
    have hlt2:decide (m.height<s.height)=false:=by simpa using hlt
    clear DONE
    ·skip
     have PU:=Hd (fun W (hW:Below w.heap.size w W)=>put_any (R:=R) (R0:=R0) (m:=m) (H.out.below hW) ⟨_,rfl,HL.out.below H0.out hW⟩ (fun k hk=>Nat.lt_of_lt_of_le (H0.out k hk) hW.size) hl (by rw [hkk];rfl) HVA.out HFR.out);have HE:=Hd (show s.receive m (validB m)=s.putVote m from by rw [HGO.out,if_neg hlt,if_pos (by omega)]);unfold encM iv pv at PU;rw [hkk] at PU;clear hkk;go_wp2_with (go_at_call 75;refine (PU.out _ HB3.out).mono ?_;rintro e w4 ⟨rfl,ht⟩;have HT:=Hd ht;clear ht)
     refine bodyPost_end (results_none rfl _ _ _) rfl ⟨rfl,?_⟩;rw [HE.out];exact Turned.after HB3.out HT.out
   have HE:=Hd (rcv_ask HBD.out.symm HKS.out hd);rw [hd] at ID;clear hd hkk DONE;go_wp2_with (first
    | (go_at_call 63;refine ID.out.mono ?_;rintro e w2 ⟨rfl,hb⟩;have HB2:=Hd (HB1.out.trans (hb.mono HB1.out.size));have HR2:=(hb.block mb (gE HRM.out).1).trans HRM.out;clear hb c0 c1 c2 c3 c4 c5 c6 c7 fz;obtain ⟨c0,c1,c2,c3,c4,c5,c6,c7,fz⟩:=MRow.of HR2;rw [HKK.out] at c0;clear HR2)
    | (go_at_call 74;refine (AK.out _ HB2.out).mono ?_;rintro e w3 ⟨rfl,ht⟩;have HT:=Hd ht;clear ht))
   refine bodyPost_ret (results_none rfl _ _ _) rfl ⟨rfl,?_⟩;rw [HE.out];exact Turned.after HB2.out HT.out
  have k3:(m.kind == 3)=false:=by simp;omega
  have k4:(m.kind == 4)=false:=by simp;omega
  have k6:(m.kind == 6)=false:=by simp;omega
  have k5:(m.kind == 5)=false:=by simp;omega
  have HD:=Hd (DONE.out (rcv_kind hks) w1 HB1.out);clear DONE hks;go_wp2
  exact bodyPost_ret (results_none rfl _ _ _) rfl ⟨rfl,HD.out⟩
 have HD:=Hd (DONE.out (rcv_bad HBD.out.symm) w1 HB1.out);clear DONE;go_wp2
 exact bodyPost_ret (results_none rfl _ _ _) rfl ⟨rfl,HD.out⟩
end
end
end Go.Proofs.YtifcdjmcoibblaaGreatDoor
