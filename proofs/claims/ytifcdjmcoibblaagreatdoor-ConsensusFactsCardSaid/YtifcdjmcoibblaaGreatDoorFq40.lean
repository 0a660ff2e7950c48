/- SanM Vot Duo Sne Kyp Acl -/
import Derived.Test.YtifcdjmcoibblaaGreatDoorFq39
import Derived.Test.YtifcdjmcoibblaaGreatDoorFq38
import Derived.Test.YtifcdjmcoibblaaGreatDoorFq33
import Derived.Test.YtifcdjmcoibblaaGreatDoorFq31
import Derived.Test.YtifcdjmcoibblaaGreatDoorFq01
import Derived.Test.YtifcdjmcoibblaaGreatDoorFq12
import Derived.Test.YtifcdjmcoibblaaGreatDoorFq06
import Derived.Laws.Externs
import Derived.MapKept
set_option linter.unusedVariables false
set_option linter.unusedSimpArgs false
set_option linter.unusedSectionVars false
set_option maxRecDepth 100000
set_option maxHeartbeats 80000000
namespace Go.Proofs.YtifcdjmcoibblaaGreatDoor
section
open Go.RowKit
def rn (q:S6):StB:=q.ren (codeD tab6) (codeL tab6)
theorem d4:codeD tab6 (4:QZ 5)=digV (fam 1):=by unfold codeD;rw [if_neg (by decide)];rfl
theorem l4:codeL tab6 (4:QZ 5)=fam 1:=by unfold codeL;rw [if_neg (by decide)];rfl
theorem d3:codeD tab6 (3:QZ 5)=digV (fam 9):=by unfold codeD;rw [if_neg (by decide)];rfl
theorem l3:codeL tab6 (3:QZ 5)=fam 9:=by unfold codeL;rw [if_neg (by decide)];rfl
theorem fam9:fam 9 = []:=rfl
theorem rn_begin1 (q:S6) (h:Int):(rn q).begin h (ascS (fam 1)) (digV (fam 1)) (fam 1)=(rn (q.begin h true 4 4).1,(q.begin h true 4 4).2):=by
 rw [asc_fam (by omega),←d4,←l4];exact begin_ren ren6 q h true 4 4
theorem rn_begin9 (q:S6) (h:Int):(rn q).begin h (ascS []) (digV []) []=(rn (q.begin h true 3 3).1,(q.begin h true 3 3).2):=by
 rw [←fam9,asc_fam (by omega),←d3,←l3];exact begin_ren ren6 q h true 3 3
theorem rn_tick (q:S6):(rn q).tick.1=rn q.tick.1∧(rn q).tick.2.length=q.tick.2.length:=by
 unfold rn;rw [tick_ren ren6];exact ⟨rfl,List.length_map _⟩
theorem rn_new (id n:Int):(newS id n:StB)=rn (newS id n):=rfl
def vM (kind frm:Int):MsgB:=⟨kind,frm,0,0,0,0,digV (fam 1),[]⟩
theorem vM_valid {kind frm:Int} (h:kind=4∨kind=5∨kind=6) (h1:1≤frm) (h2:frm<7):validB (vM kind frm)=true:=by
 have hs:sitesB (vM kind frm)=true:=by
  unfold sitesB siteB vM;simp;omega
 have hv:voteOk (vM kind frm)=true:=by
  unfold voteOk placedB vM;simp [digV_size]
 unfold validB;rw [hs,hv];have k1:(vM kind frm).kind=kind:=rfl;rw [k1,if_neg (by omega),if_neg (by omega),if_neg (by omega)];unfold voteB;rcases h with q | q | q <;> rw [q] <;> rfl
theorem rn_recv (q:S6) {kind frm:Int} (h:kind=4∨kind=5∨kind=6) (h1:1≤frm) (h2:frm<7):(rn q).receive (vM kind frm) (validB (vM kind frm))=rn (q.receive (vq kind frm 4) true):=by
 rw [vM_valid h h1 h2];have e:vM kind frm=(vq kind frm 4).ren (codeD tab6) (codeL tab6):=by
  show (⟨kind,frm,0,0,0,0,digV (fam 1),[]⟩:MsgB)=⟨kind,frm,0,0,0,0,codeD tab6 (4:QZ 5),codeL tab6 (0:QZ 5)⟩;rw [d4];rfl
 rw [e];exact receive_ren ren6 q _ true
theorem rn_dec (q:S6) (h:(match getA 0 q.decs with | some v=>decide (v.list=4) | none=>false)=true):∃v,getA 0 (rn q).decs=some v∧v.list=fam 1:=by
 rcases e:getA 0 q.decs with _ | v
 ·rw [e] at h;cases h
 rw [e] at h;refine ⟨v.ren (codeD tab6) (codeL tab6),?_,?_⟩
 ·show getA 0 (mapV _ q.decs)=_;rw [getA_ren,e];rfl
 show codeL tab6 v.list=fam 1;rw [of_decide_eq_true h,l4]
theorem rn_undec (q:S6) (h:(getA 0 q.decs).isNone=true):getA 0 (rn q).decs=none:=by
 show getA 0 (mapV _ q.decs)=_;rw [getA_ren];rcases e:getA 0 q.decs with _ | v
 ·rfl
 rw [e] at h;cases h
theorem rn_lock (q:S6) (h:isV q.lock 0 4=true):∃v,(rn q).lock=some v∧v.round=0∧v.list=fam 1:=by
 unfold isV at h;rcases e:q.lock with _ | v
 ·rw [e] at h;cases h
 rw [e] at h;simp at h;refine ⟨v.ren (codeD tab6) (codeL tab6),?_,h.1,?_⟩
 ·show q.lock.map _=_;rw [e];rfl
 show codeL tab6 v.list=fam 1;rw [h.2,l4]
end
section
open Go.RowKit
theorem vote_any (kind frm:Int) (d:ByteArray) (w:World):Calls Tryz.prog 60 #[iv kind,iv frm,.string d] w fun e w'=>e = .returned (.agg (encM ⟨kind,frm,0,0,0,0,d,[]⟩ (.slice none 0 0)))∧Below w.heap.size w w':=by
 unfold iv encM;go_enter Tryz.func60,Tryz.ntmps60
 go_wp2
 have hrow:=World.alloc_heap_new w (.cells #[.int .i64 kind,.int .i64 frm,.int .i64 0,.int .i64 0,.int .i64 0,.int .i64 0,.string d,.slice none 0 0] 36);have hbel:=(Below.refl _ w).alloc (Nat.le_refl _) (.cells #[.int .i64 kind,.int .i64 frm,.int .i64 0,.int .i64 0,.int .i64 0,.int .i64 0,.string d,.slice none 0 0] 36);exact bodyPost_ret (results_cell_row rfl _ _ w.heap.size _ _ _ _ rfl hrow Tryz.underlying36 rfl (by kernel_rfl)) rfl ⟨rfl,hbel⟩
end
section
open Go.RowKit
structure Duo (base:Nat) (w5:World) (xo xx:Nat) (R5:Nat→Nat→Prop) (W:World) (a b:S6) (vs:List Value):Prop where
 sail:∃Rk,Sail GA base w5 [xo,xx] R5 W [rn a,rn b] Rk∧∀v∈vs,LRow (Asd [xo,xx].length Rk W) W v (fam 1)
 pos:0<base
 le:base≤w5.heap.size
 net:∃ss,Net GA base w5 [xo,xx] ss R5
 glob:Glob w5
section
variable {base:Nat} {w5 W W':World} {xo xx:Nat} {R5:Nat→Nat→Prop} {a b:S6} {vs:List Value}
theorem Duo.size (h:Duo base w5 xo xx R5 W a b vs):base≤W.heap.size:=by
 obtain ⟨Rk,hs,hv⟩:=h.sail;exact Nat.le_trans h.le hs.chg.size
theorem Duo.gl (h:Duo base w5 xo xx R5 W a b vs):Glob W:=by
 obtain ⟨Rk,hs,hv⟩:=h.sail;obtain ⟨ss,hn⟩:=h.net;exact hs.glob hn h.pos (by have:=h.le;have:=h.pos;omega) h.glob
theorem Duo.later (h:Duo base w5 xo xx R5 W a b vs) (hb:Below W.heap.size W W'):Duo base w5 xo xx R5 W' a b vs:=by
 obtain ⟨Rk,hs,hv⟩:=h.sail;exact ⟨⟨Rk,hs.later hb,fun v q=>(hv v q).asLater hb⟩,h.pos,h.le,h.net,h.glob⟩
theorem Duo.below (h:Duo base w5 xo xx R5 W a b vs):Below base w5 W:=by
 obtain ⟨Rk,hs,hv⟩:=h.sail;obtain ⟨ss,hn⟩:=h.net;exact hs.chg.below h.le (fun k hk=>hn.low hk)
theorem Duo.step {ss:List StB} {Rk Rs:Nat→Nat→Prop} (h:Duo base w5 xo xx R5 W a b vs) (hs:Sail GA base w5 [xo,xx] R5 W [rn a,rn b] Rk) (hv:∀v∈vs,LRow (Asd [xo,xx].length Rk W) W v (fam 1)) {a' b':S6} (h2:Sail GA base W [xo,xx] Rk W' ss Rs) (e:ss = [rn a',rn b']):Duo base w5 xo xx R5 W' a' b' vs:=
 ⟨⟨Rs,hs.trans (e ▸ h2),fun v q=>h2.row (hv v q)⟩,h.pos,h.le,h.net,h.glob⟩
theorem out_slice {Z:Nat→Prop} {w W:World} {v:Value} {ms:List MsgB} (h:OutR Z w W v ms):∃ao cap,v = .slice ao ms.length cap:=by
 obtain ⟨sls,h1,h2,h3⟩:=h;rcases h2.2 with ⟨e,h0⟩ | ⟨g,c,_,e,_⟩
 ·exact ⟨none,0,by rw [e,h0]⟩
 exact ⟨_,_,e⟩
theorem duo_tick1 (h:Duo base w5 xo xx R5 W a b vs) (hT:b.ticks≤1000):Calls Tryz.prog 18 #[pv xx] W fun e w'=>(∃ao cap,e = .returned (.slice ao b.tick.2.length cap))∧Duo base w5 xo xx R5 w' a b.tick.1 vs:=by
 obtain ⟨Rk,hs,hv⟩:=h.sail;refine (ntick GA.gf hs.net h.size (i:=1) rfl rfl (MeekT.of GA_two) (by show b.ticks≤_;omega)).mono ?_;rintro e w' ⟨v,Rs,rfl,h2,ho⟩;obtain ⟨ao,cap,rfl⟩:=out_slice ho;rw [(rn_tick b).2];exact ⟨⟨ao,cap,rfl⟩,h.step hs hv h2 (by rw [(rn_tick b).1];rfl)⟩
theorem duo_tick0 (h:Duo base w5 xo xx R5 W a b vs) (hT:a.ticks≤1000):Calls Tryz.prog 18 #[pv xo] W fun e w'=>(∃ao cap,e = .returned (.slice ao a.tick.2.length cap))∧Duo base w5 xo xx R5 w' a.tick.1 b vs:=by
 obtain ⟨Rk,hs,hv⟩:=h.sail;refine (ntick GA.gf hs.net h.size (i:=0) rfl rfl (MeekT.of GA_two) (by show a.ticks≤_;omega)).mono ?_;rintro e w' ⟨v,Rs,rfl,h2,ho⟩;obtain ⟨ao,cap,rfl⟩:=out_slice ho;rw [(rn_tick a).2];exact ⟨⟨ao,cap,rfl⟩,h.step hs hv h2 (by rw [(rn_tick a).1];rfl)⟩
theorem duo_recv (h:Duo base w5 xo xx R5 W a b vs) {kind frm:Int} (hk:kind=4∨kind=5∨kind=6) (h1:1≤frm) (h7:frm<7):Calls Tryz.prog 20 #[pv xx,.agg (encM (vM kind frm) (.slice none 0 0))] W fun e w'=>e = .returned (.tuple #[])∧Duo base w5 xo xx R5 w' a (b.receive (vq kind frm 4) true) vs:=by
 obtain ⟨Rk,hs,hv⟩:=h.sail;refine (nrecv (R0:=fun _=>False) (m:=vM kind frm) GA.gf hs.net h.size (i:=1) rfl rfl ⟨_,rfl,LRow.nil _ _⟩ (fun k hk=>hk.elim) (by show 0≤60;omega) h.gl (fun _ q=>by
  have:kind=3:=q;omega)).mono ?_
 rintro e w' ⟨rfl,Rs,h2⟩;exact ⟨rfl,h.step hs hv h2 (by rw [rn_recv b hk h1 h7];rfl)⟩
theorem duo_begin1 {v:Value} (h:Duo base w5 xo xx R5 W a b vs) (hm:v∈vs) (k:Int):Calls Tryz.prog 16 #[pv xx,iv k,v] W fun e w'=>e = .returned (errE (b.begin k true 4 4).2)∧Duo base w5 xo xx R5 w' a (b.begin k true 4 4).1 vs:=by
 obtain ⟨Rk,hs,hv⟩:=h.sail;refine (nbegin GA.gf hs.net h.size (i:=1) rfl rfl (hv v hm) (fun _ hk=>hk.1) fam_len h.gl (fun _ _=>GA.fam (by omega)) k).mono ?_;rintro e w' ⟨rfl,Rs,h2⟩;rw [rn_begin1] at h2 ⊢;exact ⟨rfl,h.step hs hv h2 rfl⟩
theorem duo_begin0 {v:Value} (h:Duo base w5 xo xx R5 W a b vs) (hm:v∈vs) (k:Int):Calls Tryz.prog 16 #[pv xo,iv k,v] W fun e w'=>e = .returned (errE (a.begin k true 4 4).2)∧Duo base w5 xo xx R5 w' (a.begin k true 4 4).1 b vs:=by
 obtain ⟨Rk,hs,hv⟩:=h.sail;refine (nbegin GA.gf hs.net h.size (i:=0) rfl rfl (hv v hm) (fun _ hk=>hk.1) fam_len h.gl (fun _ _=>GA.fam (by omega)) k).mono ?_;rintro e w' ⟨rfl,Rs,h2⟩;rw [rn_begin1] at h2 ⊢;exact ⟨rfl,h.step hs hv h2 rfl⟩
theorem duo_begin9 (h:Duo base w5 xo xx R5 W a b vs) (k:Int):Calls Tryz.prog 16 #[pv xx,iv k,.slice none 0 0] W fun e w'=>e = .returned (errE (b.begin k true 3 3).2)∧Duo base w5 xo xx R5 w' a (b.begin k true 3 3).1 vs:=by
 obtain ⟨Rk,hs,hv⟩:=h.sail;refine (nbegin GA.gf hs.net h.size (i:=1) (R0:=fun _=>False) rfl rfl (LRow.nil _ _) (fun k hk=>hk.elim) (by simp) h.gl (fun _ _=>⟨9,by omega,rfl,rfl⟩) k).mono ?_;rintro e w' ⟨rfl,Rs,h2⟩;rw [rn_begin9] at h2 ⊢;exact ⟨rfl,h.step hs hv h2 rfl⟩
theorem Duo.row (h:Duo base w5 xo xx R5 W a b vs) {v:Value} (hm:v∈vs):∃R0:Nat→Prop,LRow R0 W v (fam 1):=by
 obtain ⟨Rk,hs,hv⟩:=h.sail;exact ⟨_,hv v hm⟩
theorem Duo.add (h:Duo base w5 xo xx R5 W a b vs) (hb:Below W.heap.size W W') {v:Value} (hr:LRow (New W W') W' v (fam 1)):Duo base w5 xo xx R5 W' a b (v :: vs):=by
 obtain ⟨Rk,hs,hv⟩:=h.sail;refine ⟨⟨Rk,hs.later hb,fun u q=>?_⟩,h.pos,h.le,h.net,h.glob⟩;rcases List.mem_cons.1 q with rfl | q
 ·exact hr.aside hs.net
 exact (hv u q).asLater hb
theorem duo_dec1 (h:Duo base w5 xo xx R5 W a b vs) (hd:(match getA 0 b.decs with | some v=>decide (v.list=4) | none=>false)=true):Calls Tryz.prog 21 #[pv xx,iv 0] W fun e w'=>∃ao cap,e = .returned (.tuple #[.slice ao (fam 1).length cap,.bool true])∧Duo base w5 xo xx R5 w' a b (.slice ao (fam 1).length cap :: vs):=by
 obtain ⟨Rk,hs,hv⟩:=h.sail;obtain ⟨v,e1,e2⟩:=rn_dec b hd;refine (ndecided GA.gf hs.net (i:=1) rfl rfl 0).mono ?_;rintro e w' ⟨h2,hb⟩;rw [e1] at h2;obtain ⟨u,rfl,hr⟩:=h2;rw [e2] at hr;obtain ⟨ao,cap,rfl,_⟩:=id hr;exact ⟨ao,cap,rfl,h.add hb hr⟩
theorem duo_dec0 (h:Duo base w5 xo xx R5 W a b vs) (hd:(match getA 0 a.decs with | some v=>decide (v.list=4) | none=>false)=true):Calls Tryz.prog 21 #[pv xo,iv 0] W fun e w'=>∃ao cap,e = .returned (.tuple #[.slice ao (fam 1).length cap,.bool true])∧Duo base w5 xo xx R5 w' a b (.slice ao (fam 1).length cap :: vs):=by
 obtain ⟨Rk,hs,hv⟩:=h.sail;obtain ⟨v,e1,e2⟩:=rn_dec a hd;refine (ndecided GA.gf hs.net (i:=0) rfl rfl 0).mono ?_;rintro e w' ⟨h2,hb⟩;rw [e1] at h2;obtain ⟨u,rfl,hr⟩:=h2;rw [e2] at hr;obtain ⟨ao,cap,rfl,_⟩:=id hr;exact ⟨ao,cap,rfl,h.add hb hr⟩
theorem duo_undec (h:Duo base w5 xo xx R5 W a b vs) (hd:(getA 0 b.decs).isNone=true):Calls Tryz.prog 21 #[pv xx,iv 0] W fun e w'=>e = .returned (.tuple #[.slice none 0 0,.bool false])∧Duo base w5 xo xx R5 w' a b vs:=by
 obtain ⟨Rk,hs,hv⟩:=h.sail;refine (ndecided GA.gf hs.net (i:=1) rfl rfl 0).mono ?_;rintro e w' ⟨h2,hb⟩;rw [rn_undec b hd] at h2;exact ⟨h2,h.later hb⟩
theorem duo_lock (h:Duo base w5 xo xx R5 W a b vs) (hd:isV b.lock 0 4=true):Calls Tryz.prog 31 #[pv xx] W fun e w'=>∃ao cap,e = .returned (.tuple #[.int .i64 0,.slice ao (fam 1).length cap])∧Duo base w5 xo xx R5 w' a b (.slice ao (fam 1).length cap :: vs):=by
 obtain ⟨Rk,hs,hv⟩:=h.sail;obtain ⟨v,e1,e0,e2⟩:=rn_lock b hd;refine (nlock GA.gf hs.net (i:=1) rfl rfl).mono ?_;rintro e w' ⟨h2,hb⟩;rw [e1] at h2;obtain ⟨u,rfl,hr⟩:=h2;rw [e2] at hr;rw [e0];obtain ⟨ao,cap,rfl,_⟩:=id hr;exact ⟨ao,cap,rfl,h.add hb hr⟩
theorem duo_height (h:Duo base w5 xo xx R5 W a b vs):Calls Tryz.prog 24 #[pv xx] W fun e w'=>e = .returned (.int .i64 b.height)∧w'=W:=by
 obtain ⟨Rk,hs,hv⟩:=h.sail;exact nheight hs.net (i:=1) rfl rfl
end
end
section
open Go.RowKit
structure One (w2:World) (W:World) (xo:Nat) (vl:Value):Prop where
 net:∃Rs,Net GA w2.heap.size W [xo] [rn (newS 0 1)] Rs
 bel:Below w2.heap.size w2 W
 pos:0<w2.heap.size
 glob:Glob w2
 row:LRow (fun k=>k<w2.heap.size) w2 vl (fam 1)
theorem one_new {w2:World} {vl:Value} (hG:Glob w2) (hr:LRow (fun k=>k<w2.heap.size) w2 vl (fam 1)):Calls Tryz.prog 15 #[.int .i64 0,.int .i64 1] w2 fun e w'=>∃xo,e = .returned (.tuple #[pv xo,.int .i64 0])∧One w2 w' xo vl:=by
 refine (nnew (Net.nil GA w2.heap.size w2 (fun _ _=>False)) (Nat.le_refl _) (id:=0) (n:=1) (by omega) (by omega) (by omega) (by omega)).mono ?_;rintro e w' ⟨x,Rs,rfl,hn,hb,_⟩;refine ⟨x,rfl,⟨Rs,hn⟩,hb,?_,hG,hr⟩;obtain ⟨t,ht⟩:=hG;exact (gE ht).1
theorem One.later {w2 W W':World} {xo:Nat} {vl:Value} (h:One w2 W xo vl) (hb:Below W.heap.size W W'):One w2 W' xo vl:=by
 obtain ⟨Rs,hn⟩:=h.net;exact ⟨⟨Rs,hn.later hb⟩,h.bel.trans (hb.mono h.bel.size),h.pos,h.glob,h.row⟩
theorem two_new {w2 W:World} {xo:Nat} {vl:Value} (h:One w2 W xo vl):Calls Tryz.prog 15 #[.int .i64 0,.int .i64 4] W fun e w'=>∃xx R5,e = .returned (.tuple #[pv xx,.int .i64 0])∧Duo w2.heap.size w' xo xx R5 w' (newS 0 1) (newS 0 4) [vl]∧Below w2.heap.size w2 w':=by
 obtain ⟨Rs,hn⟩:=h.net;refine (nnew hn h.bel.size (id:=0) (n:=4) (by omega) (by omega) (by omega) (by omega)).mono ?_;rintro e w' ⟨x,Rs',rfl,hn',hb,_⟩;have hbb:=h.bel.trans (hb.mono h.bel.size);refine ⟨x,Rs',rfl,⟨⟨Rs',Sail.refl hn',fun v hv=>?_⟩,h.pos,hbb.size,⟨_,hn'⟩,?_⟩,hbb⟩
 ·obtain rfl:=List.mem_singleton.1 hv;exact (h.row.kept (fun g cur fr hr _=>hbb.block g hr)).mono (fun k hk=>⟨Nat.lt_of_lt_of_le hk hbb.size,fun hr=>by have:=hn'.low hr;omega⟩)
 obtain ⟨t,ht⟩:=h.glob;exact ⟨t,(hbb.block 0 h.pos).trans ht⟩
theorem duo_same {base:Nat} {w5 W:World} {xo xx:Nat} {R5:Nat→Nat→Prop} {a b:S6} {vs:List Value} (h:Duo base w5 xo xx R5 W a b vs) {u v:Value} (hu:u∈vs) (hv:v∈vs):Calls Tryz.prog 22 #[u,v] W fun e w'=>e = .returned (.bool true)∧Duo base w5 xo xx R5 w' a b vs:=by
 obtain ⟨Ru,hru⟩:=h.row hu;obtain ⟨Rv,hrv⟩:=h.row hv;obtain ⟨ao,ca,rfl,_,ha⟩:=hru.row;obtain ⟨bo,cb,rfl,_,hb⟩:=hrv.row;refine (same_any ao bo ca cb _ _ (fam 1) (fam 1) W rfl rfl (Nat.le_trans fam_len (by omega)) ha hb).mono ?_;rintro e w' ⟨rfl,hbl⟩;refine ⟨?_,h.later hbl⟩;unfold sameB;rw [decide_eq_true rfl]
theorem errE_t:errE true = .int .i64 0:=rfl
theorem errE_f:errE false = .int .i64 260:=rfl
theorem sane_any (w:World) (hG:Glob w):Calls Tryz.prog 13 #[] w fun e w'=>e = .returned (.bool true)∧Below w.heap.size w w':=by
 have HGL:=Hd hG;obtain ⟨len,hlen⟩:∃len,len=(fam 1).length:=⟨_,rfl⟩;have HLEN:=Hd hlen;have HL1:=Hd (show lstN 1=fam 1 from lst_fam (by omega));obtain ⟨d,hd⟩:∃d,d=digV (fam 1):=⟨_,rfl⟩;have HD:=Hd hd;clear hG hlen hd;go_enter Tryz.func13,Tryz.ntmps13
 go_upto_region 2 with ((go_at_call 17;(with_reducible refine (lists_any _).mono ?_);rintro e w1 ⟨g,rfl,hb1,hl1⟩;have HB1:=Hd hb1;obtain ⟨vl,c1,r1⟩:=hl1.cell 1 (by omega);rw [HL1.out] at r1;obtain ⟨ao,cap,hvl,_⟩:=id r1;rw [←HLEN.out] at hvl;subst hvl;have HR1:=Hd r1;clear hb1 hl1 r1))
 obtain ⟨aoh,caph,hvl2,_,hrow1⟩:=HR1.out.row;have DG:=Hd (show Calls Tryz.prog 26 #[.slice ao len cap] w1 fun e w'=>e = .returned (.string d)∧Below w1.heap.size w1 w' from by
  rw [←HLEN.out] at hvl2;injection hvl2 with e1 e2 e3
  subst e1;have:=rdigest_any ao len cap (fam 1) w1 HLEN.out.symm (by rw [HLEN.out];exact fam_len) hrow1 (asc_fam (by omega));rw [HD.out,digV_asc (asc_fam (by omega))];exact this)
 clear hvl2 hrow1 c1;go_upto_region 3 with ((go_at_call 26;(with_reducible refine DG.out.mono ?_);rintro e w2 ⟨rfl,hb2⟩;have HB2:=Hd hb2;clear hb2))
 have HBW2:=Hd (HB1.out.trans (HB2.out.mono HB1.out.size));have ON:=Hd (one_new (w2:=w2) (vl:=.slice ao len cap) (by
  obtain ⟨t,ht⟩:=HGL.out;exact ⟨t,(HBW2.out.block 0 (gE ht).1).trans ht⟩) ((HR1.out.kept (fun g cur fr hr _=>HB2.out.block g hr.2)).mono (fun k hk=>Nat.lt_of_lt_of_le hk.2 HB2.out.size)))
 unfold pv at ON;go_upto_region 4 with ((go_at_call 15;(with_reducible refine ON.out.mono ?_);rintro e w3 ⟨xo,rfl,h3⟩;have O3:=Hd h3;clear h3))
 have TW:=Hd (two_new O3.out);unfold pv at TW;go_upto_region 5 with ((go_at_call 15;(with_reducible refine TW.out.mono ?_);rintro e w5 ⟨xx,R5,rfl,h5,hb5⟩;have D5:=Hd h5;have HB5:=Hd hb5;clear h5 hb5))
 have NB:=Hd (new_bad 4 4 w5 (by omega));go_upto_region 8 with ((go_at_call 15;(with_reducible refine NB.out.mono ?_);rintro e wq ⟨rfl,hwq⟩;rw [hwq];clear hwq wq))
 obtain ⟨sl,hsl⟩:∃sl,sl=Value.slice ao len cap:=⟨_,rfl⟩;have HSL:=Hd hsl;clear ON TW NB DG O3 HB2 HR1 HB1;have BG:=Hd ((show Calls Tryz.prog 16 #[pv xo,iv 0,.slice ao len cap] w5 fun e w'=>e = .returned (.int .i64 0)∧Duo w2.heap.size w5 xo xx R5 w' o1 (newS 0 4) [.slice ao len cap] from (duo_begin0 D5.out (by simp) 0).mono (fun e w' q=>⟨by rw [q.1,san_a.1];rfl,q.2⟩)));unfold pv iv at BG;go_upto_region 9 with ((go_at_call 16;(with_reducible refine BG.out.mono ?_);rintro e w8 ⟨rfl,hq⟩;have D8:=Hd hq;clear hq))
 clear BG D5;have TK:=Hd (show Calls Tryz.prog 18 #[pv xo] w8 fun e w'=>(∃ao cap,e = .returned (.slice ao 0 cap))∧Duo w2.heap.size w5 xo xx R5 w' o2 (newS 0 4) [.slice ao len cap] from by
  have:=duo_tick0 D8.out (by rw [san_t.1];omega);rw [san_a.2.1] at this;exact this)
 unfold pv at TK;go_upto_region 10 with ((go_at_call 18;(with_reducible refine TK.out.mono ?_);rintro e w9 ⟨⟨_,_,rfl⟩,hq⟩;have D9:=Hd hq;clear hq))
 clear TK D8;have DC:=Hd (show Calls Tryz.prog 21 #[pv xo,iv 0] w9 fun e w'=>∃ao2 cap2,e = .returned (.tuple #[.slice ao2 len cap2,.bool true])∧Duo w2.heap.size w5 xo xx R5 w' o2 (newS 0 4) (.slice ao2 len cap2 :: [.slice ao len cap]) from by
  have:=duo_dec0 D9.out (san_a.2.2);rw [←HLEN.out] at this;exact this)
 unfold pv iv at DC;go_upto_region 11 with ((go_at_call 21;(with_reducible refine DC.out.mono ?_);rintro e w10 ⟨aoG,capG,rfl,hq⟩;have D10:=Hd hq;clear hq))
 clear DC D9;have BG:=Hd ((show Calls Tryz.prog 16 #[pv xx,iv 0,.slice ao len cap] w10 fun e w'=>e = .returned (.int .i64 0)∧Duo w2.heap.size w5 xo xx R5 w' o2 q1 [.slice aoG len capG,.slice ao len cap] from (duo_begin1 D10.out (by simp) 0).mono (fun e w' q=>⟨by rw [q.1,san_b.1];rfl,q.2⟩)));unfold pv iv at BG;go_upto_region 12 with ((go_at_call 16;(with_reducible refine BG.out.mono ?_);rintro e w11 ⟨rfl,hq⟩;have D11:=Hd hq;clear hq))
 clear BG D10;have TK:=Hd (show Calls Tryz.prog 18 #[pv xx] w11 fun e w'=>(∃ao cap,e = .returned (.slice ao 6 cap))∧Duo w2.heap.size w5 xo xx R5 w' o2 q2 [.slice aoG len capG,.slice ao len cap] from by
  have:=duo_tick1 D11.out (by rw [san_t.2.1];omega);rw [san_b.2.1] at this;exact this)
 unfold pv at TK;go_upto_region 13 with ((go_at_call 18;(with_reducible refine TK.out.mono ?_);rintro e w12 ⟨⟨_,_,rfl⟩,hq⟩;have D12:=Hd hq;clear hq))
 clear TK D11;have VT:=Hd (vote_any 4 1 d w12);have RV:=Hd (show ∀W,Below w12.heap.size w12 W→Calls Tryz.prog 20 #[pv xx,.agg (encM ⟨4,1,0,0,0,0,d,[]⟩ (.slice none 0 0))] W fun e w'=>e = .returned (.tuple #[])∧Duo w2.heap.size w5 xo xx R5 w' o2 q3 [.slice aoG len capG,.slice ao len cap] from fun W hW=>by
  rw [HD.out];exact duo_recv (D12.out.later hW) (kind:=4) (frm:=1) (by decide) (by decide) (by decide))
 dsimp only [encM,pv,iv] at VT RV;go_upto_region 14 with (first
  | (go_at_call 60;(with_reducible refine VT.out.mono ?_);rintro e wv ⟨rfl,BV⟩)
  | (go_at_call 20;(with_reducible refine (RV.out _ BV).mono ?_);rintro e w13 ⟨rfl,hq⟩;have D13:=Hd hq;clear hq))
 clear VT RV D12;have VT:=Hd (vote_any 4 2 d w13);have RV:=Hd (show ∀W,Below w13.heap.size w13 W→Calls Tryz.prog 20 #[pv xx,.agg (encM ⟨4,2,0,0,0,0,d,[]⟩ (.slice none 0 0))] W fun e w'=>e = .returned (.tuple #[])∧Duo w2.heap.size w5 xo xx R5 w' o2 q4 [.slice aoG len capG,.slice ao len cap] from fun W hW=>by
  rw [HD.out];exact duo_recv (D13.out.later hW) (kind:=4) (frm:=2) (by decide) (by decide) (by decide))
 dsimp only [encM,pv,iv] at VT RV;go_upto_region 15 with (first
  | (go_at_call 60;(with_reducible refine VT.out.mono ?_);rintro e wv ⟨rfl,BV⟩)
  | (go_at_call 20;(with_reducible refine (RV.out _ BV).mono ?_);rintro e w14 ⟨rfl,hq⟩;have D14:=Hd hq;clear hq))
 clear VT RV D13;have TK:=Hd (show Calls Tryz.prog 18 #[pv xx] w14 fun e w'=>(∃ao cap,e = .returned (.slice ao 3 cap))∧Duo w2.heap.size w5 xo xx R5 w' o2 q5 [.slice aoG len capG,.slice ao len cap] from by
  have:=duo_tick1 D14.out (by rw [san_t.2.2.1];omega);rw [san_b.2.2.1] at this;exact this)
 unfold pv at TK;go_upto_region 16 with ((go_at_call 18;(with_reducible refine TK.out.mono ?_);rintro e w15 ⟨⟨_,_,rfl⟩,hq⟩;have D15:=Hd hq;clear hq))
 clear TK D14;have VT:=Hd (vote_any 6 1 d w15);have RV:=Hd (show ∀W,Below w15.heap.size w15 W→Calls Tryz.prog 20 #[pv xx,.agg (encM ⟨6,1,0,0,0,0,d,[]⟩ (.slice none 0 0))] W fun e w'=>e = .returned (.tuple #[])∧Duo w2.heap.size w5 xo xx R5 w' o2 q6 [.slice aoG len capG,.slice ao len cap] from fun W hW=>by
  rw [HD.out];exact duo_recv (D15.out.later hW) (kind:=6) (frm:=1) (by decide) (by decide) (by decide))
 dsimp only [encM,pv,iv] at VT RV;go_upto_region 17 with (first
  | (go_at_call 60;(with_reducible refine VT.out.mono ?_);rintro e wv ⟨rfl,BV⟩)
  | (go_at_call 20;(with_reducible refine (RV.out _ BV).mono ?_);rintro e w16 ⟨rfl,hq⟩;have D16:=Hd hq;clear hq))
 clear VT RV D15;have VT:=Hd (vote_any 6 3 d w16);have RV:=Hd (show ∀W,Below w16.heap.size w16 W→Calls Tryz.prog 20 #[pv xx,.agg (encM ⟨6,3,0,0,0,0,d,[]⟩ (.slice none 0 0))] W fun e w'=>e = .returned (.tuple #[])∧Duo w2.heap.size w5 xo xx R5 w' o2 q7 [.slice aoG len capG,.slice ao len cap] from fun W hW=>by
  rw [HD.out];exact duo_recv (D16.out.later hW) (kind:=6) (frm:=3) (by decide) (by decide) (by decide))
 dsimp only [encM,pv,iv] at VT RV;go_upto_region 18 with (first
  | (go_at_call 60;(with_reducible refine VT.out.mono ?_);rintro e wv ⟨rfl,BV⟩)
  | (go_at_call 20;(with_reducible refine (RV.out _ BV).mono ?_);rintro e w17 ⟨rfl,hq⟩;have D17:=Hd hq;clear hq))
 clear VT RV D16;have TK:=Hd (show Calls Tryz.prog 18 #[pv xx] w17 fun e w'=>(∃ao cap,e = .returned (.slice ao 3 cap))∧Duo w2.heap.size w5 xo xx R5 w' o2 q8 [.slice aoG len capG,.slice ao len cap] from by
  have:=duo_tick1 D17.out (by rw [san_t.2.2.2.1];omega);rw [san_b.2.2.2] at this;exact this)
 unfold pv at TK;go_upto_region 19 with ((go_at_call 18;(with_reducible refine TK.out.mono ?_);rintro e w18 ⟨⟨_,_,rfl⟩,hq⟩;have D18:=Hd hq;clear hq))
 clear TK D17;have LK:=Hd (show Calls Tryz.prog 31 #[pv xx] w18 fun e w'=>∃ao2 cap2,e = .returned (.tuple #[.int .i64 0,.slice ao2 len cap2])∧Duo w2.heap.size w5 xo xx R5 w' o2 q8 (.slice ao2 len cap2 :: [.slice aoG len capG,.slice ao len cap]) from by
  have:=duo_lock D18.out san_c.1;rw [←HLEN.out] at this;exact this)
 unfold pv at LK;go_upto_region 20 with ((go_at_call 31;(with_reducible refine LK.out.mono ?_);rintro e w19 ⟨aoK,capK,rfl,hq⟩;have D19:=Hd hq;clear hq))
 clear LK D18;have VT:=Hd (vote_any 5 2 d w19);have RV:=Hd (show ∀W,Below w19.heap.size w19 W→Calls Tryz.prog 20 #[pv xx,.agg (encM ⟨5,2,0,0,0,0,d,[]⟩ (.slice none 0 0))] W fun e w'=>e = .returned (.tuple #[])∧Duo w2.heap.size w5 xo xx R5 w' o2 q9 [.slice aoK len capK,.slice aoG len capG,.slice ao len cap] from fun W hW=>by
  rw [HD.out];exact duo_recv (D19.out.later hW) (kind:=5) (frm:=2) (by decide) (by decide) (by decide))
 dsimp only [encM,pv,iv] at VT RV;go_upto_region 21 with (first
  | (go_at_call 60;(with_reducible refine VT.out.mono ?_);rintro e wv ⟨rfl,BV⟩)
  | (go_at_call 20;(with_reducible refine (RV.out _ BV).mono ?_);rintro e w20 ⟨rfl,hq⟩;have D20:=Hd hq;clear hq))
 clear VT RV D19;have DC:=Hd (duo_undec D20.out san_c.2.1);unfold pv iv at DC;go_upto_region 22 with ((go_at_call 21;(with_reducible refine DC.out.mono ?_);rintro e w21 ⟨rfl,hq⟩;have D21:=Hd hq;clear hq))
 clear DC D20;have VT:=Hd (vote_any 5 3 d w21);have RV:=Hd (show ∀W,Below w21.heap.size w21 W→Calls Tryz.prog 20 #[pv xx,.agg (encM ⟨5,3,0,0,0,0,d,[]⟩ (.slice none 0 0))] W fun e w'=>e = .returned (.tuple #[])∧Duo w2.heap.size w5 xo xx R5 w' o2 q10 [.slice aoK len capK,.slice aoG len capG,.slice ao len cap] from fun W hW=>by
  rw [HD.out];exact duo_recv (D21.out.later hW) (kind:=5) (frm:=3) (by decide) (by decide) (by decide))
 dsimp only [encM,pv,iv] at VT RV;go_upto_region 23 with (first
  | (go_at_call 60;(with_reducible refine VT.out.mono ?_);rintro e wv ⟨rfl,BV⟩)
  | (go_at_call 20;(with_reducible refine (RV.out _ BV).mono ?_);rintro e w22 ⟨rfl,hq⟩;have D22:=Hd hq;clear hq))
 clear VT RV D21;have TK:=Hd (show Calls Tryz.prog 18 #[pv xx] w22 fun e w'=>(∃ao n cap,e = .returned (.slice ao n cap))∧Duo w2.heap.size w5 xo xx R5 w' o2 q11 [.slice aoK len capK,.slice aoG len capG,.slice ao len cap] from by
  refine (duo_tick1 D22.out (by rw [san_t.2.2.2.2];omega)).mono ?_;rintro e w' ⟨⟨a,c,h⟩,q⟩;exact ⟨⟨a,_,c,h⟩,q⟩)
 unfold pv at TK;go_upto_region 24 with ((go_at_call 18;(with_reducible refine TK.out.mono ?_);rintro e w23 ⟨⟨_,_,_,rfl⟩,hq⟩;have D23:=Hd hq;clear hq))
 clear TK D22;have DC:=Hd (show Calls Tryz.prog 21 #[pv xx,iv 0] w23 fun e w'=>∃ao2 cap2,e = .returned (.tuple #[.slice ao2 len cap2,.bool true])∧Duo w2.heap.size w5 xo xx R5 w' o2 q11 (.slice ao2 len cap2 :: [.slice aoK len capK,.slice aoG len capG,.slice ao len cap]) from by
  have:=duo_dec1 D23.out (san_c.2.2);rw [←HLEN.out] at this;exact this)
 unfold pv iv at DC;go_upto_region 25 with ((go_at_call 21;(with_reducible refine DC.out.mono ?_);rintro e w24 ⟨aoM,capM,rfl,hq⟩;have D24:=Hd hq;clear hq))
 clear DC D23;have SM1:=Hd (duo_same D24.out (u:=.slice aoG len capG) (v:=.slice ao len cap) (by simp) (by simp));have SM2:=Hd (fun W (h:Duo w2.heap.size w5 xo xx R5 W o2 q11 [.slice aoM len capM,.slice aoK len capK,.slice aoG len capG,.slice ao len cap])=>duo_same h (u:=.slice aoK len capK) (v:=.slice ao len cap) (by simp) (by simp));have SM3:=Hd (fun W (h:Duo w2.heap.size w5 xo xx R5 W o2 q11 [.slice aoM len capM,.slice aoK len capK,.slice aoG len capG,.slice ao len cap])=>duo_same h (u:=.slice aoM len capM) (v:=.slice ao len cap) (by simp) (by simp));have BG1:=Hd (show ∀W,Duo w2.heap.size w5 xo xx R5 W o2 q11 [.slice aoM len capM,.slice aoK len capK,.slice aoG len capG,.slice ao len cap]→Calls Tryz.prog 16 #[pv xx,iv 0,.slice ao len cap] W fun e w'=>e = .returned (.int .i64 260)∧Duo w2.heap.size w5 xo xx R5 w' o2 q12 [.slice aoM len capM,.slice aoK len capK,.slice aoG len capG,.slice ao len cap] from fun W h=>(duo_begin1 h (by simp) 0).mono (fun e w' q=>⟨by rw [q.1,san_d.1];rfl,q.2⟩));have BG2:=Hd (show ∀W,Duo w2.heap.size w5 xo xx R5 W o2 q12 [.slice aoM len capM,.slice aoK len capK,.slice aoG len capG,.slice ao len cap]→Calls Tryz.prog 16 #[pv xx,iv 1,.slice none 0 0] W fun e w'=>e = .returned (.int .i64 0)∧Duo w2.heap.size w5 xo xx R5 w' o2 q13 [.slice aoM len capM,.slice aoK len capK,.slice aoG len capG,.slice ao len cap] from fun W h=>(duo_begin9 h 1).mono (fun e w' q=>⟨by rw [q.1,san_d.2.1];rfl,q.2⟩));have HT:=Hd (show ∀W,Duo w2.heap.size w5 xo xx R5 W o2 q13 [.slice aoM len capM,.slice aoK len capK,.slice aoG len capG,.slice ao len cap]→Calls Tryz.prog 24 #[pv xx] W fun e w'=>e = .returned (.int .i64 1)∧w'=W from fun W h=>(duo_height h).mono (fun e w' q=>⟨by rw [q.1,san_d.2.2],q.2⟩));dsimp only [pv,iv] at BG1 BG2 HT;go_wp2_with (first
  | (go_at_call 22;(with_reducible refine SM1.out.mono ?_);rintro e wA ⟨rfl,DA⟩)
  | (go_at_call 22;(with_reducible refine (SM2.out _ DA).mono ?_);rintro e wB ⟨rfl,DB⟩)
  | (go_at_call 22;(with_reducible refine (SM3.out _ DB).mono ?_);rintro e wC ⟨rfl,DC⟩)
  | (go_at_call 16;(with_reducible refine (BG1.out _ DC).mono ?_);rintro e wD ⟨rfl,DD⟩)
  | (go_at_call 16;(with_reducible refine (BG2.out _ DD).mono ?_);rintro e wE ⟨rfl,DE⟩)
  | (go_at_call 24;(with_reducible refine (HT.out _ DE).mono ?_);rintro e wF ⟨rfl,hwF⟩;rw [hwF];clear hwF wF))
 go_ret;have hle:=HBW2.out;exact ⟨rfl,hle.trans ((HB5.out.trans DE.below).mono hle.size)⟩
end
section
open Go.RowKit Go.Sort Go.Lib
attribute [local go_sem] Oper.semAt_some
def encIV (p:Int×Value):Value×Value:=(.int .i64 p.1,p.2)
def PartM (l:List (Int×Value)) (pre:List Int) (left:List (Value×Value)):Prop:=
 ∃lf:List (Int×Value),left=lf.map encIV∧(pre ++ lf.map (·.1)).Perm (l.map (·.1))
theorem PartM.step {l:List (Int×Value)} {pre:List Int} {left p post:List (Value×Value)} {k v:Value} (h:PartM l pre left) (hl:left=p ++ (k,v) :: post) :
  ∃i,k = .int .i64 i∧i∈l.map (·.1)∧pre.length<l.length∧PartM l (pre ++ [i]) (p ++ post):=by
 obtain ⟨lf,rfl,hp⟩:=h;obtain ⟨lp,⟨i,a⟩,lq,rfl,e2,rfl,rfl⟩:=map_split hl;cases e2;have hm:i∈l.map (·.1):=hp.mem_iff.1 (by simp);refine ⟨i,rfl,hm,by have:=hp.length_eq;simp at this;omega,lp ++ lq,by rw [List.map_append],?_⟩;refine List.Perm.trans ?_ hp;rw [List.append_assoc];refine List.Perm.append_left _ ?_;simpa using (List.perm_middle (a:=i) (l₁:=lp.map (·.1)) (l₂:=lq.map (·.1))).symm
theorem PartM.fin {l:List (Int×Value)} {pre:List Int} (h:PartM l pre []):pre.Perm (l.map (·.1)):=by
 obtain ⟨lf,e,hp⟩:=h;have:lf = []:=by simpa using e.symm
 subst this;simpa using hp
theorem mkeys_any (M:Nat) (w:World) :
  Calls Tryz.prog 84 #[.map (some M)] w fun e w'=>e = .returned (.func (.func 140) #[] #[.pointer (some ⟨w.heap.size,0,none⟩)])∧w'=w.alloc (.cells #[.map (some M)] 110):=by
 go_enter Tryz.func84,Tryz.ntmps84
 go_wp2
 go_ret;exact ⟨rfl,rfl⟩
theorem mkeys_seq {w:World} {M:Nat} {l:List (Int×Value)} (n:Nat) (h:RawMap w M (l.map encIV)) (bx:Nat) (hbx:w.cell? ⟨bx,0,none⟩=some (.map (some M))) :
  SeqOwn n Tryz.prog 140 #[.pointer (some ⟨bx,0,none⟩)] encKI (fun pre x=>x∈l.map (·.1)∧pre.length<l.length) (fun k=>k=M) (fun xs=>xs.Perm (l.map (·.1))) w:=by
 intro lp J O W hW hO hJ hY h0;obtain ⟨L,hLL⟩:∃L,L=l.map encIV:=⟨_,rfl⟩;have HP:=Hd (show PartM l [] L from ⟨l,hLL,by simp⟩);rw [←hLL] at h;have hL:RawMap W M L:=h.kept (hW.block M h.lt);have hbc:W.cell? ⟨bx,0,none⟩=some (.map (some M)):=by rw [hW.cell (p:=⟨bx,0,none⟩) (World.block_lt_of_cell? _ _ hbx)];exact hbx
 have HJ:=Hd hJ;have HY:=Hd hY;have HL:=Hd hL;have HOM:=Hd (show ¬O M from fun q=>(hO M q).2 rfl);have HOB:=Hd (show ¬O W.heap.size from fun q=>by have:=(hO _ q).1;have:=hW.size;omega);have H0:=Hd h0;have HMS:=Hd (show M<W.heap.size from hL.lt);clear hJ hY hLL hL hbx hO h0 hW h;refine callsIn_of_wp Tryz.func140 rfl trivial ?_ rfl;simp only [Tryz.ntmps140,List.size_toArray,List.length_cons,List.length_nil,Nat.reduceAdd,Nat.reduceSub,Array.replicate_succ,Array.replicate_zero,List.push_toArray,List.append_toArray,List.nil_append,List.cons_append];gi_wp2_with (gi_at_range;refine wpListIn_range_raw _ rfl _ 110 (by rfl) 3 36 Tryz.underlying110 M L (by rfl) HL.out ?_;intro ob hob;have RG0:=Hd hob;have JJ0:=Hd (HJ.out _ _ _ _ _ H0.out (Chg.alloc (fun _=>False) W ob) (fun k h=>h.elim));clear hob)
 obtain ⟨it,hit⟩:∃it,W.heap.size=it:=⟨_,rfl⟩;rw [hit] at RG0 HOB ⊢;have HIT:=Hd hit;clear hit;try go_frame
 gi_loopw [] (fun wr=>∃(pre:List Int) (left:List (Value×Value)) (O1:Nat→Prop),J pre O1 wr∧RawRange wr M it L left∧PartM l pre left∧¬O1 M∧¬O1 it) (fun wr=>wr.rangeLeft M it)
 case atStart=>exact ⟨[],L,O,JJ0.out,RG0.out,HP.out,HOM.out,HOB.out⟩
 case round=>
  obtain ⟨pre,left,O1,hj,hrg,hpt,hom,hoi⟩:=hrel;have JJ:=Hd hj;have RG:=Hd hrg;have LEN:=Hd hrg.left_len;have PT:=Hd hpt;have OM:=Hd hom;have OI:=Hd hoi;clear hj hrg hpt hom hoi;gi_wp2_with (gi_at_next;refine wpListIn_next_raw _ rfl _ (by rfl) M it L left (by rfl) RG.out ?_ ?_)
  ·intro hl;subst hl;gi_wp2
   go_end0
   exact ⟨⟨_,rfl⟩,_,_,PT.out.fin,JJ.out⟩
  intro k x p post w2 hl hm hr2 hg2 hs2 hen2;obtain ⟨i,rfl,he,hpl,hpt2⟩:=PT.out.step hl;have HLL:=Hd hl;have PT2:=Hd hpt2;have RG2:=Hd hr2;have J2:=Hd (HJ.out _ _ _ _ _ JJ.out (Chg.grown (C:=fun k=>k=it) hg2 (fun k e=>by cases e;rfl)) (fun k hk=>by subst hk;exact ⟨by rw [HIT.out];exact Nat.le_refl _,OI.out⟩));obtain ⟨fn,tmps,assign,body,hy,hR⟩:=HY.out _ _ _ _ ⟨he,hpl⟩ J2.out;dsimp only [encKI] at hy;have HRD:=Hd hR;clear hl hm hr2 hg2 hs2 hpt2 hR;gi_wp2
  refine ⟨fun h=>absurd h (by simp [Fence.wide]),HRD.out.mono ?_⟩;rintro e3 W3 ⟨rfl,O2,hj3,hc3,ho3⟩;have RR:=Hd (show RawRange W3 M it L (p ++ post)∧¬O2 M∧¬O2 it from ⟨RG2.out.kept (hc3.block _ RG2.out.map.lt OM.out) (hc3.block _ (by obtain ⟨_,_,_,_,_,_,_,_,_,q,_⟩:=RG2.out;exact lt_of_blk q) OI.out),(fun q=>by rcases ho3 _ q with q | q;exact OM.out q;have:=RG2.out.map.lt;omega),(fun q=>by rcases ho3 _ q with q | q;exact OI.out q;obtain ⟨_,_,_,_,_,_,_,_,_,q2,_⟩:=RG2.out;have:=lt_of_blk q2;omega)⟩);have J3:=Hd hj3;clear hj3 hc3 ho3;gi_wp2
  go_roundw
  case rel=>exact ⟨_,_,O2,J3.out,RR.out.1,PT2.out,RR.out.2.1,RR.out.2.2⟩
  case measure=>rw [RR.out.1.left_len,LEN.out,HLL.out];simp
theorem mappseq_any (n bx M:Nat) (l:List (Int×Value)) (w:World) (hn:l.length≤1000) (hm:RawMap w M (l.map encIV)) (hb:w.cell? ⟨bx,0,none⟩=some (.map (some M))) :
  CallsIn Fence.wide n Tryz.prog 184 #[.slice none 0 0,.func (.func 140) #[] #[.pointer (some ⟨bx,0,none⟩)]] w fun e w'=>∃(v:Value) (xs:List Int),e = .returned v∧xs.Perm (l.map (·.1))∧w'.ownsRow w.heap.size 3 1 v xs.length (xs.flatMap encI1)∧Below w.heap.size w w':=by
 obtain ⟨i0,hi,hz0,hz1,hz2⟩:=info_parts Tryz.infoI1;have HR:=Hd hm;clear hm;refine callsIn_of_wp_marks Tryz.func184 rfl trivial ?_ rfl;simp only [Tryz.ntmps184,List.size_toArray,List.length_cons,List.length_nil,Nat.reduceAdd,Nat.reduceSub,Array.replicate_succ,Array.replicate_zero,List.push_toArray,List.append_toArray,List.nil_append,List.cons_append];gi_wp2
 obtain ⟨W2,hW2⟩:∃W2,w.alloc (.cells #[.slice none 0 0] 47)=W2:=⟨_,rfl⟩;have hs2:W2.heap.size=w.heap.size+1:=by rw [←hW2];simp
 have B2:=Hd (show Below w.heap.size w W2 by rw [←hW2];exact (Below.refl _ w).alloc (Nat.le_refl _) _);have BX:=Hd (show Boxed W2 w.heap.size 47 (.slice none 0 0) by rw [←hW2];exact Boxed.new w _ _);have BM:=Hd (show W2.cell? ⟨bx,0,none⟩=some (.map (some M)) by rw [←hW2];exact cell_up hb _);have RM:=Hd (show RawMap W2 M (l.map encIV) from HR.out.kept (B2.out.block M HR.out.lt));rw [hW2];have HS2:=Hd hs2;clear hW2 hs2;refine wpIn_range_own (gf:=140) (lb:=#[.pointer (some ⟨bx,0,none⟩)]) rfl (enters_of Tryz.func140 (by kernel_rfl) rfl)
  (mkeys_seq _ RM.out bx BM.out) (fun _=>rfl)
  (fun pre O W=>∃v,BoxRow w W w.heap.size 47 3 1 pre.length v (pre.flatMap encI1) O) (fun k=>k=w.heap.size∨(Value.slice none 0 0).ownBlock=some k) ?hO0 ?hI ?h0
  (fun pre x a' O W=>a' = {tmps:=#[.slice none 0 0,.func (.func 140) #[] #[.pointer (some ⟨bx,0,none⟩)],.pointer (some ⟨w.heap.size,0,none⟩),undef,.slice none 0 0,.int .i64 x,.func (.func 140) #[] #[.pointer (some ⟨bx,0,none⟩)],.int .i64 x,undef,undef,undef,undef,undef],defers:=[]} ∧
   ∃v,BoxRow w W w.heap.size 47 3 1 pre.length v (pre.flatMap encI1) O) ?hM ?assign ?body ?done
 case hO0=>
  intro k hk;rcases hk with rfl | hk
  ·exact ⟨by have:=HS2.out;omega,fun h=>by have:=HR.out.lt;omega⟩
  simp [Value.ownBlock] at hk
 case hI=>rintro s O A A' C ⟨v,h⟩ hc hC;exact ⟨v,h.chg hc (fun k hk=>⟨by have:=(hC k hk).1;have:=HS2.out;omega,(hC k hk).2⟩)⟩
 case h0=>exact ⟨_,fun k=>Iff.rfl,BX.out,World.ownsRow_nil _ _ _ _,B2.out,Nat.le_refl _⟩
 case hM=>rintro s x a' O A A' C ⟨e,v,h⟩ hc hC;exact ⟨e,v,h.chg hc (fun k hk=>⟨by have:=(hC k hk).1;have:=HS2.out;omega,(hC k hk).2⟩)⟩
 case assign=>
  intro l' pre x O W K hx hi hK;dsimp only [encKI];gi_wp2
  exact hK _ O W ⟨rfl,hi⟩ (Chg.refl _ _) (fun k h=>.inl h)
 case body=>
  rintro l' pre x a' O W hx ⟨rfl,v,hbr⟩;have BR:=Hd hbr;have hcell:=hbr.box.cell;have hpl:pre.length≤1000:=by
   have:=hx.2;omega
  clear hbr hx;gi_wp2_with (first
   | (gi_at_builtin;refine wpListIn_append_own_at _ rfl _ _ 47 rfl w.heap.size 3 i0 (.int .i64 0) 1 8 Tryz.underlying47 hi hz0 hz1 hz2 rfl (by decide) _ _ _ rfl (BR.out.row.alloc _) ⟨W.heap.size,0,none⟩ 1 1 (encI1 x) rfl rfl (cells_at _ _ _ _ rfl) (encI1_one _) (by unfold maxLen;omega) (by omega) (by have:=BR.out.bel.size;simp;omega) ?_;intro v' w1 own gr hnil hloc;obtain ⟨g',cap',rfl⟩:=ownsRow_succ own;obtain ⟨hv1,hap⟩:=BR.out.appended (by decide) own gr hloc;have AP:=Hd hap;have hc1:=hv1.cell;have hf1:=hv1.frozen;clear own gr hnil hloc hap hv1)
   | gi_in)
  obtain ⟨O',h1,h2,h3⟩:=AP.out;exact ⟨O',⟨_,by rw [flat_snoc,List.length_append];exact h1⟩,h2,h3⟩
 case done=>
  rintro D xs O W hD hnD hxs ⟨v,hbr⟩ hK;have HXS:=Hd hxs;have hcell:=hbr.box.cell;have BR:=Hd hbr;obtain ⟨ao,cap,hv,h1,h2⟩:=rowK_of_owns encI1_len (by decide) hbr.row;subst hv;clear hbr hxs;gi_wp2
  refine ⟨by simp,.inl ⟨_,_,rfl,run_takeDeferred hK,?_⟩⟩;have hB:=BR.out.chg (Chg.put W D (.deferred none) (C:=fun k=>k=D) rfl) (fun k hk=>by subst hk;exact ⟨by have:=HS2.out;omega,hnD⟩);exact ⟨_,results_tmp rfl _ _ _,.slice ao xs.length cap,xs,rfl,HXS.out,hB.row,hB.bel⟩
theorem mcollect_any (n bx M:Nat) (l:List (Int×Value)) (w:World) (hn:l.length≤1000) (hm:RawMap w M (l.map encIV)) (hb:w.cell? ⟨bx,0,none⟩=some (.map (some M))) :
  CallsIn Fence.wide n Tryz.prog 138 #[.func (.func 140) #[] #[.pointer (some ⟨bx,0,none⟩)]] w fun e w'=>∃(v:Value) (xs:List Int),e = .returned v∧xs.Perm (l.map (·.1))∧w'.ownsRow w.heap.size 3 1 v xs.length (xs.flatMap encI1)∧Below w.heap.size w w':=by
 have AS:=Hd (fun m=>mappseq_any m bx M l w hn hm hb);clear hm hb;refine callsIn_of_wp Tryz.func138 rfl trivial ?_ rfl;simp only [Tryz.ntmps138,List.size_toArray,List.length_cons,List.length_nil,Nat.reduceAdd,Nat.reduceSub,Array.replicate_succ,Array.replicate_zero,List.push_toArray,List.append_toArray,List.nil_append,List.cons_append];gi_wp2
 refine ⟨trivial,fun h=>absurd h (by simp [Fence.wide]),(AS.out _).mono ?_⟩;rintro e W2 ⟨v,xs,rfl,hpm,h2⟩;have PM:=Hd hpm;have H2:=Hd h2;obtain ⟨ao2,cap2,rfl,_,_⟩:=rowK_of_owns encI1_len (by decide) h2.1;clear h2 hpm;gi_wp2
 go_ret;exact ⟨_,_,rfl,PM.out,H2.out⟩
theorem msorted_any (n bx M:Nat) (l:List (Int×Value)) (w:World) (hn:l.length≤1000) (hm:RawMap w M (l.map encIV)) (hb:w.cell? ⟨bx,0,none⟩=some (.map (some M))) :
  CallsIn Fence.wide n Tryz.prog 83 #[.func (.func 140) #[] #[.pointer (some ⟨bx,0,none⟩)]] w fun e w'=>∃v,e = .returned v∧w'.ownsRow w.heap.size 3 1 v l.length ((sortI (l.map (·.1))).map (Value.int .i64))∧Below w.heap.size w w':=by
 have CO:=Hd (fun m=>mcollect_any m bx M l w hn hm hb);clear hm hb;refine callsIn_of_wp Tryz.func83 rfl trivial ?_ rfl;simp only [Tryz.ntmps83,List.size_toArray,List.length_cons,List.length_nil,Nat.reduceAdd,Nat.reduceSub,Array.replicate_succ,Array.replicate_zero,List.push_toArray,List.append_toArray,List.nil_append,List.cons_append];gi_wp2
 refine ⟨trivial,fun h=>absurd h (by simp [Fence.wide]),(CO.out _).mono ?_⟩;rintro e W2 ⟨v,xs,rfl,hpm,hrow,hbl⟩;have hxl:xs.length=l.length:=by have:=hpm.length_eq;simpa using this
 have hsl:=merge_sortI hpm;rw [flat_I1] at hrow;rcases hrow.2 with ⟨rfl,hz⟩ | ⟨gb,cp,cur,rfl,hbase,hgb,r1,r2,r3,r4⟩
 ·have hx:xs = []:=List.eq_nil_of_length_eq_zero hz;subst hx;have hl0:l = []:=List.eq_nil_of_length_eq_zero (by simpa using hxl.symm);subst hl0;have HB:=Hd hbl;clear hrow hbl hpm hxl hsl;gi_wp2
  refine wide_call (Tryz.slices_Sort_int_none none 0 W2) ?_;rintro e w' ⟨rfl,rfl⟩;gi_wp2
  go_ret;exact ⟨_,rfl,by simpa [sortI] using World.ownsRow_nil w' w.heap.size 3 1,HB.out⟩
 have hr4:cur.toList.take xs.length=xs.map (Value.int .i64):=by simpa using r4
 have hH:Holds (Value.int .i64) W2 gb 0 xs.toArray:=holds_of_blockI hgb hr4;have hcall:=Tryz.slices_Sort_int gb 0 cp xs W2 hH (lt_of_blk hgb) (by omega);rw [hsl,hxl] at hcall;have CA:=Hd hcall;have FIN:=Hd (show ∀m os,(grow (putRow (Value.int .i64) (Sort.ahead W2 m) gb 0 (sortI (l.map (·.1))).toArray) os).ownsRow w.heap.size 3 1 (.slice (some ⟨gb,0,none⟩) l.length cp) l.length ((sortI (l.map (·.1))).map (Value.int .i64))∧Below w.heap.size w (grow (putRow (Value.int .i64) (Sort.ahead W2 m) gb 0 (sortI (l.map (·.1))).toArray) os) from fun m os=>by
  have h1:=ownsRow_sortedI (os:=os) (n:=m) (ts:=sortI (l.map (·.1))) (ss:=xs) (by rw [←hsl,List.length_mergeSort]) hbase hgb r1 r2 r3;rw [hxl] at h1;exact ⟨h1,hbl.grown (grownBy_sortedI _) hbl.size (fun j hj=>by cases hj;exact hbase)⟩)
 rw [hxl];clear hrow hbl hH hcall hr4 hgb r1 r2 r3 r4 hpm hxl hsl;gi_wp2
 refine wide_call CA.out ?_;rintro e w' ⟨rfl,m,os,rfl⟩;have F2:=Hd (FIN.out m os);gi_wp2
 go_ret;exact ⟨_,rfl,F2.out⟩
end
section
open Go.RowKit Go.Maps
theorem run_assert_map {P:Program} (w:World) (t xT k e:TypeId) (v:Value) (h:P.underlying t=some (.map k e)):(Instr.typeAssert (.iface t v) xT t false).run P w = .ok v w:=by
 simp [Instr.typeAssert,run_underlying h,go_sem,Result.andThen]
theorem run_clone_map {P:Program} (w:World) {r:Nat} {es:Array MapEntry} {clock:Nat} (t:TypeId) (hb:w.heap[r]?=some (.map es clock)) :
  (Extern.MapsClone.clone #[.iface t (.map (some r))]).run P w = .ok (.iface t (.map (some w.heap.size))) (w.alloc (.map es clock)):=by
 have e:Extern.MapsClone.clone #[.iface t (.map (some r))]=(getObj r >>= fun o=>match o with
   | .map entries clock=>(newObj (.map entries clock) >>= fun n=>pure (.iface t (.map (some n))))
   | _=>stuck "maps.clone: a map expected"):=rfl
 rw [e];simp [MapKept.run_getObj_map hb,Result.andThen,go_sem]
theorem mclone_any {w:World} {b:Nat} {L:List (Value×Value)} (h:RawMap w b L) :
  Calls Tryz.prog 82 #[.map (some b)] w fun e w'=>e = .returned (.map (some w.heap.size))∧RawMap w' w.heap.size L∧Below w.heap.size w w':=by
 obtain ⟨es,clock,hb,h2⟩:=h;have HB:=Hd hb;have FIN:=Hd (show RawMap (w.alloc (.map es clock)) w.heap.size L from ⟨es,clock,World.alloc_heap_new w _,h2⟩);clear h2;have qT:∀(w:World) (r:Option Nat),(binOp .eql 109 (.map r) (.map none)).run Tryz.prog w = .ok (.bool r.isNone) w:=fun w r=>run_eql_map_nil w _ _ _ r Tryz.underlying109;go_enter Tryz.func82,Tryz.ntmps82
 go_wp2
 rw [run_callFunc_extern Tryz.func137 (by kernel_rfl) (by kernel_rfl) (by kernel_rfl) (e:=Extern.MapsClone.clone) (by kernel_rfl),run_clone_map w 109 HB.out];simp only [Result.andThen];rw [Oper.upon_value];go_wp2
 rw [run_assert_map _ 109 _ _ _ _ Tryz.underlying109];simp only [Result.andThen];rw [Oper.upon_value];go_wp2
 go_ret;exact ⟨rfl,FIN.out,(Below.refl _ _).alloc (Nat.le_refl _) _⟩
end
end Go.Proofs.YtifcdjmcoibblaaGreatDoor
