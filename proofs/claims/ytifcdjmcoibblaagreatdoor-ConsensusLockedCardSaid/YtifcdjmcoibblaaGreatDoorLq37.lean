/- Sne Flt Lrn Rf25 ConV -/
import Derived.Test.YtifcdjmcoibblaaGreatDoorLq36
import Derived.Test.YtifcdjmcoibblaaGreatDoorLq01
import Derived.Test.YtifcdjmcoibblaaGreatDoorLq29
import Derived.Test.YtifcdjmcoibblaaGreatDoorLq26
import Derived.Test.YtifcdjmcoibblaaGreatDoorLq34
import Derived.Test.YtifcdjmcoibblaaGreatDoorLq08
import Derived.Test.YtifcdjmcoibblaaGreatDoorLq27
set_option linter.unusedVariables false
set_option linter.unusedSimpArgs false
set_option linter.unusedSectionVars false
set_option maxRecDepth 100000
set_option maxHeartbeats 80000000
namespace Go.Proofs.YtifcdjmcoibblaaGreatDoor
section
open Go.RowKit
structure One (w2:World) (W:World) (xo:Nat) (vl:Value):Prop where
 net:∃Rs,Net GA w2.heap.size W [xo] [rn (newS 0 1)] Rs
 bel:Below w2.heap.size w2 W
 pos:0<w2.heap.size
 glob:Glob w2
 row:LRow (fun k=>k<w2.heap.size) w2 vl (fam 1)
theorem one_new {w2:World} {vl:Value} (hG:Glob w2) (hr:LRow (fun k=>k<w2.heap.size) w2 vl (fam 1)):Calls Tryz.prog 15 #[.int .i64 0,.int .i64 1] w2 fun e w'=>∃xo,e = .returned (.tuple #[pv xo,.int .i64 0])∧One w2 w' xo vl:=by
 refine (nnew (Net.nil GA w2.heap.size w2 (fun _ _=>False)) (Nat.le_refl _) (id:=0) (n:=1) (by omega) (by omega) (by omega) (by omega)).mono ?_;rintro e w' ⟨x,Rs,rfl,hn,hb,_⟩;refine ⟨x,rfl,⟨Rs,hn⟩,hb,?_,hG,hr⟩;obtain ⟨t,ht⟩:=hG;exact (gE ht).1
theorem One.later {w2 W W':World} {xo:Nat} {vl:Value} (h:One w2 W xo vl) (hb:Below W.heap.size W W'):One w2 W' xo vl:=by
 obtain ⟨Rs,hn⟩:=h.net;exact ⟨⟨Rs,hn.later hb⟩,h.bel.trans (hb.mono h.bel.size),h.pos,h.glob,h.row⟩
theorem two_new {w2 W:World} {xo:Nat} {vl:Value} (h:One w2 W xo vl):Calls Tryz.prog 15 #[.int .i64 0,.int .i64 4] W fun e w'=>∃xx R5,e = .returned (.tuple #[pv xx,.int .i64 0])∧Duo w2.heap.size w' xo xx R5 w' (newS 0 1) (newS 0 4) [vl]∧Below w2.heap.size w2 w':=by
 obtain ⟨Rs,hn⟩:=h.net;refine (nnew hn h.bel.size (id:=0) (n:=4) (by omega) (by omega) (by omega) (by omega)).mono ?_;rintro e w' ⟨x,Rs',rfl,hn',hb,_⟩;have hbb:=h.bel.trans (hb.mono h.bel.size);refine ⟨x,Rs',rfl,⟨⟨Rs',Sail.refl hn',fun v hv=>?_⟩,h.pos,hbb.size,⟨_,hn'⟩,?_⟩,hbb⟩
 ·obtain rfl:=List.mem_singleton.1 hv;exact (h.row.kept (fun g cur fr hr _=>hbb.block g hr)).mono (fun k hk=>⟨Nat.lt_of_lt_of_le hk hbb.size,fun hr=>by have:=hn'.low hr;omega⟩)
 obtain ⟨t,ht⟩:=h.glob;exact ⟨t,(hbb.block 0 h.pos).trans ht⟩
theorem duo_same {base:Nat} {w5 W:World} {xo xx:Nat} {R5:Nat→Nat→Prop} {a b:S6} {vs:List Value} (h:Duo base w5 xo xx R5 W a b vs) {u v:Value} (hu:u∈vs) (hv:v∈vs):Calls Tryz.prog 22 #[u,v] W fun e w'=>e = .returned (.bool true)∧Duo base w5 xo xx R5 w' a b vs:=by
 obtain ⟨Ru,hru⟩:=h.row hu;obtain ⟨Rv,hrv⟩:=h.row hv;obtain ⟨ao,ca,rfl,_,ha⟩:=hru.row;obtain ⟨bo,cb,rfl,_,hb⟩:=hrv.row;refine (same_any ao bo ca cb _ _ (fam 1) (fam 1) W rfl rfl (Nat.le_trans fam_len (by omega)) ha hb).mono ?_;rintro e w' ⟨rfl,hbl⟩;refine ⟨?_,h.later hbl⟩;unfold sameB;rw [decide_eq_true rfl]
theorem errE_t:errE true = .int .i64 0:=rfl
theorem errE_f:errE false = .int .i64 260:=rfl
theorem sane_any (w:World) (hG:Glob w):Calls Tryz.prog 13 #[] w fun e w'=>e = .returned (.bool true)∧Below w.heap.size w w':=by
 have HGL:=Hd hG;obtain ⟨len,hlen⟩:∃len,len=(fam 1).length:=⟨_,rfl⟩;have HLEN:=Hd hlen;have HL1:=Hd (show lstN 1=fam 1 from lst_fam (by omega));obtain ⟨d,hd⟩:∃d,d=digV (fam 1):=⟨_,rfl⟩;have HD:=Hd hd;clear hG hlen hd;go_enter Tryz.func13,Tryz.ntmps13
 go_upto_region 2 with ((go_at_call 17;(with_reducible refine (lists_any _).mono ?_);rintro e w1 ⟨g,rfl,hb1,hl1⟩;have HB1:=Hd hb1;obtain ⟨vl,c1,r1⟩:=hl1.cell 1 (by omega);rw [HL1.out] at r1;obtain ⟨ao,cap,hvl,_⟩:=id r1;rw [←HLEN.out] at hvl;subst hvl;have HR1:=Hd r1;clear hb1 hl1 r1))
 obtain ⟨aoh,caph,hvl2,_,hrow1⟩:=HR1.out.row;have DG:=Hd (show Calls Tryz.prog 26 #[.slice ao len cap] w1 fun e w'=>e = .returned (.string d)∧Below w1.heap.size w1 w' from by
  rw [←HLEN.out] at hvl2;injection hvl2 with e1 e2 e3
  subst e1;have:=rdigest_any ao len cap (fam 1) w1 HLEN.out.symm (by rw [HLEN.out];exact fam_len) hrow1 (asc_fam (by omega));rw [HD.out,digV_asc (asc_fam (by omega))];exact this)
 clear hvl2 hrow1 c1;go_upto_region 3 with ((go_at_call 26;(with_reducible refine DG.out.mono ?_);rintro e w2 ⟨rfl,hb2⟩;have HB2:=Hd hb2;clear hb2))
 have HBW2:=Hd (HB1.out.trans (HB2.out.mono HB1.out.size));have ON:=Hd (one_new (w2:=w2) (vl:=.slice ao len cap) (by
  obtain ⟨t,ht⟩:=HGL.out;exact ⟨t,(HBW2.out.block 0 (gE ht).1).trans ht⟩) ((HR1.out.kept (fun g cur fr hr _=>HB2.out.block g hr.2)).mono (fun k hk=>Nat.lt_of_lt_of_le hk.2 HB2.out.size)))
 unfold pv at ON;go_upto_region 4 with ((go_at_call 15;(with_reducible refine ON.out.mono ?_);rintro e w3 ⟨xo,rfl,h3⟩;have O3:=Hd h3;clear h3))
 have TW:=Hd (two_new O3.out);unfold pv at TW;go_upto_region 5 with ((go_at_call 15;(with_reducible refine TW.out.mono ?_);rintro e w5 ⟨xx,R5,rfl,h5,hb5⟩;have D5:=Hd h5;have HB5:=Hd hb5;clear h5 hb5))
 have NB:=Hd (new_bad 4 4 w5 (by omega));go_upto_region 8 with ((go_at_call 15;(with_reducible refine NB.out.mono ?_);rintro e wq ⟨rfl,hwq⟩;rw [hwq];clear hwq wq))
 obtain ⟨sl,hsl⟩:∃sl,sl=Value.slice ao len cap:=⟨_,rfl⟩;have HSL:=Hd hsl;clear ON TW NB DG O3 HB2 HR1 HB1;have BG:=Hd ((show Calls Tryz.prog 16 #[pv xo,iv 0,.slice ao len cap] w5 fun e w'=>e = .returned (.int .i64 0)∧Duo w2.heap.size w5 xo xx R5 w' o1 (newS 0 4) [.slice ao len cap] from (duo_begin0 D5.out (by simp) 0).mono (fun e w' q=>⟨by rw [q.1,san_a.1];rfl,q.2⟩)));unfold pv iv at BG;go_upto_region 9 with ((go_at_call 16;(with_reducible refine BG.out.mono ?_);rintro e w8 ⟨rfl,hq⟩;have D8:=Hd hq;clear hq))
 clear BG D5;have TK:=Hd (show Calls Tryz.prog 18 #[pv xo] w8 fun e w'=>(∃ao cap,e = .returned (.slice ao 0 cap))∧Duo w2.heap.size w5 xo xx R5 w' o2 (newS 0 4) [.slice ao len cap] from by
  have:=duo_tick0 D8.out (by rw [san_t.1];omega);rw [san_a.2.1] at this;exact this)
 unfold pv at TK;go_upto_region 10 with ((go_at_call 18;(with_reducible refine TK.out.mono ?_);rintro e w9 ⟨⟨_,_,rfl⟩,hq⟩;have D9:=Hd hq;clear hq))
 clear TK D8;have DC:=Hd (show Calls Tryz.prog 21 #[pv xo,iv 0] w9 fun e w'=>∃ao2 cap2,e = .returned (.tuple #[.slice ao2 len cap2,.bool true])∧Duo w2.heap.size w5 xo xx R5 w' o2 (newS 0 4) (.slice ao2 len cap2 :: [.slice ao len cap]) from by
  have:=duo_dec0 D9.out (san_a.2.2);rw [←HLEN.out] at this;exact this)
 unfold pv iv at DC;go_upto_region 11 with ((go_at_call 21;(with_reducible refine DC.out.mono ?_);rintro e w10 ⟨aoG,capG,rfl,hq⟩;have D10:=Hd hq;clear hq))
 clear DC D9;have BG:=Hd ((show Calls Tryz.prog 16 #[pv xx,iv 0,.slice ao len cap] w10 fun e w'=>e = .returned (.int .i64 0)∧Duo w2.heap.size w5 xo xx R5 w' o2 q1 [.slice aoG len capG,.slice ao len cap] from (duo_begin1 D10.out (by simp) 0).mono (fun e w' q=>⟨by rw [q.1,san_b.1];rfl,q.2⟩)));unfold pv iv at BG;go_upto_region 12 with ((go_at_call 16;(with_reducible refine BG.out.mono ?_);rintro e w11 ⟨rfl,hq⟩;have D11:=Hd hq;clear hq))
 clear BG D10;have TK:=Hd (show Calls Tryz.prog 18 #[pv xx] w11 fun e w'=>(∃ao cap,e = .returned (.slice ao 6 cap))∧Duo w2.heap.size w5 xo xx R5 w' o2 q2 [.slice aoG len capG,.slice ao len cap] from by
  have:=duo_tick1 D11.out (by rw [san_t.2.1];omega);rw [san_b.2.1] at this;exact this)
 unfold pv at TK;go_upto_region 13 with ((go_at_call 18;(with_reducible refine TK.out.mono ?_);rintro e w12 ⟨⟨_,_,rfl⟩,hq⟩;have D12:=Hd hq;clear hq))
 clear TK D11;have VT:=Hd (vote_any 4 1 d w12);have RV:=Hd (show ∀W,Below w12.heap.size w12 W→Calls Tryz.prog 20 #[pv xx,.agg (encM ⟨4,1,0,0,0,0,d,[]⟩ (.slice none 0 0))] W fun e w'=>e = .returned (.tuple #[])∧Duo w2.heap.size w5 xo xx R5 w' o2 q3 [.slice aoG len capG,.slice ao len cap] from fun W hW=>by
  rw [HD.out];exact duo_recv (D12.out.later hW) (kind:=4) (frm:=1) (by decide) (by decide) (by decide))
 dsimp only [encM,pv,iv] at VT RV;go_upto_region 14 with (first
  | (go_at_call 60;(with_reducible refine VT.out.mono ?_);rintro e wv ⟨rfl,BV⟩)
  | (go_at_call 20;(with_reducible refine (RV.out _ BV).mono ?_);rintro e w13 ⟨rfl,hq⟩;have D13:=Hd hq;clear hq))
 clear VT RV D12;have VT:=Hd (vote_any 4 2 d w13);have RV:=Hd (show ∀W,Below w13.heap.size w13 W→Calls Tryz.prog 20 #[pv xx,.agg (encM ⟨4,2,0,0,0,0,d,[]⟩ (.slice none 0 0))] W fun e w'=>e = .returned (.tuple #[])∧Duo w2.heap.size w5 xo xx R5 w' o2 q4 [.slice aoG len capG,.slice ao len cap] from fun W hW=>by
  rw [HD.out];exact duo_recv (D13.out.later hW) (kind:=4) (frm:=2) (by decide) (by decide) (by decide))
 dsimp only [encM,pv,iv] at VT RV;go_upto_region 15 with (first
  | (go_at_call 60;(with_reducible refine VT.out.mono ?_);rintro e wv ⟨rfl,BV⟩)
  | (go_at_call 20;(with_reducible refine (RV.out _ BV).mono ?_);rintro e w14 ⟨rfl,hq⟩;have D14:=Hd hq;clear hq))
 clear VT RV D13;have TK:=Hd (show Calls Tryz.prog 18 #[pv xx] w14 fun e w'=>(∃ao cap,e = .returned (.slice ao 3 cap))∧Duo w2.heap.size w5 xo xx R5 w' o2 q5 [.slice aoG len capG,.slice ao len cap] from by
  have:=duo_tick1 D14.out (by rw [san_t.2.2.1];omega);rw [san_b.2.2.1] at this;exact this)
 unfold pv at TK;go_upto_region 16 with ((go_at_call 18;(with_reducible refine TK.out.mono ?_);rintro e w15 ⟨⟨_,_,rfl⟩,hq⟩;have D15:=Hd hq;clear hq))
 clear TK D14;have VT:=Hd (vote_any 6 1 d w15);have RV:=Hd (show ∀W,Below w15.heap.size w15 W→Calls Tryz.prog 20 #[pv xx,.agg (encM ⟨6,1,0,0,0,0,d,[]⟩ (.slice none 0 0))] W fun e w'=>e = .returned (.tuple #[])∧Duo w2.heap.size w5 xo xx R5 w' o2 q6 [.slice aoG len capG,.slice ao len cap] from fun W hW=>by
  rw [HD.out];exact duo_recv (D15.out.later hW) (kind:=6) (frm:=1) (by decide) (by decide) (by decide))
 dsimp only [encM,pv,iv] at VT RV;go_upto_region 17 with (first
  | (go_at_call 60;(with_reducible refine VT.out.mono ?_);rintro e wv ⟨rfl,BV⟩)
  | (go_at_call 20;(with_reducible refine (RV.out _ BV).mono ?_);rintro e w16 ⟨rfl,hq⟩;have D16:=Hd hq;clear hq))
 clear VT RV D15;have VT:=Hd (vote_any 6 3 d w16);have RV:=Hd (show ∀W,Below w16.heap.size w16 W→Calls Tryz.prog 20 #[pv xx,.agg (encM ⟨6,3,0,0,0,0,d,[]⟩ (.slice none 0 0))] W fun e w'=>e = .returned (.tuple #[])∧Duo w2.heap.size w5 xo xx R5 w' o2 q7 [.slice aoG len capG,.slice ao len cap] from fun W hW=>by
  rw [HD.out];exact duo_recv (D16.out.later hW) (kind:=6) (frm:=3) (by decide) (by decide) (by decide))
 dsimp only [encM,pv,iv] at VT RV;go_upto_region 18 with (first
  | (go_at_call 60;(with_reducible refine VT.out.mono ?_);rintro e wv ⟨rfl,BV⟩)
  | (go_at_call 20;(with_reducible refine (RV.out _ BV).mono ?_);rintro e w17 ⟨rfl,hq⟩;have D17:=Hd hq;clear hq))
 clear VT RV D16;have TK:=Hd (show Calls Tryz.prog 18 #[pv xx] w17 fun e w'=>(∃ao cap,e = .returned (.slice ao 3 cap))∧Duo w2.heap.size w5 xo xx R5 w' o2 q8 [.slice aoG len capG,.slice ao len cap] from by
  have:=duo_tick1 D17.out (by rw [san_t.2.2.2.1];omega);rw [san_b.2.2.2] at this;exact this)
 unfold pv at TK;go_upto_region 19 with ((go_at_call 18;(with_reducible refine TK.out.mono ?_);rintro e w18 ⟨⟨_,_,rfl⟩,hq⟩;have D18:=Hd hq;clear hq))
 clear TK D17;have LK:=Hd (show Calls Tryz.prog 31 #[pv xx] w18 fun e w'=>∃ao2 cap2,e = .returned (.tuple #[.int .i64 0,.slice ao2 len cap2])∧Duo w2.heap.size w5 xo xx R5 w' o2 q8 (.slice ao2 len cap2 :: [.slice aoG len capG,.slice ao len cap]) from by
  have:=duo_lock D18.out san_c.1;rw [←HLEN.out] at this;exact this)
 unfold pv at LK;go_upto_region 20 with ((go_at_call 31;(with_reducible refine LK.out.mono ?_);rintro e w19 ⟨aoK,capK,rfl,hq⟩;have D19:=Hd hq;clear hq))
 clear LK D18;have VT:=Hd (vote_any 5 2 d w19);have RV:=Hd (show ∀W,Below w19.heap.size w19 W→Calls Tryz.prog 20 #[pv xx,.agg (encM ⟨5,2,0,0,0,0,d,[]⟩ (.slice none 0 0))] W fun e w'=>e = .returned (.tuple #[])∧Duo w2.heap.size w5 xo xx R5 w' o2 q9 [.slice aoK len capK,.slice aoG len capG,.slice ao len cap] from fun W hW=>by
  rw [HD.out];exact duo_recv (D19.out.later hW) (kind:=5) (frm:=2) (by decide) (by decide) (by decide))
 dsimp only [encM,pv,iv] at VT RV;go_upto_region 21 with (first
  | (go_at_call 60;(with_reducible refine VT.out.mono ?_);rintro e wv ⟨rfl,BV⟩)
  | (go_at_call 20;(with_reducible refine (RV.out _ BV).mono ?_);rintro e w20 ⟨rfl,hq⟩;have D20:=Hd hq;clear hq))
 clear VT RV D19;have DC:=Hd (duo_undec D20.out san_c.2.1);unfold pv iv at DC;go_upto_region 22 with ((go_at_call 21;(with_reducible refine DC.out.mono ?_);rintro e w21 ⟨rfl,hq⟩;have D21:=Hd hq;clear hq))
 clear DC D20;have VT:=Hd (vote_any 5 3 d w21);have RV:=Hd (show ∀W,Below w21.heap.size w21 W→Calls Tryz.prog 20 #[pv xx,.agg (encM ⟨5,3,0,0,0,0,d,[]⟩ (.slice none 0 0))] W fun e w'=>e = .returned (.tuple #[])∧Duo w2.heap.size w5 xo xx R5 w' o2 q10 [.slice aoK len capK,.slice aoG len capG,.slice ao len cap] from fun W hW=>by
  rw [HD.out];exact duo_recv (D21.out.later hW) (kind:=5) (frm:=3) (by decide) (by decide) (by decide))
 dsimp only [encM,pv,iv] at VT RV;go_upto_region 23 with (first
  | (go_at_call 60;(with_reducible refine VT.out.mono ?_);rintro e wv ⟨rfl,BV⟩)
  | (go_at_call 20;(with_reducible refine (RV.out _ BV).mono ?_);rintro e w22 ⟨rfl,hq⟩;have D22:=Hd hq;clear hq))
 clear VT RV D21;have TK:=Hd (show Calls Tryz.prog 18 #[pv xx] w22 fun e w'=>(∃ao n cap,e = .returned (.slice ao n cap))∧Duo w2.heap.size w5 xo xx R5 w' o2 q11 [.slice aoK len capK,.slice aoG len capG,.slice ao len cap] from by
  refine (duo_tick1 D22.out (by rw [san_t.2.2.2.2];omega)).mono ?_;rintro e w' ⟨⟨a,c,h⟩,q⟩;exact ⟨⟨a,_,c,h⟩,q⟩)
 unfold pv at TK;go_upto_region 24 with ((go_at_call 18;(with_reducible refine TK.out.mono ?_);rintro e w23 ⟨⟨_,_,_,rfl⟩,hq⟩;have D23:=Hd hq;clear hq))
 clear TK D22;have DC:=Hd (show Calls Tryz.prog 21 #[pv xx,iv 0] w23 fun e w'=>∃ao2 cap2,e = .returned (.tuple #[.slice ao2 len cap2,.bool true])∧Duo w2.heap.size w5 xo xx R5 w' o2 q11 (.slice ao2 len cap2 :: [.slice aoK len capK,.slice aoG len capG,.slice ao len cap]) from by
  have:=duo_dec1 D23.out (san_c.2.2);rw [←HLEN.out] at this;exact this)
 unfold pv iv at DC;go_upto_region 25 with ((go_at_call 21;(with_reducible refine DC.out.mono ?_);rintro e w24 ⟨aoM,capM,rfl,hq⟩;have D24:=Hd hq;clear hq))
 clear DC D23;have SM1:=Hd (duo_same D24.out (u:=.slice aoG len capG) (v:=.slice ao len cap) (by simp) (by simp));have SM2:=Hd (fun W (h:Duo w2.heap.size w5 xo xx R5 W o2 q11 [.slice aoM len capM,.slice aoK len capK,.slice aoG len capG,.slice ao len cap])=>duo_same h (u:=.slice aoK len capK) (v:=.slice ao len cap) (by simp) (by simp));have SM3:=Hd (fun W (h:Duo w2.heap.size w5 xo xx R5 W o2 q11 [.slice aoM len capM,.slice aoK len capK,.slice aoG len capG,.slice ao len cap])=>duo_same h (u:=.slice aoM len capM) (v:=.slice ao len cap) (by simp) (by simp));have BG1:=Hd (show ∀W,Duo w2.heap.size w5 xo xx R5 W o2 q11 [.slice aoM len capM,.slice aoK len capK,.slice aoG len capG,.slice ao len cap]→Calls Tryz.prog 16 #[pv xx,iv 0,.slice ao len cap] W fun e w'=>e = .returned (.int .i64 260)∧Duo w2.heap.size w5 xo xx R5 w' o2 q12 [.slice aoM len capM,.slice aoK len capK,.slice aoG len capG,.slice ao len cap] from fun W h=>(duo_begin1 h (by simp) 0).mono (fun e w' q=>⟨by rw [q.1,san_d.1];rfl,q.2⟩));have BG2:=Hd (show ∀W,Duo w2.heap.size w5 xo xx R5 W o2 q12 [.slice aoM len capM,.slice aoK len capK,.slice aoG len capG,.slice ao len cap]→Calls Tryz.prog 16 #[pv xx,iv 1,.slice none 0 0] W fun e w'=>e = .returned (.int .i64 0)∧Duo w2.heap.size w5 xo xx R5 w' o2 q13 [.slice aoM len capM,.slice aoK len capK,.slice aoG len capG,.slice ao len cap] from fun W h=>(duo_begin9 h 1).mono (fun e w' q=>⟨by rw [q.1,san_d.2.1];rfl,q.2⟩));have HT:=Hd (show ∀W,Duo w2.heap.size w5 xo xx R5 W o2 q13 [.slice aoM len capM,.slice aoK len capK,.slice aoG len capG,.slice ao len cap]→Calls Tryz.prog 24 #[pv xx] W fun e w'=>e = .returned (.int .i64 1)∧w'=W from fun W h=>(duo_height h).mono (fun e w' q=>⟨by rw [q.1,san_d.2.2],q.2⟩));dsimp only [pv,iv] at BG1 BG2 HT;go_wp2_with (first
  | (go_at_call 22;(with_reducible refine SM1.out.mono ?_);rintro e wA ⟨rfl,DA⟩)
  | (go_at_call 22;(with_reducible refine (SM2.out _ DA).mono ?_);rintro e wB ⟨rfl,DB⟩)
  | (go_at_call 22;(with_reducible refine (SM3.out _ DB).mono ?_);rintro e wC ⟨rfl,DC⟩)
  | (go_at_call 16;(with_reducible refine (BG1.out _ DC).mono ?_);rintro e wD ⟨rfl,DD⟩)
  | (go_at_call 16;(with_reducible refine (BG2.out _ DD).mono ?_);rintro e wE ⟨rfl,DE⟩)
  | (go_at_call 24;(with_reducible refine (HT.out _ DE).mono ?_);rintro e wF ⟨rfl,hwF⟩;rw [hwF];clear hwF wF))
 go_ret;have hle:=HBW2.out;exact ⟨rfl,hle.trans ((HB5.out.trans DE.below).mono hle.size)⟩
end
section
open Go.RowKit
theorem Net.kept {G:ByteArray→List ByteArray→Prop} {base:Nat} {w w':World} {xs:List Nat} {ss:List StB} {Rs:Nat→Nat→Prop} (h:Net G base w xs ss Rs) (hk:∀k,AllR xs.length Rs k→w'.heap[k]?=w.heap[k]?) (hz:w.heap.size≤w'.heap.size):Net G base w' xs ss Rs:=
 ⟨h.len,fun i x s hx hs=>by
  obtain ⟨p,hp⟩:=h.node i x s hx hs;exact ⟨p,hp.later (fun k hr=>hk k ⟨i,(List.getElem?_eq_some_iff.1 hx).1,hr⟩) hz⟩,h.fit,h.dis,h.lo⟩
theorem cut_same {n:Nat} {W W':World} (h:Below n (cutW n W) W') (hn:n≤W.heap.size) (hs:W.heap.size≤W'.heap.size):Below n W W':=by
 have b:=cutW_below hn;exact ⟨h.os.trans b.os.symm,h.tape.trans b.tape.symm,h.output.trans b.output.symm,hs,fun k hk=>(h.block k hk).trans (b.block k hk).symm⟩
theorem OutR.sail {G:ByteArray→List ByteArray→Prop} {base:Nat} {wt W W':World} {xs:List Nat} {ss:List StB} {Rs Rs':Nat→Nat→Prop} {v:Value} {ms:List MsgB} (hO:OutR (AllR xs.length Rs) wt W v ms) (hs:Sail G base W xs Rs W' ss Rs'):OutR (AllR xs.length Rs') wt W' v ms:=
 (hO.other (fun k hk _ h2=>by
  rcases hs.grow k hk with q | q
  ·exact q
  omega)).kept hs.chg.size (fun k _ h2 hz=>hs.chg.block k h2 (fun q=>hz (hs.up k q)))
structure Fl (G:ByteArray→List ByteArray→Prop) (base:Nat) (w1:World) (gn:Nat) (cur:Array Value) (xs:List Nat) (ss:List StB) (Rs:Nat→Nat→Prop) (W:World):Prop where
 net:Net G base W xs ss Rs
 bel:Below base w1 W
 pos:0<base
 le:base≤w1.heap.size
 glob:Glob w1
 asd:Asd xs.length Rs W gn
 row:W.heap[gn]?=some (.cells cur 25 (0,0))
 ptr:∀(i x:Nat),xs[i]?=some x→cur[i]?=some (pv x)
section
variable {G:ByteArray→List ByteArray→Prop} {base:Nat} {w1 W W':World} {gn:Nat} {cur:Array Value} {xs:List Nat} {ss ss':List StB} {Rs Rs':Nat→Nat→Prop}
theorem Fl.size (h:Fl G base w1 gn cur xs ss Rs W):base≤W.heap.size:=Nat.le_trans h.le h.bel.size
theorem Fl.gl (h:Fl G base w1 gn cur xs ss Rs W):Glob W:=by
 obtain ⟨t,ht⟩:=h.glob;exact ⟨t,(h.bel.block 0 h.pos).trans ht⟩
theorem Fl.sail (h:Fl G base w1 gn cur xs ss Rs W) (s:Sail G base W xs Rs W' ss' Rs'):Fl G base w1 gn cur xs ss' Rs' W':=
 ⟨s.net,h.bel.trans (s.chg.below h.size (fun k hk=>h.net.low hk)),h.pos,h.le,h.glob,s.asd h.asd,(s.blk h.asd).trans h.row,h.ptr⟩
theorem Fl.kept (h:Fl G base w1 gn cur xs ss Rs W) (hb:Below base W W') (hk:∀k,AllR xs.length Rs k→W'.heap[k]?=W.heap[k]?) (hg:W'.heap[gn]?=W.heap[gn]?):Fl G base w1 gn cur xs ss Rs W':=
 ⟨h.net.kept hk hb.size,h.bel.trans hb,h.pos,h.le,h.glob,h.asd.later hb.size,hg.trans h.row,h.ptr⟩
theorem Fl.later (h:Fl G base w1 gn cur xs ss Rs W) (hb:Below W.heap.size W W'):Fl G base w1 gn cur xs ss Rs W':=
 h.kept (hb.mono h.size) (fun k hk=>hb.block k (h.net.lt hk)) (hb.block gn h.asd.1)
theorem Fl.cell (h:Fl G base w1 gn cur xs ss Rs W) {i x:Nat} (hx:xs[i]?=some x):W.cell? ⟨gn,i,none⟩=some (pv x):=by
 rw [cell_of_row W gn i _ _ _ h.row];exact h.ptr i x hx
theorem wpList_flpush {wt wx:World} {v v3:Value} {ms nw:List MsgB} {o:Oper} {a:Act} {Q:Exit→Act→World→Prop} {ops:Array Oper} {rest:List Oper} (hgd:o.guard=none) (s x:Operand)
  (ho:o.op = .call {callee:=.builtin .append,args:=#[s,x],argTypes:=#[33,33]})
  (hs:a.eval s=v) (hx:a.eval x=v3) (F:Fl G base w1 gn cur xs ss Rs W) (hO:OutR (AllR xs.length Rs) wt W v ms) (hO3:OutR (AllR xs.length Rs) wx W v3 nw) (h1:wt.heap.size≤wx.heap.size) (h2:base≤wt.heap.size) (h3:gn<wt.heap.size) (hwt:wt.heap.size≤W.heap.size)
  (hlen:ms.length+nw.length≤100000000) (h:∀v' W',OutR (AllR xs.length Rs) wt W' v' (ms ++ nw)→Fl G base w1 gn cur xs ss Rs W'→wt.heap.size≤W'.heap.size→wpList Tryz.prog ops Q rest (a.put o.dst v') W'):wpList Tryz.prog ops Q (o :: rest) a W:=by
 have hcs:=cutW_size hwt;refine wpList_push_row (w:=cutW wt.heap.size W) hgd s x ho hs (hO.rebase hcs) (by rw [hcs];exact cutW_below hwt) (fun k hk=>F.net.lt hk) hx hO3 (fun k hk=>⟨⟨by rw [hcs];exact Nat.le_trans h1 hk.1.1,hk.1.2⟩,hk.2⟩) hlen ?_;intro v' W' o1 k1 b1 z1;rw [hcs] at b1;have b2:=cut_same b1 hwt k1.size;exact h v' W' (o1.rebase hcs.symm) (F.kept (b2.mono h2) z1 (b2.block gn h3)) (Nat.le_trans hwt k1.size)
end
end
section
open Go.RowKit
section
variable {R R0:Nat→Prop} {w:World} {x:Nat} {p:Ptr} {s:StB}
theorem learn_bad {h:Int} {ok:Bool} {d:ByteArray} {l:List ByteArray} (c:ok=false∨h<0∨1200≤h):s.learn h ok d l=(s,false):=by unfold NS.learn;rw [if_pos c]
theorem learn_new {h:Int} {d:ByteArray} {l:List ByteArray} (h0:¬h<0) (h1:¬ 1200≤h) (hg:getA h s.decs=none):s.learn h true d l=({s with decs:=putA h ⟨-1,d,l⟩ s.decs},true):=by
 unfold NS.learn;rw [if_neg (by simp [h0,h1]),hg]
theorem learn_odd {h:Int} {d:ByteArray} {l:List ByteArray} {v:ValB} (hg:getA h s.decs=some v) (hd:v.dig≠d) (ok:Bool):s.learn h ok d l=(s,false):=by
 unfold NS.learn;split
 ·rfl
 rw [hg];simp only;rw [if_pos hd]
theorem learn_old {h:Int} {d:ByteArray} {l:List ByteArray} {v:ValB} (h0:¬h<0) (h1:¬ 1200≤h) (hg:getA h s.decs=some v) (hd:v.dig=d):s.learn h true d l=({s with decs:=putA h ⟨-1,d,l⟩ s.decs},true):=by
 unfold NS.learn;rw [if_neg (by simp [h0,h1]),hg];simp only;rw [if_neg (by rw [hd];simp)]
theorem learn_any {v:Value} {l:List ByteArray} (h:NodeP R w x p s) (hv:LRow R0 w v l) (h0:∀k,R0 k→k<w.heap.size) (hl:l.length≤60) (hG:Glob w) (height:Int) :
  Calls Tryz.prog 36 #[pv x,iv height,v] w fun e w'=>e = .returned (errE (s.learn height (ascS l) (digV l) l).2)∧Turned R w x (s.learn height (ascS l) (digV l) l).1 w':=by
 have H:=Hd h;have NV:=Hd (newValue_any hv h0 hl hG (-1));clear h hv hG;obtain ⟨dv,hdv⟩:∃dv,dv=digV l:=⟨_,rfl⟩;obtain ⟨av,hav⟩:∃av,av=ascS l:=⟨_,rfl⟩;rw [←hdv,←hav] at NV ⊢;clear hdv hav;unfold pv iv at *;go_enter Tryz.func36,Tryz.ntmps36
 go_upto_region 4 with (go_at_call 62;refine NV.out.mono ?_;rintro e w1 ⟨u,rfl,hrow,hb⟩;obtain ⟨ao,cap,rfl,hcap,hrw⟩:=hrow;have HLV:=Hd (show LRow (New w w1) w1 (.slice ao l.length cap) l from ⟨ao,cap,rfl,hcap,hrw⟩);have HB1:=Hd hb;clear hb hcap hrw)
 obtain ⟨w3,hw3⟩:∃w3,w3=w1.alloc (.cells #[.int .i64 (-1),.string dv,.slice ao l.length cap] 120):=⟨_,rfl⟩;have HB3:=Hd (show Below w.heap.size w w3 from by rw [hw3];exact HB1.out.alloc HB1.out.size _);have HB13:=Hd (show Below w1.heap.size w1 w3 from by rw [hw3];exact (Below.refl _ _).alloc (Nat.le_refl _) _);have HVR:=Hd (show w3.heap[w1.heap.size]?=some (.cells #[.int .i64 (-1),.string dv,.slice ao l.length cap] 120 (0,0)) from by rw [hw3];exact World.alloc_heap_new w1 _);have HS3:=Hd (show w3.heap.size=w1.heap.size+1 from by rw [hw3];simp);rw [←hw3];clear hw3;obtain ⟨vb,hvb⟩:∃vb,vb=w1.heap.size:=⟨_,rfl⟩;have HVB:=Hd hvb;rw [←hvb] at HVR ⊢;clear hvb;have HL3:=Hd (show LRow (New w w3) w3 (.slice ao l.length cap) l from (HLV.out.kept (fun g cur fr hr _=>HB13.out.block g hr.2)).mono (fun k hk=>⟨hk.1,by have:=hk.2;have:=HS3.out;omega⟩));have HN3:=Hd (H.out.below HB3.out);have HNM:=Hd (show NodeP (fun k=>R k∨New w w3 k) w3 x p s from HN3.out.mono (fun k hk=>.inl hk) (fun k hk=>by
  rcases hk with hk | hk
  ·exact HN3.out.lt k hk
  exact hk.2))
 have HVN:=Hd (show New w w3 vb from ⟨by rw [HVB.out];exact HB1.out.size,by rw [HVB.out,HS3.out];omega⟩);have c18:=HN3.out.nc.c18;have HGN:=Hd (show Grows R (fun k=>R k∨New w w3 k) w from ⟨fun k hk=>.inl hk,fun k hk=>by
  rcases hk with hk | hk
  ·exact .inl hk
  exact .inr hk.1⟩)
 have HCH:=Hd (show ∀W,Below w3.heap.size w3 W→Turned R w x s W from fun W hW=>Turned.of (H.out.below (HB3.out.trans (hW.mono HB3.out.size))) (Chg.of_below (HB3.out.trans (hW.mono HB3.out.size)) (fun k q1 q2=>by omega)));have hlook:=HN3.out.maps.look_decs height true;simp only [if_true] at hlook;obtain ⟨a0,a1,sa,sn,sc,kn,hlk,HKN⟩:∃(a0:Int) (a1:ByteArray) (sa:Option Addr) (sn sc:Nat) (kn:Bool),(Instr.lookup 105 (.map (some p.decs)) (.int .i64 height) true).run Tryz.prog w3 = .ok (.tuple #[.agg #[.int .i64 a0,.string a1,.slice sa sn sc],.bool kn]) w3∧((kn=false∧getA height s.decs=none)∨(kn=true∧∃u,getA height s.decs=some u∧u.dig=a1)):=by
  rcases hlook with ⟨q,hq⟩ | ⟨u,v2,q,⟨sl,rfl,ao2,cap2,rfl,_⟩,hq⟩
  ·exact ⟨0,_,none,0,0,false,hq,.inl ⟨rfl,q⟩⟩
  exact ⟨u.round,u.dig,ao2,_,cap2,true,hq,.inr ⟨rfl,u,q,rfl⟩⟩
 have HK:=Hd HKN;clear hlook HKN;go_upto_region 5 with (fail)
 obtain ⟨w4,hw4⟩:∃w4,w4=w3.alloc (.cells #[.int .i64 a0,.string a1,.slice sa sn sc] 120):=⟨_,rfl⟩;have HB4:=Hd (show Below w3.heap.size w3 w4 from by rw [hw4];exact (Below.refl _ _).alloc (Nat.le_refl _) _);have o1:=cell_of_row w4 w3.heap.size 1 _ _ _ (show w4.heap[w3.heap.size]?=some (.cells #[.int .i64 a0,.string a1,.slice sa sn sc] 120 (0,0)) from by rw [hw4];exact World.alloc_heap_new w3 _);simp at o1;have HV4:=Hd ((HB4.out.block vb HVN.out.2).trans HVR.out);have v0:=cell_of_row w4 vb 0 _ _ _ HV4.out;have v1:=cell_of_row w4 vb 1 _ _ _ HV4.out;have v2:=cell_of_row w4 vb 2 _ _ _ HV4.out;simp at v0 v1 v2;rw [←hw4];obtain ⟨ob,hob⟩:∃ob,ob=w3.heap.size:=⟨_,rfl⟩;rw [←hob] at o1 ⊢;clear hob hw4 c18 hlk;have HN4:=Hd (HNM.out.below HB4.out);have HL4:=Hd (show LRow (fun k=>R k∨New w w3 k) w4 (.slice ao l.length cap) l from (HL3.out.mono (fun k hk=>.inr hk)).below HNM.out.lt HB4.out);have HT4:=Hd (HCH.out w4 HB4.out);rcases av with _ | _
 ·have HE:=Hd (learn_bad (s:=s) (h:=height) (ok:=false) (d:=dv) (l:=l) (.inl rfl));go_wp2
  go_ret;rw [HE.out];exact ⟨rfl,HT4.out⟩
 by_cases hneg:height<0
 ·have HE:=Hd (learn_bad (s:=s) (h:=height) (ok:=true) (d:=dv) (l:=l) (.inr (.inl hneg)));go_wp2
  go_ret;rw [HE.out];exact ⟨rfl,HT4.out⟩
 by_cases hbig:1200≤height
 ·have HE:=Hd (learn_bad (s:=s) (h:=height) (ok:=true) (d:=dv) (l:=l) (.inr (.inr hbig)));go_wp2
  go_ret;rw [HE.out];exact ⟨rfl,HT4.out⟩
 by_cases hodd:kn=true∧a1≠dv
 ·obtain ⟨rfl,hne⟩:=hodd;have HE:=Hd (show s.learn height true dv l=(s,false) from by
   rcases HK.out with ⟨q,_⟩ | ⟨_,u,q,e⟩
   ·cases q
   exact learn_odd q (by rw [e];exact hne) true)
  have hb1:(a1.toList == dv.toList)=false:=beq_ne hne;clear hne;go_wp2
  go_ret;rw [HE.out];exact ⟨rfl,HT4.out⟩
 have HE:=Hd (show s.learn height true dv l=({s with decs:=putA height ⟨-1,dv,l⟩ s.decs},true) from by
  rcases HK.out with ⟨_,q⟩ | ⟨e1,u,q,e⟩
  ·exact learn_new hneg hbig q
  exact learn_old hneg hbig q (by rw [e];exact Classical.byContradiction fun c=>hodd ⟨e1,c⟩))
 have HOD:=Hd hodd;clear hodd;go_cut [46] (fun t wc=>t = .bool false∧wc=w4)
 case first=>
  rcases kn with _ | _
  ·go_upto_region 6 with (fail)
   go_meet;exact ⟨rfl,rfl⟩
  have he:a1=dv:=Classical.byContradiction fun c=>HOD.out ⟨rfl,c⟩;subst he;go_upto_region 6 with (fail)
  go_meet;exact ⟨rfl,rfl⟩
 case rest=>
  obtain ⟨rfl,hw⟩:=hcut;rw [hw];clear hw;obtain ⟨ob2,hup,hnf⟩:=HN4.out.drew.lay_decs height ⟨-1,dv,l⟩ (sl:=.slice ao l.length cap) (HL4.out.below HN4.out.lt ((Below.refl _ w4).drew));have HNF:=Hd hnf;unfold iv at hup;simp only at hup;clear hnf;have c18:=HN4.out.nc.c18;have hfz:=HN4.out.nc.fz;go_upto_region 7 with (fail)
  go_region
  all_goals (
   go_wp2
   go_ret;rw [HE.out];refine ⟨rfl,p,_,HNF.out,(Chg.of_below (HB3.out.trans (HB4.out.mono HB3.out.size)).drew (fun k q1 q2=>by omega)).trans ((Chg.put _ p.decs ob2 ?_)),HGN.out⟩;exact .inl (H.out.maps.own _ (by simp [Ptr.maps])))
end
end
section
open Go.RowKit
theorem rfaults_any (n:Int) (w:World) (h1:1≤n) (h7:n≤7):Calls Tryz.prog 33 #[.int .i64 n] w fun e w'=>e = .returned (.int .i64 (faultsN n))∧w'=w:=by
 have q1:decide (n<1)=false:=by simpa using h1
 have q2:decide (7<n)=false:=by simpa using h7
 have q3:(n - 1).tdiv 3=faultsN n:=by unfold faultsN;rw [Int.tdiv_eq_ediv_of_nonneg (by omega)]
 have hf:0≤faultsN n∧faultsN n≤2:=by unfold faultsN;omega
 go_enter Tryz.func33,Tryz.ntmps33
 go_wp2
 go_ret;exact ⟨rfl,rfl⟩
theorem rquorum_any (n:Int) (w:World) (h1:1≤n) (h7:n≤7):Calls Tryz.prog 35 #[.int .i64 n] w fun e w'=>e = .returned (.int .i64 (quorumN n))∧w'=w:=by
 have H:=Hd (rfaults_any n w h1 h7);have q1:decide (n<1)=false:=by simpa using h1
 have q2:decide (7<n)=false:=by simpa using h7
 have hf:0≤faultsN n∧faultsN n≤2:=by unfold faultsN;omega
 go_enter Tryz.func35,Tryz.ntmps35
 go_wp2_with fail
 refine (H.out).mono ?_;rintro _ _ ⟨rfl,rfl⟩;go_wp2
 go_ret;exact ⟨rfl,rfl⟩
end
structure Cast (D:Type) where
 frm:Int
 kind:Int
 height:Int
 round:Int
 dig:D
section
variable {D L:Type} [Dg D] [Inhabited L]
def castOf (m:Msg D L):Cast D:=⟨m.frm,m.kind,m.height,m.round,m.dig⟩
def noteGo (over:Bool) (m:Msg D L):Bool→List (Cast D)→Bool×Bool
 | b,[]=>(b,true)
 | b,c :: l=>
  if c.kind≠m.kind∨c.height≠m.height∨c.round≠m.round then noteGo over m b l
  else
   let b2:=b || (decide (c.dig≠m.dig) && (decide (c.frm=m.frm) || (decide (m.kind=6) && !over)))
   if c.frm=m.frm then (b2,false) else noteGo over m b2 l
def noteC (over:Bool) (b:Bool) (cs:List (Cast D)) (m:Msg D L):Bool×List (Cast D):=
 if m.kind=3 then (b,cs) else
  let r:=noteGo over m b cs
  (r.1,if r.2=true then cs ++ [castOf m] else cs)
theorem note_own {over:Bool} {cs:List (Cast D)} {m:Msg D L} (h6:m.kind≠6) (h:∀c∈cs,c.kind=m.kind→c.height=m.height→c.round=m.round→c.dig=m.dig):(noteC over false cs m).1=false∧∀c∈(noteC over false cs m).2,c∈cs∨c=castOf m:=by
 have hgo:∀l:List (Cast D),(∀c∈l,c.kind=m.kind→c.height=m.height→c.round=m.round→c.dig=m.dig)→(noteGo over m false l).1=false:=by
  intro l;induction l with
  | nil=>intro _;rfl
  | cons c l ih=>
   intro hl;have ih:=ih (fun c hc=>hl c (by simp [hc]));unfold noteGo;split
   ·exact ih
   rename_i q
   simp only [not_or,Decidable.not_not] at q;have hd:=hl c (by simp) q.1 q.2.1 q.2.2;simp only [hd,not_true_eq_false,ne_eq,decide_false,Bool.false_and,Bool.or_false];split
   ·rfl
   exact ih
 unfold noteC;split
 ·exact ⟨rfl,fun c hc=>.inl hc⟩
 refine ⟨hgo cs h,fun c hc=>?_⟩;simp only at hc;split at hc
 ·rcases List.mem_append.1 hc with q | q
  ·exact .inl q
  exact .inr (by simpa using q)
 exact .inl hc
def noteL (over:Bool):Bool×List (Cast D)→List (Msg D L)→Bool×List (Cast D)
 | x,[]=>x
 | x,m :: l=>noteL over (if m.kind=6 then x else noteC over x.1 x.2 m) l
structure OnceI (sz:D→Prop) (G:D→L→Prop) (me n:Int) (s:NS D L) (cs:List (Cast D)):Prop where
 inv:InvS sz s
 g:GI sz G s
 q:QI s
 id:s.id=me
 nn:s.n=n
 height:s.height=0
 ques:s.isDec 0=false→s.ques = []
 casts:∀c∈cs,∃m∈s.mine,c.kind=m.kind∧c.round=m.round∧c.dig=m.dig
theorem OnceI.start {sz:D→Prop} (hz:sz Dg.nil) (G:D→L→Prop) {me n:Int} (h0:0≤me) (h1:me<n) (h7:n≤7):OnceI sz G me n (newS me n:NS D L) []:=
 ⟨new_inv hz h0 h1 h7,new_G sz G me n,new_QI me n,rfl,rfl,rfl,fun _=>rfl,fun c hc=>by cases hc⟩
theorem begin_zero (s:NS D L) (h0:s.height=0) (ok:Bool) (d:D) (l:L):∃o a,(s.begin 0 ok d l).1 = {s with own:=o,acc:=a}:=by
 unfold NS.begin;split
 ·exact ⟨s.own,s.acc,rfl⟩
 split
 ·exact ⟨_,_,rfl⟩
 split
 ·rename_i q;rw [h0] at q;exact absurd q.2.1 (by omega)
 exact ⟨s.own,s.acc,rfl⟩
theorem OnceI.begin {sz:D→Prop} {G:D→L→Prop} (hGz:∀d l,G d l→sz d) {me n:Int} {s:NS D L} {cs:List (Cast D)} (h:OnceI sz G me n s cs) (ok:Bool) {d:D} {l:L} (hd:ok=true→G d l) :
  OnceI sz G me n (s.begin 0 ok d l).1 cs∧(s.begin 0 ok d l).1.round=s.round∧(s.begin 0 ok d l).1.decs=s.decs:=by
 have h1:=begin_inv h.inv 0 ok l (fun k=>hGz _ _ (hd k));have h2:=begin_G h.g 0 ok hd;have h3:=begin_QI h.q 0 ok d l;obtain ⟨o,a,e⟩:=begin_zero s h.height ok d l;rw [e] at h1 h2 h3 ⊢;exact ⟨⟨h1,h2,h3,h.id,h.nn,h.height,h.ques,h.casts⟩,rfl,rfl⟩
theorem OnceI.accept {sz:D→Prop} {G:D→L→Prop} {me n:Int} {s:NS D L} {cs:List (Cast D)} (h:OnceI sz G me n s cs) (d:D) (hi:InvS sz (s.accept d)):OnceI sz G me n (s.accept d) cs:=
 ⟨hi,accept_G h.g d,accept_QI h.q d,h.id,h.nn,h.height,h.ques,h.casts⟩
theorem receive_kept (s:NS D L) (m:Msg D L) (ok:Bool):(s.receive m ok).height=s.height∧(s.receive m ok).id=s.id∧(s.receive m ok).n=s.n∧(s.receive m ok).decs=s.decs∧(s.receive m ok).mine=s.mine∧(s.receive m ok).round=s.round∧(s.receive m ok).lock=s.lock∧(s.isDec m.height=false→(s.receive m ok).ques=s.ques):=by
 unfold NS.receive;split
 ·exact ⟨rfl,rfl,rfl,rfl,rfl,rfl,rfl,fun _=>rfl⟩
 split
 ·exact ⟨rfl,rfl,rfl,rfl,rfl,rfl,rfl,fun _=>rfl⟩
 split
 ·rename_i hd
  obtain ⟨a,b,e⟩:=ask_same s m;rw [e];exact ⟨rfl,rfl,rfl,rfl,rfl,rfl,rfl,fun h=>by rw [h] at hd;cases hd⟩
 split
 ·exact ⟨rfl,rfl,rfl,rfl,rfl,rfl,rfl,fun _=>rfl⟩
 split
 ·obtain ⟨hb,e1,e2,e3,e4,e5,e6⟩:=putVote_same s m;exact ⟨hb.height,hb.id,hb.n,hb.decs,e4,e1,hb.lock,fun _=>hb.ques⟩
 split
 ·exact ⟨rfl,rfl,rfl,rfl,rfl,rfl,rfl,fun _=>rfl⟩
 split <;> exact ⟨rfl,rfl,rfl,rfl,rfl,rfl,rfl,fun _=>rfl⟩
theorem OnceI.receive {sz:D→Prop} {G:D→L→Prop} {me n:Int} {s:NS D L} {cs:List (Cast D)} (h:OnceI sz G me n s cs) {m:Msg D L} {ok:Bool} (hh:m.height=0)
  (h1:ok=true→m.kind=3∨m.kind=4∨m.kind=6∨m.kind=5→OkM sz m) (h2:ok=true→m.kind=3∨m.kind=4∨m.kind=6∨m.kind=5→InM m) (h3:ok=true→m.kind=3→G m.dig m.list):OnceI sz G me n (s.receive m ok) cs:=by
 obtain ⟨e1,e2,e3,e4,e5,e6,e7,e8⟩:=receive_kept s m ok;refine ⟨receive_inv h.inv h1,receive_G h.g h3,receive_QI h.q h.inv.num.n7 h2,by rw [e2];exact h.id,by rw [e3];exact h.nn,by rw [e1];exact h.height,fun hd=>?_,by rw [e5];exact h.casts⟩;have hd2:s.isDec 0=false:=by unfold NS.isDec at hd ⊢;rw [e4] at hd;exact hd
 rw [e8 (by rw [hh];exact hd2)];exact h.ques hd2
theorem OnceI.tick {sz:D→Prop} {G:D→L→Prop} {me n:Int} {s:NS D L} {cs:List (Cast D)} (h:OnceI sz G me n s cs) :
  OnceI sz G me n s.tick.1 cs∧(s.isDec 0=false→s.tick.1.isDec 0=false→(noteL false (false,cs) s.tick.2).1=false∧OnceI sz G me n s.tick.1 (noteL false (false,cs) s.tick.2).2):=by
 have hk:=tick_keep h.inv;obtain ⟨t,ht⟩:=hk.mine;have base:∀cs',(∀c∈cs',∃m∈s.tick.1.mine,c.kind=m.kind∧c.round=m.round∧c.dig=m.dig)→OnceI sz G me n s.tick.1 cs':=fun cs' hc=>⟨tick_inv h.inv,tick_G h.inv h.g,tick_QI h.inv,by rw [hk.id];exact h.id,by rw [hk.n];exact h.nn,by rw [hk.height];exact h.height,fun _=>hk.ques,hc⟩;have hcs:∀c∈cs,∃m∈s.tick.1.mine,c.kind=m.kind∧c.round=m.round∧c.dig=m.dig:=fun c hc=>by
  obtain ⟨m,hm,q⟩:=h.casts c hc;exact ⟨m,by rw [ht];exact List.mem_append_left _ hm,q⟩
 refine ⟨base cs hcs,fun hd hd2=>?_⟩;obtain ⟨u,hu⟩:=tick_sends (s:=s) (by rw [h.height];exact hd);have hans:s.answers = []:=by unfold NS.answers;rw [h.ques hd];rfl
 rw [hans,List.nil_append] at hu;have hi2:=tick_inv h.inv;have hall:∀m∈s.tick.2,∃a∈s.tick.1.mine,m.kind=a.kind∧m.round=a.round∧m.dig=a.dig:=fun m hm=>by
  rw [hu] at hm;obtain ⟨a,ha,x,_,_,rfl⟩:=mem_sends hm;exact ⟨a,List.mem_of_mem_drop ha,rfl,rfl,rfl⟩
 have key:∀(ms:List (Msg D L)) (c0:List (Cast D)),(∀m∈ms,∃a∈s.tick.1.mine,m.kind=a.kind∧m.round=a.round∧m.dig=a.dig)→(∀c∈c0,∃m∈s.tick.1.mine,c.kind=m.kind∧c.round=m.round∧c.dig=m.dig) →
   (noteL false (false,c0) ms).1=false∧∀c∈(noteL false (false,c0) ms).2,∃m∈s.tick.1.mine,c.kind=m.kind∧c.round=m.round∧c.dig=m.dig:=by
  intro ms;induction ms with
  | nil=>intro c0 _ hc;exact ⟨rfl,hc⟩
  | cons m ms ih=>
   intro c0 hms hc;unfold noteL;by_cases h6:m.kind=6
   ·rw [if_pos h6];exact ih c0 (fun x hx=>hms x (by simp [hx])) hc
   rw [if_neg h6];obtain ⟨a,ha,a1,a2,a3⟩:=hms m (by simp);obtain ⟨n1,n2⟩:=note_own (over:=false) (cs:=c0) (m:=m) h6 (fun c hcm k1 _ k3=>by
    obtain ⟨b,hb,b1,b2,b3⟩:=hc c hcm;have:=InvS.once hi2 b hb a ha (by rw [←b1,←a1];exact k1) (by rw [←b2,←a2];exact k3);rw [b3,this,a3])
   have e:noteC false false c0 m=(false,(noteC false false c0 m).2):=Prod.ext n1 rfl;simp only;rw [e];refine ih _ (fun x hx=>hms x (by simp [hx])) (fun c hcm=>?_);rcases n2 c hcm with q | q
   ·exact hc c q
   subst q;exact ⟨a,ha,a1,a2,a3⟩
 obtain ⟨k1,k2⟩:=key _ cs hall hcs;exact ⟨k1,base _ k2⟩
end
end Go.Proofs.YtifcdjmcoibblaaGreatDoor
