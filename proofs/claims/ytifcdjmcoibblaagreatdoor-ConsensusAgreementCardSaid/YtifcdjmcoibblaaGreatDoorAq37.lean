/- Sne Flt Lrn Rf25 ConV -/
import Derived.Test.YtifcdjmcoibblaaGreatDoorAq36
set_option linter.unusedVariables false
set_option linter.unusedSimpArgs false
set_option linter.unusedSectionVars false
set_option maxRecDepth 100000
set_option maxHeartbeats 80000000
namespace Go.Proofs.YtifcdjmcoibblaaGreatDoor
section
open Go.RowKit
structure One (w2:World) (W:World) (xo:Nat) (vl:Value):Prop where
 net:∃Rs,Net GA w2.heap.size W [xo] [rn (Z42 0 1)] Rs
 bel:Below w2.heap.size w2 W
 pos:0<w2.heap.size
 glob:Glob w2
 row:Z0a (λk=>k<w2.heap.size) w2 vl (fam 1)
theorem Zrc {w2:World} {vl:Value} (hG:Glob w2) (hr:Z0a (λk=>k<w2.heap.size) w2 vl (fam 1)):Calls Tryz.prog 15 #[.int .i64 0,.int .i64 1] w2 λe w'=>∃xo,e = .returned (.tuple #[pv xo,.int .i64 0])∧One w2 w' xo vl:=by
 refine (Zt4 (Net.nil GA w2.heap.size w2 (λ_ _=>False)) (Nat.le_refl _) (id:=0) (n:=1) (by omega) (by omega) (by omega) (by omega)).mono ?_;rintro e w' ⟨x,Rs,rfl,hn,hb,_⟩;refine ⟨x,rfl,⟨Rs,hn⟩,hb,?_,hG,hr⟩;obtain ⟨t,ht⟩:=hG;exact (gE ht).1
theorem Zrd {w2 W:World} {xo:Nat} {vl:Value} (h:One w2 W xo vl):Calls Tryz.prog 15 #[.int .i64 0,.int .i64 4] W λe w'=>∃xx R5,e = .returned (.tuple #[pv xx,.int .i64 0])∧Duo w2.heap.size w' xo xx R5 w' (Z42 0 1) (Z42 0 4) [vl]∧Below w2.heap.size w2 w':=by
 obtain ⟨Rs,hn⟩:=h.net;refine (Zt4 hn h.bel.size (id:=0) (n:=4) (by omega) (by omega) (by omega) (by omega)).mono ?_;rintro e w' ⟨x,Rs',rfl,hn',hb,_⟩;have hbb:=h.bel.trans (hb.mono h.bel.size);refine ⟨x,Rs',rfl,⟨⟨Rs',Z6i.refl hn',λv hv=>?_⟩,h.pos,hbb.size,⟨_,hn'⟩,?_⟩,hbb⟩
 ·obtain rfl:=List.mem_singleton.1 hv;exact (h.row.kept (λg cur fr hr _=>hbb.block g hr)).mono (λk hk=>⟨Nat.lt_of_lt_of_le hk hbb.size,λhr=>by have:=hn'.low hr;omega⟩)
 obtain ⟨t,ht⟩:=h.glob;exact ⟨t,(hbb.block 0 h.pos).trans ht⟩
theorem Zcr {base:Nat} {w5 W:World} {xo xx:Nat} {R5:Nat->Nat->Prop} {a b:S6} {vs:List Value} (h:Duo base w5 xo xx R5 W a b vs) {u v:Value} (hu:u∈vs) (hv:v∈vs):Calls Tryz.prog 22 #[u,v] W λe w'=>e = .returned (.bool true)∧Duo base w5 xo xx R5 w' a b vs:=by
 obtain ⟨Ru,hru⟩:=h.row hu;obtain ⟨Rv,hrv⟩:=h.row hv;obtain ⟨ao,ca,rfl,_,ha⟩:=hru.row;obtain ⟨bo,cb,rfl,_,hb⟩:=hrv.row;refine (Zhy ao bo ca cb _ _ (fam 1) (fam 1) W rfl rfl (Nat.le_trans Z2x (by omega)) ha hb).mono ?_;rintro e w' ⟨rfl,hbl⟩;refine ⟨?_,h.later hbl⟩;unfold Zei;rw [decide_eq_true rfl]
theorem Zp7 (w:World) (hG:Glob w):Calls Tryz.prog 13 #[] w λe w'=>e = .returned (.bool true)∧Below w.heap.size w w':=by
 have HGL:=Hd hG;obtain ⟨len,hlen⟩:∃len,len=(fam 1).length:=⟨_,rfl⟩;have HLEN:=Hd hlen;have HL1:=Hd (show Zqp 1=fam 1 from Z4l (by omega));obtain ⟨d,hd⟩:∃d,d=Z0z (fam 1):=⟨_,rfl⟩;have HD:=Hd hd;clear hG hlen hd;go_enter Tryz.func13,Tryz.ntmps13
 go_upto_region 2 with ((go_at_call 17;(with_reducible refine (Z2f _).mono ?_);rintro e w1 ⟨g,rfl,hb1,hl1⟩;have HB1:=Hd hb1;obtain ⟨vl,c1,r1⟩:=hl1.cell 1 (by omega);rw [HL1.out] at r1;obtain ⟨ao,cap,hvl,_⟩:=id r1;rw [<-HLEN.out] at hvl;subst hvl;have HR1:=Hd r1;clear hb1 hl1 r1))
 obtain ⟨aoh,caph,hvl2,_,hrow1⟩:=HR1.out.row;have DG:=Hd (show Calls Tryz.prog 26 #[.slice ao len cap] w1 λe w'=>e = .returned (.string d)∧Below w1.heap.size w1 w' from by
  rw [<-HLEN.out] at hvl2;injection hvl2 with e1 e2 e3
  subst e1;have:=Z4i ao len cap (fam 1) w1 HLEN.out.symm (by rw [HLEN.out];exact Z2x) hrow1 (Z3z (by omega));rw [HD.out,Z5o (Z3z (by omega))];exact this)
 clear hvl2 hrow1 c1;go_upto_region 3 with ((go_at_call 26;(with_reducible refine DG.out.mono ?_);rintro e w2 ⟨rfl,hb2⟩;have HB2:=Hd hb2;clear hb2))
 have HBW2:=Hd (HB1.out.trans (HB2.out.mono HB1.out.size));have ON:=Hd (Zrc (w2:=w2) (vl:=.slice ao len cap) (by
  obtain ⟨t,ht⟩:=HGL.out;exact ⟨t,(HBW2.out.block 0 (gE ht).1).trans ht⟩) ((HR1.out.kept (λg cur fr hr _=>HB2.out.block g hr.2)).mono (λk hk=>Nat.lt_of_lt_of_le hk.2 HB2.out.size)))
 unfold pv at ON;go_upto_region 4 with ((go_at_call 15;(with_reducible refine ON.out.mono ?_);rintro e w3 ⟨xo,rfl,h3⟩;have O3:=Hd h3;clear h3))
 have TW:=Hd (Zrd O3.out);unfold pv at TW;go_upto_region 5 with ((go_at_call 15;(with_reducible refine TW.out.mono ?_);rintro e w5 ⟨xx,R5,rfl,h5,hb5⟩;have D5:=Hd h5;have HB5:=Hd hb5;clear h5 hb5))
 have NB:=Hd (Zr4 4 4 w5 (by omega));go_upto_region 8 with ((go_at_call 15;(with_reducible refine NB.out.mono ?_);rintro e wq ⟨rfl,hwq⟩;rw [hwq];clear hwq wq))
 obtain ⟨sl,hsl⟩:∃sl,sl=Value.slice ao len cap:=⟨_,rfl⟩;have HSL:=Hd hsl;clear ON TW NB DG O3 HB2 HR1 HB1;have BG:=Hd ((show Calls Tryz.prog 16 #[pv xo,iv 0,.slice ao len cap] w5 λe w'=>e = .returned (.int .i64 0)∧Duo w2.heap.size w5 xo xx R5 w' o1 (Z42 0 4) [.slice ao len cap] from (Zjp D5.out (by simp) 0).mono (λe w' q=>⟨by rw [q.1,Zq8.1];rfl,q.2⟩)));unfold pv iv at BG;go_upto_region 9 with ((go_at_call 16;(with_reducible refine BG.out.mono ?_);rintro e w8 ⟨rfl,hq⟩;have D8:=Hd hq;clear hq))
 clear BG D5;have TK:=Hd (show Calls Tryz.prog 18 #[pv xo] w8 λe w'=>(∃ao cap,e = .returned (.slice ao 0 cap))∧Duo w2.heap.size w5 xo xx R5 w' o2 (Z42 0 4) [.slice ao len cap] from by
  have:=Zmh D8.out (by rw [Zkp.1];omega);rw [Zq8.2.1] at this;exact this)
 unfold pv at TK;go_upto_region 10 with ((go_at_call 18;(with_reducible refine TK.out.mono ?_);rintro e w9 ⟨⟨_,_,rfl⟩,hq⟩;have D9:=Hd hq;clear hq))
 clear TK D8;have DC:=Hd (show Calls Tryz.prog 21 #[pv xo,iv 0] w9 λe w'=>∃ao2 cap2,e = .returned (.tuple #[.slice ao2 len cap2,.bool true])∧Duo w2.heap.size w5 xo xx R5 w' o2 (Z42 0 4) (.slice ao2 len cap2 :: [.slice ao len cap]) from by
  have:=Zp5 D9.out (Zq8.2.2);rw [<-HLEN.out] at this;exact this)
 unfold pv iv at DC;go_upto_region 11 with ((go_at_call 21;(with_reducible refine DC.out.mono ?_);rintro e w10 ⟨aoG,capG,rfl,hq⟩;have D10:=Hd hq;clear hq))
 clear DC D9;have BG:=Hd ((show Calls Tryz.prog 16 #[pv xx,iv 0,.slice ao len cap] w10 λe w'=>e = .returned (.int .i64 0)∧Duo w2.heap.size w5 xo xx R5 w' o2 q1 [.slice aoG len capG,.slice ao len cap] from (Zbd D10.out (by simp) 0).mono (λe w' q=>⟨by rw [q.1,Znn.1];rfl,q.2⟩)));unfold pv iv at BG;go_upto_region 12 with ((go_at_call 16;(with_reducible refine BG.out.mono ?_);rintro e w11 ⟨rfl,hq⟩;have D11:=Hd hq;clear hq))
 clear BG D10;have TK:=Hd (show Calls Tryz.prog 18 #[pv xx] w11 λe w'=>(∃ao cap,e = .returned (.slice ao 6 cap))∧Duo w2.heap.size w5 xo xx R5 w' o2 q2 [.slice aoG len capG,.slice ao len cap] from by
  have:=Z7e D11.out (by rw [Zkp.2.1];omega);rw [Znn.2.1] at this;exact this)
 unfold pv at TK;go_upto_region 13 with ((go_at_call 18;(with_reducible refine TK.out.mono ?_);rintro e w12 ⟨⟨_,_,rfl⟩,hq⟩;have D12:=Hd hq;clear hq))
 clear TK D11;have VT:=Hd (Z5q 4 1 d w12);have RV:=Hd (show ∀W,Below w12.heap.size w12 W->Calls Tryz.prog 20 #[pv xx,.agg (Z0l ⟨4,1,0,0,0,0,d,[]⟩ (.slice none 0 0))] W λe w'=>e = .returned (.tuple #[])∧Duo w2.heap.size w5 xo xx R5 w' o2 q3 [.slice aoG len capG,.slice ao len cap] from λW hW=>by
  rw [HD.out];exact Z5r (D12.out.later hW) (kind:=4) (frm:=1) (by decide) (by decide) (by decide))
 dsimp only [Z0l,pv,iv] at VT RV;go_upto_region 14 with (first
  | (go_at_call 60;(with_reducible refine VT.out.mono ?_);rintro e wv ⟨rfl,BV⟩)
  | (go_at_call 20;(with_reducible refine (RV.out _ BV).mono ?_);rintro e w13 ⟨rfl,hq⟩;have D13:=Hd hq;clear hq))
 clear VT RV D12;have VT:=Hd (Z5q 4 2 d w13);have RV:=Hd (show ∀W,Below w13.heap.size w13 W->Calls Tryz.prog 20 #[pv xx,.agg (Z0l ⟨4,2,0,0,0,0,d,[]⟩ (.slice none 0 0))] W λe w'=>e = .returned (.tuple #[])∧Duo w2.heap.size w5 xo xx R5 w' o2 q4 [.slice aoG len capG,.slice ao len cap] from λW hW=>by
  rw [HD.out];exact Z5r (D13.out.later hW) (kind:=4) (frm:=2) (by decide) (by decide) (by decide))
 dsimp only [Z0l,pv,iv] at VT RV;go_upto_region 15 with (first
  | (go_at_call 60;(with_reducible refine VT.out.mono ?_);rintro e wv ⟨rfl,BV⟩)
  | (go_at_call 20;(with_reducible refine (RV.out _ BV).mono ?_);rintro e w14 ⟨rfl,hq⟩;have D14:=Hd hq;clear hq))
 clear VT RV D13;have TK:=Hd (show Calls Tryz.prog 18 #[pv xx] w14 λe w'=>(∃ao cap,e = .returned (.slice ao 3 cap))∧Duo w2.heap.size w5 xo xx R5 w' o2 q5 [.slice aoG len capG,.slice ao len cap] from by
  have:=Z7e D14.out (by rw [Zkp.2.2.1];omega);rw [Znn.2.2.1] at this;exact this)
 unfold pv at TK;go_upto_region 16 with ((go_at_call 18;(with_reducible refine TK.out.mono ?_);rintro e w15 ⟨⟨_,_,rfl⟩,hq⟩;have D15:=Hd hq;clear hq))
 clear TK D14;have VT:=Hd (Z5q 6 1 d w15);have RV:=Hd (show ∀W,Below w15.heap.size w15 W->Calls Tryz.prog 20 #[pv xx,.agg (Z0l ⟨6,1,0,0,0,0,d,[]⟩ (.slice none 0 0))] W λe w'=>e = .returned (.tuple #[])∧Duo w2.heap.size w5 xo xx R5 w' o2 q6 [.slice aoG len capG,.slice ao len cap] from λW hW=>by
  rw [HD.out];exact Z5r (D15.out.later hW) (kind:=6) (frm:=1) (by decide) (by decide) (by decide))
 dsimp only [Z0l,pv,iv] at VT RV;go_upto_region 17 with (first
  | (go_at_call 60;(with_reducible refine VT.out.mono ?_);rintro e wv ⟨rfl,BV⟩)
  | (go_at_call 20;(with_reducible refine (RV.out _ BV).mono ?_);rintro e w16 ⟨rfl,hq⟩;have D16:=Hd hq;clear hq))
 clear VT RV D15;have VT:=Hd (Z5q 6 3 d w16);have RV:=Hd (show ∀W,Below w16.heap.size w16 W->Calls Tryz.prog 20 #[pv xx,.agg (Z0l ⟨6,3,0,0,0,0,d,[]⟩ (.slice none 0 0))] W λe w'=>e = .returned (.tuple #[])∧Duo w2.heap.size w5 xo xx R5 w' o2 q7 [.slice aoG len capG,.slice ao len cap] from λW hW=>by
  rw [HD.out];exact Z5r (D16.out.later hW) (kind:=6) (frm:=3) (by decide) (by decide) (by decide))
 dsimp only [Z0l,pv,iv] at VT RV;go_upto_region 18 with (first
  | (go_at_call 60;(with_reducible refine VT.out.mono ?_);rintro e wv ⟨rfl,BV⟩)
  | (go_at_call 20;(with_reducible refine (RV.out _ BV).mono ?_);rintro e w17 ⟨rfl,hq⟩;have D17:=Hd hq;clear hq))
 clear VT RV D16;have TK:=Hd (show Calls Tryz.prog 18 #[pv xx] w17 λe w'=>(∃ao cap,e = .returned (.slice ao 3 cap))∧Duo w2.heap.size w5 xo xx R5 w' o2 q8 [.slice aoG len capG,.slice ao len cap] from by
  have:=Z7e D17.out (by rw [Zkp.2.2.2.1];omega);rw [Znn.2.2.2] at this;exact this)
 unfold pv at TK;go_upto_region 19 with ((go_at_call 18;(with_reducible refine TK.out.mono ?_);rintro e w18 ⟨⟨_,_,rfl⟩,hq⟩;have D18:=Hd hq;clear hq))
 clear TK D17;have LK:=Hd (show Calls Tryz.prog 31 #[pv xx] w18 λe w'=>∃ao2 cap2,e = .returned (.tuple #[.int .i64 0,.slice ao2 len cap2])∧Duo w2.heap.size w5 xo xx R5 w' o2 q8 (.slice ao2 len cap2 :: [.slice aoG len capG,.slice ao len cap]) from by
  have:=Zp6 D18.out Zq9.1;rw [<-HLEN.out] at this;exact this)
 unfold pv at LK;go_upto_region 20 with ((go_at_call 31;(with_reducible refine LK.out.mono ?_);rintro e w19 ⟨aoK,capK,rfl,hq⟩;have D19:=Hd hq;clear hq))
 clear LK D18;have VT:=Hd (Z5q 5 2 d w19);have RV:=Hd (show ∀W,Below w19.heap.size w19 W->Calls Tryz.prog 20 #[pv xx,.agg (Z0l ⟨5,2,0,0,0,0,d,[]⟩ (.slice none 0 0))] W λe w'=>e = .returned (.tuple #[])∧Duo w2.heap.size w5 xo xx R5 w' o2 q9 [.slice aoK len capK,.slice aoG len capG,.slice ao len cap] from λW hW=>by
  rw [HD.out];exact Z5r (D19.out.later hW) (kind:=5) (frm:=2) (by decide) (by decide) (by decide))
 dsimp only [Z0l,pv,iv] at VT RV;go_upto_region 21 with (first
  | (go_at_call 60;(with_reducible refine VT.out.mono ?_);rintro e wv ⟨rfl,BV⟩)
  | (go_at_call 20;(with_reducible refine (RV.out _ BV).mono ?_);rintro e w20 ⟨rfl,hq⟩;have D20:=Hd hq;clear hq))
 clear VT RV D19;have DC:=Hd (Zmi D20.out Zq9.2.1);unfold pv iv at DC;go_upto_region 22 with ((go_at_call 21;(with_reducible refine DC.out.mono ?_);rintro e w21 ⟨rfl,hq⟩;have D21:=Hd hq;clear hq))
 clear DC D20;have VT:=Hd (Z5q 5 3 d w21);have RV:=Hd (show ∀W,Below w21.heap.size w21 W->Calls Tryz.prog 20 #[pv xx,.agg (Z0l ⟨5,3,0,0,0,0,d,[]⟩ (.slice none 0 0))] W λe w'=>e = .returned (.tuple #[])∧Duo w2.heap.size w5 xo xx R5 w' o2 q10 [.slice aoK len capK,.slice aoG len capG,.slice ao len cap] from λW hW=>by
  rw [HD.out];exact Z5r (D21.out.later hW) (kind:=5) (frm:=3) (by decide) (by decide) (by decide))
 dsimp only [Z0l,pv,iv] at VT RV;go_upto_region 23 with (first
  | (go_at_call 60;(with_reducible refine VT.out.mono ?_);rintro e wv ⟨rfl,BV⟩)
  | (go_at_call 20;(with_reducible refine (RV.out _ BV).mono ?_);rintro e w22 ⟨rfl,hq⟩;have D22:=Hd hq;clear hq))
 clear VT RV D21;have TK:=Hd (show Calls Tryz.prog 18 #[pv xx] w22 λe w'=>(∃ao n cap,e = .returned (.slice ao n cap))∧Duo w2.heap.size w5 xo xx R5 w' o2 q11 [.slice aoK len capK,.slice aoG len capG,.slice ao len cap] from by
  refine (Z7e D22.out (by rw [Zkp.2.2.2.2];omega)).mono ?_;rintro e w' ⟨⟨a,c,h⟩,q⟩;exact ⟨⟨a,_,c,h⟩,q⟩)
 unfold pv at TK;go_upto_region 24 with ((go_at_call 18;(with_reducible refine TK.out.mono ?_);rintro e w23 ⟨⟨_,_,_,rfl⟩,hq⟩;have D23:=Hd hq;clear hq))
 clear TK D22;have DC:=Hd (show Calls Tryz.prog 21 #[pv xx,iv 0] w23 λe w'=>∃ao2 cap2,e = .returned (.tuple #[.slice ao2 len cap2,.bool true])∧Duo w2.heap.size w5 xo xx R5 w' o2 q11 (.slice ao2 len cap2 :: [.slice aoK len capK,.slice aoG len capG,.slice ao len cap]) from by
  have:=Zp4 D23.out (Zq9.2.2);rw [<-HLEN.out] at this;exact this)
 unfold pv iv at DC;go_upto_region 25 with ((go_at_call 21;(with_reducible refine DC.out.mono ?_);rintro e w24 ⟨aoM,capM,rfl,hq⟩;have D24:=Hd hq;clear hq))
 clear DC D23;have SM1:=Hd (Zcr D24.out (u:=.slice aoG len capG) (v:=.slice ao len cap) (by simp) (by simp));have SM2:=Hd (λW (h:Duo w2.heap.size w5 xo xx R5 W o2 q11 [.slice aoM len capM,.slice aoK len capK,.slice aoG len capG,.slice ao len cap])=>Zcr h (u:=.slice aoK len capK) (v:=.slice ao len cap) (by simp) (by simp));have SM3:=Hd (λW (h:Duo w2.heap.size w5 xo xx R5 W o2 q11 [.slice aoM len capM,.slice aoK len capK,.slice aoG len capG,.slice ao len cap])=>Zcr h (u:=.slice aoM len capM) (v:=.slice ao len cap) (by simp) (by simp));have BG1:=Hd (show ∀W,Duo w2.heap.size w5 xo xx R5 W o2 q11 [.slice aoM len capM,.slice aoK len capK,.slice aoG len capG,.slice ao len cap]->Calls Tryz.prog 16 #[pv xx,iv 0,.slice ao len cap] W λe w'=>e = .returned (.int .i64 260)∧Duo w2.heap.size w5 xo xx R5 w' o2 q12 [.slice aoM len capM,.slice aoK len capK,.slice aoG len capG,.slice ao len cap] from λW h=>(Zbd h (by simp) 0).mono (λe w' q=>⟨by rw [q.1,Zqa.1];rfl,q.2⟩));have BG2:=Hd (show ∀W,Duo w2.heap.size w5 xo xx R5 W o2 q12 [.slice aoM len capM,.slice aoK len capK,.slice aoG len capG,.slice ao len cap]->Calls Tryz.prog 16 #[pv xx,iv 1,.slice none 0 0] W λe w'=>e = .returned (.int .i64 0)∧Duo w2.heap.size w5 xo xx R5 w' o2 q13 [.slice aoM len capM,.slice aoK len capK,.slice aoG len capG,.slice ao len cap] from λW h=>(Zjq h 1).mono (λe w' q=>⟨by rw [q.1,Zqa.2.1];rfl,q.2⟩));have HT:=Hd (show ∀W,Duo w2.heap.size w5 xo xx R5 W o2 q13 [.slice aoM len capM,.slice aoK len capK,.slice aoG len capG,.slice ao len cap]->Calls Tryz.prog 24 #[pv xx] W λe w'=>e = .returned (.int .i64 1)∧w'=W from λW h=>(Zjr h).mono (λe w' q=>⟨by rw [q.1,Zqa.2.2],q.2⟩));dsimp only [pv,iv] at BG1 BG2 HT;go_wp2_with (first
  | (go_at_call 22;(with_reducible refine SM1.out.mono ?_);rintro e wA ⟨rfl,DA⟩)
  | (go_at_call 22;(with_reducible refine (SM2.out _ DA).mono ?_);rintro e wB ⟨rfl,DB⟩)
  | (go_at_call 22;(with_reducible refine (SM3.out _ DB).mono ?_);rintro e wC ⟨rfl,DC⟩)
  | (go_at_call 16;(with_reducible refine (BG1.out _ DC).mono ?_);rintro e wD ⟨rfl,DD⟩)
  | (go_at_call 16;(with_reducible refine (BG2.out _ DD).mono ?_);rintro e wE ⟨rfl,DE⟩)
  | (go_at_call 24;(with_reducible refine (HT.out _ DE).mono ?_);rintro e wF ⟨rfl,hwF⟩;rw [hwF];clear hwF wF))
 go_ret;have hle:=HBW2.out;exact ⟨rfl,hle.trans ((HB5.out.trans DE.below).mono hle.size)⟩
end
section
open Go.RowKit
theorem Net.kept {G:ByteArray->List ByteArray->Prop} {base:Nat} {w w':World} {xs:List Nat} {ss:List StB} {Rs:Nat->Nat->Prop} (h:Net G base w xs ss Rs) (hk:∀k,Z7b xs.length Rs k->w'.heap[k]?=w.heap[k]?) (hz:w.heap.size<=w'.heap.size):Net G base w' xs ss Rs:=
 ⟨h.len,λi x s hx hs=>by
  obtain ⟨p,hp⟩:=h.node i x s hx hs;exact ⟨p,hp.later (λk hr=>hk k ⟨i,(List.getElem?_eq_some_iff.1 hx).1,hr⟩) hz⟩,h.fit,h.dis,h.lo⟩
structure Fl (G:ByteArray->List ByteArray->Prop) (base:Nat) (w1:World) (gn:Nat) (cur:Array Value) (xs:List Nat) (ss:List StB) (Rs:Nat->Nat->Prop) (W:World):Prop where
 net:Net G base W xs ss Rs
 bel:Below base w1 W
 pos:0<base
 le:base<=w1.heap.size
 glob:Glob w1
 asd:Asd xs.length Rs W gn
 row:W.heap[gn]?=some (.cells cur 25 (0,0))
 ptr:∀(i x:Nat),xs[i]?=some x->cur[i]?=some (pv x)
section
variable {G:ByteArray->List ByteArray->Prop} {base:Nat} {w1 W W':World} {gn:Nat} {cur:Array Value} {xs:List Nat} {ss ss':List StB} {Rs Rs':Nat->Nat->Prop}
end
end
section
open Go.RowKit
section
variable {R R0:Nat->Prop} {w:World} {x:Nat} {p:Ptr} {s:StB}
theorem Z9t {h:Int} {ok:Bool} {d:ByteArray} {l:List ByteArray} (c:ok=false∨h<0∨1200<=h):s.learn h ok d l=(s,false):=by unfold NS.learn;rw [if_pos c]
theorem Zmj {h:Int} {d:ByteArray} {l:List ByteArray} (h0:¬h<0) (h1:¬ 1200<=h) (hg:Z02 h s.decs=none):s.learn h true d l=({s with decs:=Z18 h ⟨-1,d,l⟩ s.decs},true):=by
 unfold NS.learn;rw [if_neg (by simp [h0,h1]),hg]
theorem Zmk {h:Int} {d:ByteArray} {l:List ByteArray} {v:Z4x} (hg:Z02 h s.decs=some v) (hd:v.dig≠d) (ok:Bool):s.learn h ok d l=(s,false):=by
 unfold NS.learn;split
 ·rfl
 rw [hg];simp only;rw [if_pos hd]
theorem Zml {h:Int} {d:ByteArray} {l:List ByteArray} {v:Z4x} (h0:¬h<0) (h1:¬ 1200<=h) (hg:Z02 h s.decs=some v) (hd:v.dig=d):s.learn h true d l=({s with decs:=Z18 h ⟨-1,d,l⟩ s.decs},true):=by
 unfold NS.learn;rw [if_neg (by simp [h0,h1]),hg];simp only;rw [if_neg (by rw [hd];simp)]
theorem Zmm {v:Value} {l:List ByteArray} (h:Z00 R w x p s) (hv:Z0a R0 w v l) (h0:∀k,R0 k->k<w.heap.size) (hl:l.length<=60) (hG:Glob w) (height:Int) :
  Calls Tryz.prog 36 #[pv x,iv height,v] w λe w'=>e = .returned (Zlm (s.learn height (Z1f l) (Z0z l) l).2)∧Z06 R w x (s.learn height (Z1f l) (Z0z l) l).1 w':=by
 have H:=Hd h;have NV:=Hd (Z56 hv h0 hl hG (-1));clear h hv hG;obtain ⟨dv,hdv⟩:∃dv,dv=Z0z l:=⟨_,rfl⟩;obtain ⟨av,hav⟩:∃av,av=Z1f l:=⟨_,rfl⟩;rw [<-hdv,<-hav] at NV ⊢;clear hdv hav;unfold pv iv at *;go_enter Tryz.func36,Tryz.ntmps36
 go_upto_region 4 with (go_at_call 62;refine NV.out.mono ?_;rintro e w1 ⟨u,rfl,hrow,hb⟩;obtain ⟨ao,cap,rfl,hcap,hrw⟩:=hrow;have HLV:=Hd (show Z0a (New w w1) w1 (.slice ao l.length cap) l from ⟨ao,cap,rfl,hcap,hrw⟩);have HB1:=Hd hb;clear hb hcap hrw)
 obtain ⟨w3,hw3⟩:∃w3,w3=w1.alloc (.cells #[.int .i64 (-1),.string dv,.slice ao l.length cap] 120):=⟨_,rfl⟩;have HB3:=Hd (show Below w.heap.size w w3 from by rw [hw3];exact HB1.out.alloc HB1.out.size _);have HB13:=Hd (show Below w1.heap.size w1 w3 from by rw [hw3];exact (Below.refl _ _).alloc (Nat.le_refl _) _);have HVR:=Hd (show w3.heap[w1.heap.size]?=some (.cells #[.int .i64 (-1),.string dv,.slice ao l.length cap] 120 (0,0)) from by rw [hw3];exact World.alloc_heap_new w1 _);have HS3:=Hd (show w3.heap.size=w1.heap.size+1 from by rw [hw3];simp);rw [<-hw3];clear hw3;obtain ⟨vb,hvb⟩:∃vb,vb=w1.heap.size:=⟨_,rfl⟩;have HVB:=Hd hvb;rw [<-hvb] at HVR ⊢;clear hvb;have HL3:=Hd (show Z0a (New w w3) w3 (.slice ao l.length cap) l from (HLV.out.kept (λg cur fr hr _=>HB13.out.block g hr.2)).mono (λk hk=>⟨hk.1,by have:=hk.2;have:=HS3.out;omega⟩));have HN3:=Hd (H.out.below HB3.out);have HNM:=Hd (show Z00 (λk=>R k∨New w w3 k) w3 x p s from HN3.out.mono (λk hk=>.inl hk) (λk hk=>by
  rcases hk with hk | hk
  ·exact HN3.out.lt k hk
  exact hk.2))
 have HVN:=Hd (show New w w3 vb from ⟨by rw [HVB.out];exact HB1.out.size,by rw [HVB.out,HS3.out];omega⟩);have c18:=HN3.out.nc.c18;have HGN:=Hd (show Z2b R (λk=>R k∨New w w3 k) w from ⟨λk hk=>.inl hk,λk hk=>by
  rcases hk with hk | hk
  ·exact .inl hk
  exact .inr hk.1⟩)
 have HCH:=Hd (show ∀W,Below w3.heap.size w3 W->Z06 R w x s W from λW hW=>Z06.of (H.out.below (HB3.out.trans (hW.mono HB3.out.size))) (Chg.of_below (HB3.out.trans (hW.mono HB3.out.size)) (λk q1 q2=>by omega)));have hlook:=HN3.out.maps.look_decs height true;simp only [if_true] at hlook;obtain ⟨a0,a1,sa,sn,sc,kn,hlk,HKN⟩:∃(a0:Int) (a1:ByteArray) (sa:Option Addr) (sn sc:Nat) (kn:Bool),(Instr.lookup 105 (.map (some p.decs)) (.int .i64 height) true).run Tryz.prog w3 = .ok (.tuple #[.agg #[.int .i64 a0,.string a1,.slice sa sn sc],.bool kn]) w3∧((kn=false∧Z02 height s.decs=none)∨(kn=true∧∃u,Z02 height s.decs=some u∧u.dig=a1)):=by
  rcases hlook with ⟨q,hq⟩ | ⟨u,v2,q,⟨sl,rfl,ao2,cap2,rfl,_⟩,hq⟩
  ·exact ⟨0,_,none,0,0,false,hq,.inl ⟨rfl,q⟩⟩
  exact ⟨u.round,u.dig,ao2,_,cap2,true,hq,.inr ⟨rfl,u,q,rfl⟩⟩
 have HK:=Hd HKN;clear hlook HKN;go_upto_region 5 with (fail)
 obtain ⟨w4,hw4⟩:∃w4,w4=w3.alloc (.cells #[.int .i64 a0,.string a1,.slice sa sn sc] 120):=⟨_,rfl⟩;have HB4:=Hd (show Below w3.heap.size w3 w4 from by rw [hw4];exact (Below.refl _ _).alloc (Nat.le_refl _) _);have o1:=cell_of_row w4 w3.heap.size 1 _ _ _ (show w4.heap[w3.heap.size]?=some (.cells #[.int .i64 a0,.string a1,.slice sa sn sc] 120 (0,0)) from by rw [hw4];exact World.alloc_heap_new w3 _);simp at o1;have HV4:=Hd ((HB4.out.block vb HVN.out.2).trans HVR.out);have v0:=cell_of_row w4 vb 0 _ _ _ HV4.out;have v1:=cell_of_row w4 vb 1 _ _ _ HV4.out;have v2:=cell_of_row w4 vb 2 _ _ _ HV4.out;simp at v0 v1 v2;rw [<-hw4];obtain ⟨ob,hob⟩:∃ob,ob=w3.heap.size:=⟨_,rfl⟩;rw [<-hob] at o1 ⊢;clear hob hw4 c18 hlk;have HN4:=Hd (HNM.out.below HB4.out);have HL4:=Hd (show Z0a (λk=>R k∨New w w3 k) w4 (.slice ao l.length cap) l from (HL3.out.mono (λk hk=>.inr hk)).below HNM.out.lt HB4.out);have HT4:=Hd (HCH.out w4 HB4.out);rcases av with _ | _
 ·have HE:=Hd (Z9t (s:=s) (h:=height) (ok:=false) (d:=dv) (l:=l) (.inl rfl));go_wp2
  go_ret;rw [HE.out];exact ⟨rfl,HT4.out⟩
 by_cases hneg:height<0
 ·have HE:=Hd (Z9t (s:=s) (h:=height) (ok:=true) (d:=dv) (l:=l) (.inr (.inl hneg)));go_wp2
  go_ret;rw [HE.out];exact ⟨rfl,HT4.out⟩
 by_cases hbig:1200<=height
 ·have HE:=Hd (Z9t (s:=s) (h:=height) (ok:=true) (d:=dv) (l:=l) (.inr (.inr hbig)));go_wp2
  go_ret;rw [HE.out];exact ⟨rfl,HT4.out⟩
 by_cases hodd:kn=true∧a1≠dv
 ·obtain ⟨rfl,hne⟩:=hodd;have HE:=Hd (show s.learn height true dv l=(s,false) from by
   rcases HK.out with ⟨q,_⟩ | ⟨_,u,q,e⟩
   ·cases q
   exact Zmk q (by rw [e];exact hne) true)
  have hb1:(a1.toList == dv.toList)=false:=Zdx hne;clear hne;go_wp2
  go_ret;rw [HE.out];exact ⟨rfl,HT4.out⟩
 have HE:=Hd (show s.learn height true dv l=({s with decs:=Z18 height ⟨-1,dv,l⟩ s.decs},true) from by
  rcases HK.out with ⟨_,q⟩ | ⟨e1,u,q,e⟩
  ·exact Zmj hneg hbig q
  exact Zml hneg hbig q (by rw [e];exact Classical.byContradiction λc=>hodd ⟨e1,c⟩))
 have HOD:=Hd hodd;clear hodd;go_cut [46] (λt wc=>t = .bool false∧wc=w4)
 case first=>
  rcases kn with _ | _
  ·go_upto_region 6 with (fail)
   go_meet;exact ⟨rfl,rfl⟩
  have he:a1=dv:=Classical.byContradiction λc=>HOD.out ⟨rfl,c⟩;subst he;go_upto_region 6 with (fail)
  go_meet;exact ⟨rfl,rfl⟩
 case rest=>
  obtain ⟨rfl,hw⟩:=hcut;rw [hw];clear hw;obtain ⟨ob2,hup,hnf⟩:=HN4.out.drew.lay_decs height ⟨-1,dv,l⟩ (sl:=.slice ao l.length cap) (HL4.out.below HN4.out.lt ((Below.refl _ w4).drew));have HNF:=Hd hnf;unfold iv at hup;simp only at hup;clear hnf;have c18:=HN4.out.nc.c18;have hfz:=HN4.out.nc.fz;go_upto_region 7 with (fail)
  go_region
  all_goals (
   go_wp2
   go_ret;rw [HE.out];refine ⟨rfl,p,_,HNF.out,(Chg.of_below (HB3.out.trans (HB4.out.mono HB3.out.size)).drew (λk q1 q2=>by omega)).trans ((Chg.put _ p.decs ob2 ?_)),HGN.out⟩;exact .inl (H.out.maps.own _ (by simp [Ptr.maps])))
end
end
section
open Go.RowKit
theorem Zgp (n:Int) (w:World) (h1:1<=n) (h7:n<=7):Calls Tryz.prog 33 #[.int .i64 n] w λe w'=>e = .returned (.int .i64 (Z03 n))∧w'=w:=by
 have q1:decide (n<1)=false:=by simpa using h1
 have q2:decide (7<n)=false:=by simpa using h7
 have q3:(n - 1).tdiv 3=Z03 n:=by unfold Z03;rw [Int.tdiv_eq_ediv_of_nonneg (by omega)]
 have hf:0<=Z03 n∧Z03 n<=2:=by unfold Z03;omega
 go_enter Tryz.func33,Tryz.ntmps33
 go_wp2
 go_ret;exact ⟨rfl,rfl⟩
end
structure Zrr (D:Type) where
 frm:Int
 kind:Int
 height:Int
 round:Int
 dig:D
section
variable {D L:Type} [Dg D] [Inhabited L]
def Z4t (m:Msg D L):Zrr D:=⟨m.frm,m.kind,m.height,m.round,m.dig⟩
def Z4d (over:Bool) (m:Msg D L):Bool->List (Zrr D)->Bool×Bool
 | b,[]=>(b,true)
 | b,c :: l=>
  if c.kind≠m.kind∨c.height≠m.height∨c.round≠m.round then Z4d over m b l
  else
   let b2:=b || (decide (c.dig≠m.dig) && (decide (c.frm=m.frm) || (decide (m.kind=6) && !over)))
   if c.frm=m.frm then (b2,false) else Z4d over m b2 l
def Z5z (over:Bool) (b:Bool) (cs:List (Zrr D)) (m:Msg D L):Bool×List (Zrr D):=
 if m.kind=3 then (b,cs) else
  let r:=Z4d over m b cs
  (r.1,if r.2=true then cs ++ [Z4t m] else cs)
structure OnceI (sz:D->Prop) (G:D->L->Prop) (me n:Int) (s:NS D L) (cs:List (Zrr D)):Prop where
 inv:Z0x sz s
 g:GI sz G s
 q:QI s
 id:s.id=me
 nn:s.n=n
 height:s.height=0
 ques:s.isDec 0=false->s.ques = []
 casts:∀c∈cs,∃m∈s.mine,c.kind=m.kind∧c.round=m.round∧c.dig=m.dig
theorem Z3r (s:NS D L) (m:Msg D L) (ok:Bool):(s.receive m ok).height=s.height∧(s.receive m ok).id=s.id∧(s.receive m ok).n=s.n∧(s.receive m ok).decs=s.decs∧(s.receive m ok).mine=s.mine∧(s.receive m ok).round=s.round∧(s.receive m ok).lock=s.lock∧(s.isDec m.height=false->(s.receive m ok).ques=s.ques):=by
 unfold NS.receive;split
 ·exact ⟨rfl,rfl,rfl,rfl,rfl,rfl,rfl,λ_=>rfl⟩
 split
 ·exact ⟨rfl,rfl,rfl,rfl,rfl,rfl,rfl,λ_=>rfl⟩
 split
 ·rename_i hd
  obtain ⟨a,b,e⟩:=Z5b s m;rw [e];exact ⟨rfl,rfl,rfl,rfl,rfl,rfl,rfl,λh=>by rw [h] at hd;cases hd⟩
 split
 ·exact ⟨rfl,rfl,rfl,rfl,rfl,rfl,rfl,λ_=>rfl⟩
 split
 ·obtain ⟨hb,e1,e2,e3,e4,e5,e6⟩:=Z1g s m;exact ⟨hb.height,hb.id,hb.n,hb.decs,e4,e1,hb.lock,λ_=>hb.ques⟩
 split
 ·exact ⟨rfl,rfl,rfl,rfl,rfl,rfl,rfl,λ_=>rfl⟩
 split <;> exact ⟨rfl,rfl,rfl,rfl,rfl,rfl,rfl,λ_=>rfl⟩
end
end Go.Proofs.YtifcdjmcoibblaaGreatDoor
