/- Wai Rul AskA -/
import Derived.Test.YtifcdjmcoibblaaGreatDoorFq11
import Derived.Test.YtifcdjmcoibblaaGreatDoorFq01
import Derived.Test.YtifcdjmcoibblaaGreatDoorFq18
set_option linter.unusedVariables false
set_option linter.unusedSimpArgs false
set_option linter.unusedSectionVars false
set_option maxRecDepth 100000
set_option maxHeartbeats 80000000
namespace Go.Proofs.YtifcdjmcoibblaaGreatDoor
section
open Go.RowKit
section
variable {R:Nat→Prop} {w:World} {x:Nat} {p:Ptr} {s:StB}
theorem isWaiting_any (h:NodeP R w x p s) (h1:1≤s.n) (h7:s.n≤7) (hst:s.stand.length≤1000):Calls Tryz.prog 65 #[pv x] w fun e w'=>e = .returned (.bool s.waiting)∧Below w.heap.size w w':=by
 have Q:=Hd (fun W=>quorum_any s.n W h1 h7);have RE:=Hd (reached_any h hst s.round);have PA:=Hd (passed_any h hst s.round);have H:=Hd h;have c1:=h.nc.c1;have c2:=h.nc.c2;have c17:=h.nc.c17;have hfz:=h.nc.fz;have HW:=Hd (show s.waiting=((decide (s.step=2) && decide (s.reached s.round<quorumN s.n)) || (decide (s.step=4) && decide (s.passed s.round<quorumN s.n))) from rfl);obtain ⟨q,hq⟩:∃q,q=quorumN s.n:=⟨_,rfl⟩;obtain ⟨r,hr⟩:∃q,q=s.reached s.round:=⟨_,rfl⟩;obtain ⟨pa,hp⟩:∃q,q=s.passed s.round:=⟨_,rfl⟩;obtain ⟨st,hs⟩:∃q,q=s.step:=⟨_,rfl⟩;obtain ⟨nn,hn⟩:∃q,q=s.n:=⟨_,rfl⟩;obtain ⟨ro,hro⟩:∃q,q=s.round:=⟨_,rfl⟩;rw [←hq,←hr,←hp,←hs] at HW;rw [←hq,←hn] at Q;rw [←hr,←hro] at RE;rw [←hp,←hro] at PA;rw [←hs] at c2;rw [←hn] at c17;rw [←hro] at c1;have HST:=Hd hs;clear hq hr hp hs hn hro h;unfold pv iv at *;by_cases h2:st=2
 ·subst h2;have e24:((2:Int) == 4)=false:=by decide
  by_cases hl:r<q
  ·have HE:=Hd (show s.waiting=true from by rw [HW.out];simp [hl]);go_enter Tryz.func65,Tryz.ntmps65
   go_wp2_with (first
    | (go_at_call 113;refine (Q.out _).mono ?_;rintro _ _ ⟨rfl,rfl⟩)
    | (go_at_call 114;refine (RE.out).mono ?_;rintro _ w1 ⟨rfl,hb⟩;have HB:=Hd hb;clear hb))
   go_ret;rw [HE.out];exact ⟨rfl,HB.out⟩
  have HE:=Hd (show s.waiting=decide (r<q) from by rw [HW.out];simp [hl]);go_enter Tryz.func65,Tryz.ntmps65
  go_wp2_with (first
   | (go_at_call 113;refine (Q.out _).mono ?_;rintro _ _ ⟨rfl,rfl⟩)
   | (go_at_call 114;refine (RE.out).mono ?_;rintro _ w1 ⟨rfl,hb⟩;have HB:=Hd hb;have d2:=(H.out.below hb).nc.c2;rw [←HST.out] at d2;have dfz:=(H.out.below hb).nc.fz;clear hb))
  go_ret;rw [HE.out];exact ⟨rfl,HB.out⟩
 have e2:(st == 2)=false:=by simpa using h2
 by_cases h4:st=4
 ·subst h4;have HE:=Hd (show s.waiting=decide (pa<q) from by rw [HW.out];simp);go_enter Tryz.func65,Tryz.ntmps65
  go_wp2_with (first
   | (go_at_call 113;refine (Q.out _).mono ?_;rintro _ _ ⟨rfl,rfl⟩)
   | (go_at_call 115;refine (PA.out).mono ?_;rintro _ w1 ⟨rfl,hb⟩;have HB:=Hd hb;clear hb))
  go_ret;rw [HE.out];exact ⟨rfl,HB.out⟩
 have HE:=Hd (show s.waiting=false from by rw [HW.out];simp [h2,h4]);have e4:(st == 4)=false:=by simpa using h4
 go_enter Tryz.func65,Tryz.ntmps65
 go_wp2_with (first
  | (go_at_call 113;refine (Q.out _).mono ?_;rintro _ _ ⟨rfl,rfl⟩))
 go_ret;rw [HE.out];exact ⟨rfl,Below.refl _ _⟩
end
end
section
open Go.RowKit
def szB (d:ByteArray):Prop:=d.toList.isEmpty=true∨d.size=32
theorem szB_nil:szB (ByteArray.mk #[]):=.inl (by simp)
structure GLaw (G:ByteArray→List ByteArray→Prop):Prop where
 one:∀d l l',G d l→G d l'→l=l'
 len:∀d l,G d l→l.length≤60
structure Ok (G:ByteArray→List ByteArray→Prop) (s:StB):Prop where
 inv:InvS szB s
 gi:GI szB G s
theorem Ok.rule {G:ByteArray→List ByteArray→Prop} {s s':StB} (h:Ok G s) (hx:Shy G s.id→s.proposer s.id s.height s.round=false) {k:Nat} (he:s.rule k=some s'):Ok G s':=⟨(rule_inv h.inv he).1,rule_G h.inv h.gi hx he⟩
theorem Ok.coh {G:ByteArray→List ByteArray→Prop} {s:StB} (h:Ok G s) (g:GLaw G):CohS s:=h.gi.coh g.one
theorem Ok.mine {G:ByteArray→List ByteArray→Prop} {s:StB} (h:Ok G s):s.mine.length≤1000:=Nat.le_trans h.inv.mine_len (by omega)
theorem Ok.stand {G:ByteArray→List ByteArray→Prop} {s:StB} (h:Ok G s):s.stand.length≤1000:=Nat.le_trans h.inv.stand_len (by omega)
def RuleE (R:Nat→Prop) (w:World) (x:Nat) (o:Option StB) (e:Ending) (w':World):Prop:=
 match o with
 | none=>e = .returned (.bool false)∧Below w.heap.size w w'
 | some s'=>e = .returned (.bool true)∧Turned R w x s' w'
theorem Turned.after {R:Nat→Prop} {w w1 w2:World} {x:Nat} {s':StB} (hb:Below w.heap.size w w1) (h:Turned R w1 x s' w2):Turned R w x s' w2:=by
 obtain ⟨p',R',h1,h2,h3⟩:=h;have hs:=hb.size;exact ⟨p',R',h1,(Chg.of_below hb (fun k q1 q2=>by omega)).trans (h2.mono (fun k _ hk=>.inl hk)),⟨h3.1,fun k hk=>by
  rcases h3.2 k hk with q | q
  ·exact .inl q
  exact .inr (Nat.le_trans hs q)⟩⟩
theorem Turned.then {R:Nat→Prop} {w w1 w2:World} {x:Nat} {s':StB} (h:Turned R w x s' w1) (hb:Below w1.heap.size w1 w2):Turned R w x s' w2:=by
 obtain ⟨p',R',h1,h2,h3⟩:=h;exact ⟨p',R',h1.below hb,h2.trans (Chg.of_below hb (fun k q1 q2=>by omega)),h3⟩
theorem Turned.node {R:Nat→Prop} {w w1:World} {x:Nat} {s':StB} (h:Turned R w x s' w1):∃p' R',NodeP R' w1 x p' s'∧(∀w2 s2,Turned R' w1 x s2 w2→Turned R w x s2 w2):=by
 obtain ⟨p',R',h1,h2,h3⟩:=h;exact ⟨p',R',h1,fun w2 s2 h=>Turned.trans h2 h3 h⟩
end
section
open Go.RowKit
theorem NodeP.lay_ques {R:Nat→Prop} {w:World} {x:Nat} {p:Ptr} {s:StB} (h:NodeP R w x p s) (k a b:Int) :
  ∃o,(Instr.mapUpdate 106 (.map (some p.ques)) (.int .i64 k) (.agg #[.int .i64 a,.int .i64 b])).run Tryz.prog w = .ok () (w.putObj p.ques o)∧NodeP R (w.putObj p.ques o) x p {s with ques:=putA k (a,b) s.ques}:=by
 obtain ⟨o,h1,h2⟩:=h.maps.ques.update (P:=Tryz.prog) keyI Tryz.underlying106 (good_st w _) (x:=iv k) ⟨k,rfl⟩ (plv (a,b));refine ⟨o,h1,?_⟩;have h3:=h2 _ (World.putObj_heap_same (o:=o) h.maps.ques.lt);rw [putV_enc (ek:=iv) (ev:=fun _=>plv) encSt_eq iv_inj] at h3;exact h.put_ques (fun k _ hk=>World.putObj_heap_other hk) (by simp [World.putObj]) h3
theorem NodeP.lay_del {R:Nat→Prop} {w:World} {x:Nat} {p:Ptr} {s:StB} (h:NodeP R w x p s) (k:Int) (t:TypeId) :
  ∃o,(Builtin.delete_ #[106,3] t #[.map (some p.ques),.int .i64 k]).run Tryz.prog w = .ok (.tuple #[]) (w.putObj p.ques o)∧NodeP R (w.putObj p.ques o) x p {s with ques:=delA k s.ques}:=by
 obtain ⟨o,h1,h2⟩:=h.maps.ques.delete (P:=Tryz.prog) keyI Tryz.underlying106 (good_st w _) (x:=iv k) ⟨k,rfl⟩ t #[106,3] rfl;refine ⟨o,h1,?_⟩;have h3:=h2 _ (World.putObj_heap_same (o:=o) h.maps.ques.lt);rw [delV_enc (ek:=iv) (ev:=fun _=>plv) encSt_eq iv_inj] at h3;exact h.put_ques (fun k _ hk=>World.putObj_heap_other hk) (by simp [World.putObj]) h3
theorem NodeP.lay_inf {R:Nat→Prop} {w:World} {x:Nat} {p:Ptr} {s:StB} (h:NodeP R w x p s) (a b:Int) :
  ∃o,(Instr.mapUpdate 107 (.map (some p.inf)) (.agg #[.int .i64 a,.int .i64 b]) (.bool true)).run Tryz.prog w = .ok () (w.putObj p.inf o)∧NodeP R (w.putObj p.inf o) x p {s with inf:=insA (a,b) s.inf}:=by
 obtain ⟨o,h1,h2⟩:=h.maps.inf.update (P:=Tryz.prog) keyQuest Tryz.underlying107 (good_pl w _) (x:=plv (a,b)) ⟨a,b,rfl⟩ (.bool true);refine ⟨o,h1,?_⟩;have h3:=h2 _ (World.putObj_heap_same (o:=o) h.maps.inf.lt);rw [putV_set (ek:=plv) encPl_eq plv_inj] at h3;exact h.put_inf (fun k _ hk=>World.putObj_heap_other hk) (by simp [World.putObj]) h3
section
variable {R:Nat→Prop} {w:World} {x:Nat} {p:Ptr} {s:StB}
theorem decs_look (h:NodeP R w x p s) (k:Int):∃a sl,∀W,Below w.heap.size w W→(Instr.lookup 105 (.map (some p.decs)) (.int .i64 k) false).run Tryz.prog W = .ok (.agg #[.int .i64 a,.string (s.decDig k),sl]) W:=by
 obtain ⟨L,h1,h2⟩:=h.maps.decs;have q:∀W,Below w.heap.size w W→_:=fun W hW=>(h1.kept (hW.block _ h1.lt)).lookup (P:=Tryz.prog) keyI Tryz.underlying105 (good_rel W h2) (x:=iv k) ⟨k,rfl⟩ (zVal W) false;rcases getV_rel k h2 with ⟨e1,e2⟩ | ⟨v,y,e1,e2,e3⟩
 ·refine ⟨0,.slice none 0 0,fun W hW=>?_⟩;have:=q W hW;rw [e1] at this;have e:s.decDig k=ByteArray.mk #[]:=by unfold NS.decDig;rw [e2];rfl
  rw [e];exact this
 obtain ⟨sl,rfl,_⟩:=e3;refine ⟨y.round,sl,fun W hW=>?_⟩;have:=q W hW;rw [e1] at this;have e:s.decDig k=y.dig:=by unfold NS.decDig;rw [e2]
 rw [e];exact this
def tellB (s:StB) (m:MsgB):Bool:=(m.kind == 3) && !(s.proposer m.frm m.height m.round) && (m.dig.toList == (s.decDig m.height).toList)
theorem tell_iff (s:StB) (m:MsgB):tellB s m=true↔(m.kind=3∧s.proposer m.frm m.height m.round=false∧m.dig=s.decDig m.height):=by
 unfold tellB;simp only [Bool.and_eq_true,beq_iff_eq,Bool.not_eq_true',and_assoc];constructor
 ·rintro ⟨a,b,c⟩;exact ⟨a,b,toList_inj c⟩
 rintro ⟨a,b,c⟩;exact ⟨a,b,by rw [c]⟩
def dropB (s:StB) (m:MsgB):Bool:=match getA m.frm s.ques with | some q=>decide (q.1=m.height) | none=>false
theorem ask_tell {m:MsgB} (h:tellB s m=true):s.ask m = {s with inf:=insA (m.height,m.frm) s.inf,ques:=if dropB s m=true then delA m.frm s.ques else s.ques}:=by
 unfold NS.ask dropB;rw [if_pos ((tell_iff s m).1 h)];rcases getA m.frm s.ques with _ | q
 ·simp
 simp
def askB (s:StB) (m:MsgB):Bool:=match getA m.frm s.ques with | some q=>decide (q.1<m.height) || (decide (q.1=m.height) && decide (q.2<m.round)) | none=>true
theorem ask_known {m:MsgB} (h:tellB s m=false) (h2:(m.height,m.frm)∈s.inf):s.ask m=s:=by
 unfold NS.ask;rw [if_neg (fun q=>by rw [(tell_iff s m).2 q] at h;cases h),if_pos h2]
theorem ask_new {m:MsgB} (h:tellB s m=false) (h2:(m.height,m.frm)∉s.inf):s.ask m=if askB s m=true then {s with ques:=putA m.frm (m.height,m.round) s.ques} else s:=by
 unfold NS.ask askB;rw [if_neg (fun q=>by rw [(tell_iff s m).2 q] at h;cases h),if_neg h2];rcases getA m.frm s.ques with _ | q
 ·simp
 simp
end
end
end Go.Proofs.YtifcdjmcoibblaaGreatDoor
