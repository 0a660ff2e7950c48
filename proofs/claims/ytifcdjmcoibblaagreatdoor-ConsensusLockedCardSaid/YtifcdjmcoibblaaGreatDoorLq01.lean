/- Ali Hye -/
import Derived.Lib.Hide
import Derived.BigQuiet
import Derived.Test.YtifcdjmcoibblaaGreatDoorProg
import Derived.Deep.RegionHeld3
set_option linter.unusedVariables false
set_option linter.unusedSimpArgs false
set_option linter.unusedSectionVars false
set_option maxRecDepth 100000
set_option maxHeartbeats 80000000
namespace Go.Proofs.YtifcdjmcoibblaaGreatDoor
theorem Hd {p:Prop} (h:p):RowKit.Hid p:=h
section
variable {α:Type} {b c:α} {l:List α} {i:Nat}
theorem gE {x:Array α} (h:x[i]?=some b):∃h:i<x.size,x[i]=b:=Array.getElem?_eq_some_iff.1 h
theorem zz:(∀{α:Type} {l:List α} {i:Nat} (h:i<l.toArray.size),l.toArray[i]=l[i]'(by simpa using h))∧(∀{α:Type} {b:α} {l:List α} {i:Nat} (h:i+1<(b :: l).length),(b :: l)[i+1]=l[i]'(Nat.lt_of_succ_lt_succ h))∧(∀{α:Type} {b:α} {l:List α} (h:0<(b :: l).length),(b :: l)[0]=b)∧(∀{α:Type} {b:α} {l:List α} {i:Nat},l.toArray.setIfInBounds i b=(l.set i b).toArray)∧(∀{α:Type} {b c:α} {l:List α},(b :: l).set 0 c=c :: l)∧∀{α:Type} {b c:α} {l:List α} {i:Nat},(b :: l).set (i+1) c=b :: l.set i c:=
 ⟨fun h=>List.getElem_toArray h,fun h=>List.getElem_cons_succ ..,fun _=>rfl,List.setIfInBounds_toArray ..,rfl,rfl⟩
end
section
open Go.RowKit
section
variable {P:Program} {md:Region.Mode} {ops:Array Oper} {Q:Exit→Act→World→Prop} {S:World→Prop}
theorem hun {i fuel:Nat} {oi:Oper} {listed:Array Bool} {a:Act} {w:World} (hS:S w) (h:wpAnyH P md ops Q S fuel (listed.setIfInBounds i true) (a.put oi.dst undef) w) (hi:ops[i]?=some oi:=by rfl)
  (hs:Region.noSelect ops=true:=by kernel_rfl) (hf:Region.free md ops listed i=true:=by kernel_rfl) (hr:(Region.ready md ops listed).contains i=true:=by kernel_rfl)
  (hQ:∀c a w,Q (.panic c) (a.put oi.dst undef) w→Q (.panic c) a w:=by exact fun _ _ _ h=>h) (hw:Region.wanted oi (yielded ops a.tmps)=false:=by kernel_rfl):wpAnyH P md ops Q S (fuel+1) listed a w:=
 wpAnyH_take hi hs hf hr hQ (.inr ⟨hw,rfl⟩) hS h
theorem hye {i fuel:Nat} {oi:Oper} {v:Value} {listed:Array Bool} {a:Act} {w:World} (hS:S w) (hv:∀w,S w→(execOp a.eval oi).run P w = .ok (.value v) w) (h:wpAnyH P md ops Q S fuel (listed.setIfInBounds i true) (a.put oi.dst v) w) (hi:ops[i]?=some oi:=by rfl)
  (hs:Region.noSelect ops=true:=by kernel_rfl) (hf:Region.free md ops listed i=true:=by kernel_rfl) (hr:(Region.ready md ops listed).contains i=true:=by kernel_rfl)
  (hQ:∀c a w,Q (.panic c) (a.put oi.dst v) w→Q (.panic c) a w:=by exact fun _ _ _ h=>h) (hw:Region.wanted oi (yielded ops a.tmps)=true:=by kernel_rfl):wpAnyH P md ops Q S (fuel+1) listed a w:=
 wpAnyH_take hi hs hf hr hQ (.inl ⟨hw,hv⟩) hS h
theorem hyw {i fuel:Nat} {oi:Oper} {v:Value} {listed:Array Bool} {a:Act} {w:World} (hS:S w) (h:wpAnyH P md ops Q S fuel (listed.setIfInBounds i true) (a.put oi.dst v) w) (hi:ops[i]?=some oi:=by rfl)
  (hv:∀w,S w→(execOp a.eval oi).run P w = .ok (.value v) w:=by (intro w hSw;(try dsimp only at hSw);(first | (go_simp;done) | (go_simp;with_reducible rfl))))
  (hs:Region.noSelect ops=true:=by kernel_rfl) (hf:Region.free md ops listed i=true:=by kernel_rfl) (hr:(Region.ready md ops listed).contains i=true:=by kernel_rfl)
  (hQ:∀c a w,Q (.panic c) (a.put oi.dst v) w→Q (.panic c) a w:=by exact fun _ _ _ h=>h) (hw:Region.wanted oi (yielded ops a.tmps)=true:=by kernel_rfl):wpAnyH P md ops Q S (fuel+1) listed a w:=
 wpAnyH_take hi hs hf hr hQ (.inl ⟨hw,hv⟩) hS h
theorem hst {id:Nat} {a:Act} {w:World} (hm:P.follows .mixedOrders=true) (hS:S w.drew) (hQ:∀c (a:Act) (d:Nat) v w,Q (.panic c) (a.put (some d) v) w→Q (.panic c) a w)
  (h:RowKit.Hid (∀c (a:Act) (d:Nat) v w,Q (.panic c) (a.put (some d) v) w→Q (.panic c) a w)→S w.drew→wpAnyH P .any ops Q S ops.size (Array.replicate ops.size false) a w.drew):(Code.region id ops true).wp P Q a w:=
 wp_region_held_drew hm hS (fun q=>h (Hd hQ) q)
theorem hnq {i fuel d:Nat} {oi:Oper} {listed:Array Bool} {a:Act} {w:World} (HQ:RowKit.Hid (∀c (a:Act) (d:Nat) v w,Q (.panic c) (a.put (some d) v) w→Q (.panic c) a w)) (hS:S w) (h:wpAnyH P md ops Q S fuel (listed.setIfInBounds i true) (a.put oi.dst undef) w) (hi:ops[i]?=some oi:=by rfl)
  (hs:Region.noSelect ops=true:=by kernel_rfl) (hf:Region.free md ops listed i=true:=by kernel_rfl) (hr:(Region.ready md ops listed).contains i=true:=by kernel_rfl)
  (hw:Region.wanted oi (yielded ops a.tmps)=false:=by kernel_rfl) (hd:oi.dst=some d:=by rfl):wpAnyH P md ops Q S (fuel+1) listed a w:=
 wpAnyH_take hi hs hf hr (fun c b w q=>HQ.out c b d _ w (hd ▸ q)) (.inr ⟨hw,rfl⟩) hS h
theorem hyq {i fuel d:Nat} {oi:Oper} {v:Value} {listed:Array Bool} {a:Act} {w:World} (HQ:RowKit.Hid (∀c (a:Act) (d:Nat) v w,Q (.panic c) (a.put (some d) v) w→Q (.panic c) a w)) (hS:S w) (hv:∀w,S w→(execOp a.eval oi).run P w = .ok (.value v) w) (h:wpAnyH P md ops Q S fuel (listed.setIfInBounds i true) (a.put oi.dst v) w) (hi:ops[i]?=some oi:=by rfl)
  (hs:Region.noSelect ops=true:=by kernel_rfl) (hf:Region.free md ops listed i=true:=by kernel_rfl) (hr:(Region.ready md ops listed).contains i=true:=by kernel_rfl)
  (hw:Region.wanted oi (yielded ops a.tmps)=true:=by kernel_rfl) (hd:oi.dst=some d:=by rfl):wpAnyH P md ops Q S (fuel+1) listed a w:=
 wpAnyH_take hi hs hf hr (fun c b w q=>HQ.out c b d _ w (hd ▸ q)) (.inl ⟨hw,hv⟩) hS h
end
end
end Go.Proofs.YtifcdjmcoibblaaGreatDoor
