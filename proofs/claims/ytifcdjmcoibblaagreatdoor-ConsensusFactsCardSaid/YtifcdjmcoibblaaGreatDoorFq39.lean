/- San -/
import Derived.Test.YtifcdjmcoibblaaGreatDoorFq18
set_option linter.unusedVariables false
set_option linter.unusedSimpArgs false
set_option linter.unusedSectionVars false
namespace Go.Proofs.YtifcdjmcoibblaaGreatDoor
abbrev S6:=SZ 5
abbrev M6:=MZ 5
def vq (kind frm:Int) (d:QZ 5):M6:=⟨kind,frm,0,0,0,0,d,0⟩
def o1:S6:=((newS 0 1:S6).begin 0 true 4 4).1
def o2:S6:=o1.tick.1
def q1:S6:=((newS 0 4:S6).begin 0 true 4 4).1
def q2:S6:=q1.tick.1
def q3:S6:=q2.receive (vq 4 1 4) true
def q4:S6:=q3.receive (vq 4 2 4) true
def q5:S6:=q4.tick.1
def q6:S6:=q5.receive (vq 6 1 4) true
def q7:S6:=q6.receive (vq 6 3 4) true
def q8:S6:=q7.tick.1
def q9:S6:=q8.receive (vq 5 2 4) true
def q10:S6:=q9.receive (vq 5 3 4) true
def q11:S6:=q10.tick.1
def q12:S6:=(q11.begin 0 true 4 4).1
def q13:S6:=(q12.begin 1 true 3 3).1
def isV (o:Option (Val (QZ 5) (QZ 5))) (r:Int) (l:QZ 5):Bool:=match o with | some v=>decide (v.round=r) && decide (v.list=l) | none=>false
theorem san_a:((newS 0 1:S6).begin 0 true 4 4).2=true∧o1.tick.2.length=0∧(match getA 0 o2.decs with | some v=>decide (v.list=4) | none=>false)=true:=by decide +kernel
theorem san_b:((newS 0 4:S6).begin 0 true 4 4).2=true∧q1.tick.2.length=6∧q4.tick.2.length=3∧q7.tick.2.length=3:=by decide +kernel
theorem san_c:isV q8.lock 0 4=true∧(getA 0 q9.decs).isNone=true∧(match getA 0 q11.decs with | some v=>decide (v.list=4) | none=>false)=true:=by decide +kernel
theorem san_d:(q11.begin 0 true 4 4).2=false∧(q12.begin 1 true 3 3).2=true∧q13.height=1:=by decide +kernel
theorem san_t:o1.ticks=0∧q1.ticks=0∧q4.ticks=1∧q7.ticks=2∧q10.ticks=3:=by decide +kernel
end Go.Proofs.YtifcdjmcoibblaaGreatDoor
