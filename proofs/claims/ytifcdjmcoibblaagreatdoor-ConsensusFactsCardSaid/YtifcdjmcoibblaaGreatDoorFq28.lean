/- SayM -/
import Derived.Test.YtifcdjmcoibblaaGreatDoorFq05
set_option linter.unusedVariables false
set_option linter.unusedSimpArgs false
set_option linter.unusedSectionVars false
namespace Go.Proofs.YtifcdjmcoibblaaGreatDoor
section
variable {D L:Type} [Dg D] [Inhabited L]
def sayO (s:NS D L) (m:Msg D L):Msg D L:={m with frm:=s.id,height:=s.height}
def sayM (s:NS D L) (m:Msg D L):Msg D L:=⟨m.kind,s.id,(s.id+1) % 7,s.height,m.round,m.valid,m.dig,m.list⟩
theorem sayM_eq (s:NS D L) (m:Msg D L):sayM s m=⟨m.kind,s.id,(s.id+1) % 7,s.height,m.round,m.valid,m.dig,m.list⟩:=rfl
theorem sayO_eq (s:NS D L) (m:Msg D L):sayO s m=⟨m.kind,s.id,m.to,s.height,m.round,m.valid,m.dig,m.list⟩:=rfl
def NS.said (s:NS D L) (m:Msg D L):NS D L:={s with mine:=s.mine ++ [sayO s m],made:=insA (m.kind,m.round) s.made}
theorem say_3 (s:NS D L) (m:Msg D L) (h:m.kind=3):s.say m = {s.said m with props:=keepA s.props m.round (sayO s m)}:=by
 unfold NS.say NS.said sayO;simp only;rw [if_pos h]
theorem say_v (s:NS D L) (m:Msg D L) (h:m.kind≠3):s.say m=(s.said m).putVote (sayM s m):=by
 unfold NS.say NS.said sayO sayM;simp only;rw [if_neg h]
end
end Go.Proofs.YtifcdjmcoibblaaGreatDoor
