import Derived.Test.YtgbnhngaeefmkaaLwA
import Derived.KernelRfl

/-! The laws' fixed examples: the flow, step by step. -/
namespace Go.Proofs.Ytgbnhngaeefmkaa
set_option linter.unusedVariables false
set_option linter.unusedSimpArgs false
open Go.RowKit

def b1 (x : UInt8) : ByteArray := ⟨#[x]⟩
/-- a, b are inputs, c is a node on a, d on b and c -/
def saneF (a vc vd : UInt8) (sc sd : Bool) : List En := [⟨b1 97, b1 a, false, false, []⟩, ⟨b1 98, b1 50, false, false, []⟩, ⟨b1 99, b1 vc, true, sc, [b1 97]⟩, ⟨b1 100, b1 vd, true, sd, [b1 98, b1 99]⟩]

theorem sn1 : setF [] (b1 97) (b1 49) = [⟨b1 97, b1 49, false, false, []⟩] := by kernel_rfl
theorem sn2 : setF [⟨b1 97, b1 49, false, false, []⟩] (b1 98) (b1 50) = [⟨b1 97, b1 49, false, false, []⟩, ⟨b1 98, b1 50, false, false, []⟩] := by kernel_rfl
theorem sn3 : putF [⟨b1 97, b1 49, false, false, []⟩, ⟨b1 98, b1 50, false, false, []⟩] (b1 99) [b1 97] (b1 120) = [⟨b1 97, b1 49, false, false, []⟩, ⟨b1 98, b1 50, false, false, []⟩, ⟨b1 99, b1 120, true, false, [b1 97]⟩] := by kernel_rfl
theorem sn4 : putF [⟨b1 97, b1 49, false, false, []⟩, ⟨b1 98, b1 50, false, false, []⟩, ⟨b1 99, b1 120, true, false, [b1 97]⟩] (b1 100) [b1 99, b1 98] (b1 121) = saneF 49 120 121 false false := by kernel_rfl
theorem sn5 : setF (saneF 49 120 121 false false) (b1 97) (b1 49) = saneF 49 120 121 false false := by kernel_rfl
theorem sn6 : setF (saneF 49 120 121 false false) (b1 97) (b1 53) = saneF 53 120 121 true false := by kernel_rfl
theorem sn7 : putF (saneF 53 120 121 true false) (b1 100) [b1 99, b1 98] (b1 122) = saneF 53 120 121 true false := by kernel_rfl
theorem sn8 : putF (saneF 53 120 121 true false) (b1 99) [b1 97] (b1 120) = saneF 53 120 121 false false := by kernel_rfl
theorem sn9 : setF (saneF 53 120 121 false false) (b1 97) (b1 54) = saneF 54 120 121 true false := by kernel_rfl
theorem sn10 : putF (saneF 54 120 121 true false) (b1 99) [b1 97] (b1 119) = saneF 54 119 121 false true := by kernel_rfl
theorem st4 : staleF (saneF 49 120 121 false false) = [] := by kernel_rfl
theorem st6 : staleF (saneF 53 120 121 true false) = [b1 99] := by kernel_rfl
theorem st8 : staleF (saneF 53 120 121 false false) = [] := by kernel_rfl
theorem st10 : staleF (saneF 54 119 121 false true) = [b1 100] := by kernel_rfl
theorem sk1 : setOk [] (b1 97) = true := by kernel_rfl

end Go.Proofs.Ytgbnhngaeefmkaa
