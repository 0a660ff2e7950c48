/-
  QUICK, reckoned: the last pairs of lists.
-/
import Derived.Test.YtifcdjmcoibblaaGreatDoorG04

/-! QUICK, reckoned: the last pairs of lists. -/
namespace Go.Proofs.YtifcdjmcoibblaaGreatDoor

set_option maxRecDepth 100000 in
theorem quickQ_c1 : (quickQ 1 2 4 && quickQ 1 3 2 && quickQ 1 4 3) = true := by decide +kernel
set_option maxRecDepth 100000 in
theorem quickQ_c2 : (quickQ 2 2 4 && quickQ 2 3 2 && quickQ 2 4 3) = true := by decide +kernel
set_option maxRecDepth 100000 in
theorem quickQ_c3 : (quickQ 3 2 4 && quickQ 3 3 2 && quickQ 3 4 3) = true := by decide +kernel
set_option maxRecDepth 100000 in
theorem quickQ_c4 : (quickQ 4 2 4 && quickQ 4 3 2 && quickQ 4 4 3) = true := by decide +kernel
set_option maxRecDepth 100000 in
theorem quickQ_c5 : (quickQ 5 2 4 && quickQ 5 3 2 && quickQ 5 4 3) = true := by decide +kernel
set_option maxRecDepth 100000 in
theorem quickQ_c6 : (quickQ 6 2 4 && quickQ 6 3 2 && quickQ 6 4 3) = true := by decide +kernel
set_option maxRecDepth 100000 in
theorem quickQ_c7 : (quickQ 7 2 4 && quickQ 7 3 2 && quickQ 7 4 3) = true := by decide +kernel
theorem quickQ_c : ((List.range 7).all fun n => quickQ (n + 1) 2 4 && quickQ (n + 1) 3 2 && quickQ (n + 1) 4 3) = true := by
  rw [List.all_eq_true]
  intro n hn
  rw [List.mem_range] at hn
  obtain rfl | rfl | rfl | rfl | rfl | rfl | rfl : n = 0 ∨ n = 1 ∨ n = 2 ∨ n = 3 ∨ n = 4 ∨ n = 5 ∨ n = 6 := by omega
  · exact quickQ_c1
  · exact quickQ_c2
  · exact quickQ_c3
  · exact quickQ_c4
  · exact quickQ_c5
  · exact quickQ_c6
  · exact quickQ_c7
end Go.Proofs.YtifcdjmcoibblaaGreatDoor
