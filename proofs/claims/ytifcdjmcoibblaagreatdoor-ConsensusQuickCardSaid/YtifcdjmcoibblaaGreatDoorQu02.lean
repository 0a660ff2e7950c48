/-
  QUICK, reckoned: the other pairs of lists.
-/
import Derived.Test.YtifcdjmcoibblaaGreatDoorG04

/-! QUICK, reckoned: the other pairs of lists. -/
namespace Go.Proofs.YtifcdjmcoibblaaGreatDoor

set_option maxRecDepth 100000 in
theorem quickQ_b1 : (quickQ 1 2 2 && quickQ 1 3 3 && quickQ 1 4 4) = true := by decide +kernel
set_option maxRecDepth 100000 in
theorem quickQ_b2 : (quickQ 2 2 2 && quickQ 2 3 3 && quickQ 2 4 4) = true := by decide +kernel
set_option maxRecDepth 100000 in
theorem quickQ_b3 : (quickQ 3 2 2 && quickQ 3 3 3 && quickQ 3 4 4) = true := by decide +kernel
set_option maxRecDepth 100000 in
theorem quickQ_b4 : (quickQ 4 2 2 && quickQ 4 3 3 && quickQ 4 4 4) = true := by decide +kernel
set_option maxRecDepth 100000 in
theorem quickQ_b5 : (quickQ 5 2 2 && quickQ 5 3 3 && quickQ 5 4 4) = true := by decide +kernel
set_option maxRecDepth 100000 in
theorem quickQ_b6 : (quickQ 6 2 2 && quickQ 6 3 3 && quickQ 6 4 4) = true := by decide +kernel
set_option maxRecDepth 100000 in
theorem quickQ_b7 : (quickQ 7 2 2 && quickQ 7 3 3 && quickQ 7 4 4) = true := by decide +kernel
theorem quickQ_b : ((List.range 7).all fun n => quickQ (n + 1) 2 2 && quickQ (n + 1) 3 3 && quickQ (n + 1) 4 4) = true := by
  rw [List.all_eq_true]
  intro n hn
  rw [List.mem_range] at hn
  obtain rfl | rfl | rfl | rfl | rfl | rfl | rfl : n = 0 ∨ n = 1 ∨ n = 2 ∨ n = 3 ∨ n = 4 ∨ n = 5 ∨ n = 6 := by omega
  · exact quickQ_b1
  · exact quickQ_b2
  · exact quickQ_b3
  · exact quickQ_b4
  · exact quickQ_b5
  · exact quickQ_b6
  · exact quickQ_b7
end Go.Proofs.YtifcdjmcoibblaaGreatDoor
