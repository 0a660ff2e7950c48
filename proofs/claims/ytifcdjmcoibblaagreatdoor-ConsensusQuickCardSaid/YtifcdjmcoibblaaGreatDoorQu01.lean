/-
  QUICK, reckoned.
-/
import Derived.Test.YtifcdjmcoibblaaGreatDoorG04

/-! QUICK, reckoned. -/
namespace Go.Proofs.YtifcdjmcoibblaaGreatDoor

set_option maxRecDepth 100000 in
theorem quickQ_all1 : (quickQ 1 2 3 && quickQ 1 3 4 && quickQ 1 4 2) = true := by decide +kernel
set_option maxRecDepth 100000 in
theorem quickQ_all2 : (quickQ 2 2 3 && quickQ 2 3 4 && quickQ 2 4 2) = true := by decide +kernel
set_option maxRecDepth 100000 in
theorem quickQ_all3 : (quickQ 3 2 3 && quickQ 3 3 4 && quickQ 3 4 2) = true := by decide +kernel
set_option maxRecDepth 100000 in
theorem quickQ_all4 : (quickQ 4 2 3 && quickQ 4 3 4 && quickQ 4 4 2) = true := by decide +kernel
set_option maxRecDepth 100000 in
theorem quickQ_all5 : (quickQ 5 2 3 && quickQ 5 3 4 && quickQ 5 4 2) = true := by decide +kernel
set_option maxRecDepth 100000 in
theorem quickQ_all6 : (quickQ 6 2 3 && quickQ 6 3 4 && quickQ 6 4 2) = true := by decide +kernel
set_option maxRecDepth 100000 in
theorem quickQ_all7 : (quickQ 7 2 3 && quickQ 7 3 4 && quickQ 7 4 2) = true := by decide +kernel
theorem quickQ_all : ((List.range 7).all fun n => quickQ (n + 1) 2 3 && quickQ (n + 1) 3 4 && quickQ (n + 1) 4 2) = true := by
  rw [List.all_eq_true]
  intro n hn
  rw [List.mem_range] at hn
  obtain rfl | rfl | rfl | rfl | rfl | rfl | rfl : n = 0 ∨ n = 1 ∨ n = 2 ∨ n = 3 ∨ n = 4 ∨ n = 5 ∨ n = 6 := by omega
  · exact quickQ_all1
  · exact quickQ_all2
  · exact quickQ_all3
  · exact quickQ_all4
  · exact quickQ_all5
  · exact quickQ_all6
  · exact quickQ_all7
end Go.Proofs.YtifcdjmcoibblaaGreatDoor
