/- Shelf Hye Frt Key -/
import Derived.Shelf.Strings.Builder1
import Derived.Shelf.Strings.Builder2
import Derived.Shelf.Strings.OnBuilder
import Derived.Shelf.Small.Bits
import Derived.Shelf.Small.Wraps
import Derived.Shelf.Strings.BuilderF
import Derived.Shelf.Strings.Builder2Cap
import Derived.Shelf.Strconv.Itoa0
import Derived.Shelf.Sort.Plain
import Derived.Ground.Names2Prog
import Derived.Shelf.Slices.Clone
import Derived.Shelf.Slices.SearchI
import Derived.Shelf.Slices.In.SortNone
import Derived.Ground.SlgnProg
import Derived.Shelf.SlicesE.Clone
import Derived.Test.YtifcdjmcoibblaaGreatDoorProg
import Derived.BigQuiet
import Derived.Lib.Hide
import Derived.Deep.RegionHeld3
import Derived.Test.YtifcdjmcoibblaaGreatDoorFq01
import Derived.Test.YtifcdjmcoibblaaGreatDoorFq03
import Derived.Laws.StructEq
import Derived.KernelRfl
set_option linter.unusedVariables false
set_option linter.unusedSimpArgs false
set_option linter.unusedSectionVars false
set_option maxRecDepth 100000
set_option maxHeartbeats 80000000
namespace Go.Proofs.YtifcdjmcoibblaaGreatDoor
end Go.Proofs.YtifcdjmcoibblaaGreatDoor
namespace Go.Proofs
open Go.Shelf
def Tryz.lays169_ren : Go.Shelf.Ren := ⟨fun | 169 => 165 | n => n, fun | 70 => 210 | 9 => 9 | 0 => 0 | 72 => 212 | 37 => 135 | 127 => 269 | 3 => 3 | 5 => 5 | n => n, fun | n => n⟩
theorem Tryz.lays169 : Go.Proofs.Lays.n169 Tryz.prog Tryz.lays169_ren := {
 mixed := by kernel_rfl
 f169 := Tryz.func165.trans (congrArg some (by kernel_rfl))
 t0 := Tryz.underlying0
 a0 := Tryz.isAgg0
 z0 := Tryz.sizeOf0
 v0 := Tryz.zeroValue0
 t3 := Tryz.underlying3
 a3 := Tryz.isAgg3
 z3 := Tryz.sizeOf3
 v3 := Tryz.zeroValue3
 t9 := Tryz.underlying9
 a9 := Tryz.isAgg9
 z9 := Tryz.sizeOf9
 v9 := Tryz.zeroValue9
 t37 := Tryz.underlying135
 a37 := Tryz.isAgg135
 z37 := Tryz.sizeOf135
 v37 := Tryz.zeroValue135
 t70 := Tryz.underlying210
 a70 := Tryz.isAgg210
 z70 := Tryz.sizeOf210
 v70 := Tryz.zeroValue210
 t72 := Tryz.underlying212
 a72 := Tryz.isAgg212
 z72 := Tryz.sizeOf212
 v72 := Tryz.zeroValue212
 t127 := Tryz.underlying269
 a127 := Tryz.isAgg269
 z127 := Tryz.sizeOf269
 v127 := Tryz.zeroValue269 }
theorem Tryz.Builder_Extra_169 : Builder.Extra Tryz.prog Tryz.lays169_ren := {
 sizeBuilder := by kernel_rfl
 liesBuilder := by kernel_rfl
 t5 := Tryz.underlying5
 a5 := Tryz.isAgg5
 z5 := Tryz.sizeOf5
 v5 := Tryz.zeroValue5
 infoByte := by kernel_rfl
 cellsByte := by kernel_rfl
 sizeByte := by kernel_rfl
 neB5 := by decide }
open Go.RowKit in
theorem Tryz.Builder_String (B b : Nat) (l : List UInt8) (w : World) (h : Lib.IsBuilder 212 5 B b (Lib.byteCells l) w) (h0 : l ≠ []) :
  Calls Tryz.prog 165 #[.pointer (some ⟨b, 0, none⟩)] w fun e w' => e = .returned (.string ⟨l.toArray⟩) ∧ Below B w w' := Any.Builder_String Tryz.lays169 Tryz.Builder_Extra_169 B b l w h h0
open Go.RowKit in
theorem Tryz.Builder_String_empty (B b : Nat) (w : World) (h : Lib.IsBuilder 212 5 B b [] w) (hBw : B ≤ w.heap.size) :
  Calls Tryz.prog 165 #[.pointer (some ⟨b, 0, none⟩)] w fun e w' => e = .returned (.string ⟨#[]⟩) ∧ Below B w w' := Any.Builder_String_empty Tryz.lays169 Tryz.Builder_Extra_169 B b w h hBw
open Go.RowKit in
theorem Tryz.Builder_String_any (B b : Nat) (l : List UInt8) (w : World) (h : Lib.IsBuilder 212 5 B b (Lib.byteCells l) w) (hBw : B ≤ w.heap.size) :
  Calls Tryz.prog 165 #[.pointer (some ⟨b, 0, none⟩)] w fun e w' => e = .returned (.string ⟨l.toArray⟩) ∧ Below B w w' := Any.Builder_String_any Tryz.lays169 Tryz.Builder_Extra_169 B b l w h hBw
def Tryz.lays241_ren : Go.Shelf.Ren := ⟨fun | 241 => 219 | 277 => 248 | n => n, fun | 70 => 210 | 3 => 3 | 0 => 0 | 72 => 212 | 37 => 135 | 5 => 5 | n => n, fun | n => n⟩
theorem Tryz.lays241 : Go.Proofs.Lays.n241 Tryz.prog Tryz.lays241_ren := {
 mixed := by kernel_rfl
 f241 := Tryz.func219.trans (congrArg some (by kernel_rfl))
 f277 := Tryz.func248.trans (congrArg some (by kernel_rfl))
 t0 := Tryz.underlying0
 a0 := Tryz.isAgg0
 z0 := Tryz.sizeOf0
 v0 := Tryz.zeroValue0
 t3 := Tryz.underlying3
 a3 := Tryz.isAgg3
 z3 := Tryz.sizeOf3
 v3 := Tryz.zeroValue3
 t37 := Tryz.underlying135
 a37 := Tryz.isAgg135
 z37 := Tryz.sizeOf135
 v37 := Tryz.zeroValue135
 t70 := Tryz.underlying210
 a70 := Tryz.isAgg210
 z70 := Tryz.sizeOf210
 v70 := Tryz.zeroValue210
 t72 := Tryz.underlying212
 a72 := Tryz.isAgg212
 z72 := Tryz.sizeOf212
 v72 := Tryz.zeroValue212 }
theorem Tryz.Builder_Extra_241 : Builder.Extra Tryz.prog Tryz.lays241_ren := {
 sizeBuilder := by kernel_rfl
 liesBuilder := by kernel_rfl
 t5 := Tryz.underlying5
 a5 := Tryz.isAgg5
 z5 := Tryz.sizeOf5
 v5 := Tryz.zeroValue5
 infoByte := by kernel_rfl
 cellsByte := by kernel_rfl
 sizeByte := by kernel_rfl
 neB5 := by decide }
open Go.RowKit in
theorem Tryz.Builder_grow_fresh (B b n : Nat) (w : World) (hB : B ≤ b) (hbk : w.heap[b]? = some (.cells #[.pointer (some ⟨b, 0, none⟩), .slice none 0 0] 212 (0, 0))) (hBw : B ≤ w.heap.size) (hn : n ≤ 281474976710656) :
  Calls Tryz.prog 219 #[.pointer (some ⟨b, 0, none⟩), .int .i64 n] w fun e w' => e = .returned (.tuple #[]) ∧ (Lib.BuilderAt 212 5 B b (.pointer (some ⟨b, 0, none⟩)) [] w' ∧ Below B w w') := Any.Builder_grow_fresh Tryz.lays241 Tryz.Builder_Extra_241 B b n w hB hbk hBw hn
def Tryz.lays165_ren : Go.Shelf.Ren := ⟨fun | 165 => 163 | 240 => 218 | 241 => 219 | 276 => 247 | 277 => 248 | n => n, fun | 70 => 210 | 3 => 3 | 0 => 0 | 4 => 4 | 9 => 9 | 20 => 20 | 72 => 212 | 37 => 135 | 164 => 294 | 5 => 5 | n => n, fun | n => n⟩
theorem Tryz.lays165 : Go.Proofs.Lays.n165 Tryz.prog Tryz.lays165_ren := {
 mixed := by kernel_rfl
 f165 := Tryz.func163.trans (congrArg some (by kernel_rfl))
 f240 := Tryz.func218.trans (congrArg some (by kernel_rfl))
 f241 := Tryz.func219.trans (congrArg some (by kernel_rfl))
 f276 := Tryz.func247.trans (congrArg some (by kernel_rfl))
 f277 := Tryz.func248.trans (congrArg some (by kernel_rfl))
 t0 := Tryz.underlying0
 a0 := Tryz.isAgg0
 z0 := Tryz.sizeOf0
 v0 := Tryz.zeroValue0
 t3 := Tryz.underlying3
 a3 := Tryz.isAgg3
 z3 := Tryz.sizeOf3
 v3 := Tryz.zeroValue3
 t4 := Tryz.underlying4
 a4 := Tryz.isAgg4
 z4 := Tryz.sizeOf4
 v4 := Tryz.zeroValue4
 t9 := Tryz.underlying9
 a9 := Tryz.isAgg9
 z9 := Tryz.sizeOf9
 v9 := Tryz.zeroValue9
 t20 := Tryz.underlying20
 a20 := Tryz.isAgg20
 z20 := Tryz.sizeOf20
 v20 := Tryz.zeroValue20
 t37 := Tryz.underlying135
 a37 := Tryz.isAgg135
 z37 := Tryz.sizeOf135
 v37 := Tryz.zeroValue135
 t70 := Tryz.underlying210
 a70 := Tryz.isAgg210
 z70 := Tryz.sizeOf210
 v70 := Tryz.zeroValue210
 t72 := Tryz.underlying212
 a72 := Tryz.isAgg212
 z72 := Tryz.sizeOf212
 v72 := Tryz.zeroValue212
 t164 := Tryz.underlying294
 a164 := Tryz.isAgg294
 z164 := Tryz.sizeOf294
 v164 := Tryz.zeroValue294 }
theorem Tryz.Builder_Extra_165 : Builder.Extra Tryz.prog Tryz.lays165_ren := {
 sizeBuilder := by kernel_rfl
 liesBuilder := by kernel_rfl
 t5 := Tryz.underlying5
 a5 := Tryz.isAgg5
 z5 := Tryz.sizeOf5
 v5 := Tryz.zeroValue5
 infoByte := by kernel_rfl
 cellsByte := by kernel_rfl
 sizeByte := by kernel_rfl
 neB5 := by decide }
open Go.RowKit in
theorem Tryz.Builder_Grow_fresh (B b n : Nat) (w : World) (hB : B ≤ b) (hbk : w.heap[b]? = some (.cells #[.pointer none, .slice none 0 0] 212 (0, 0))) (hBw : B ≤ w.heap.size) (hn : n ≤ 281474976710656) :
  Calls Tryz.prog 163 #[.pointer (some ⟨b, 0, none⟩), .int .i64 n] w fun e w' => e = .returned (.tuple #[]) ∧ (Lib.BuilderAt 212 5 B b (.pointer (some ⟨b, 0, none⟩)) [] w' ∧ Below B w w') := Any.Builder_Grow_fresh Tryz.lays165 Tryz.Builder_Extra_165 B b n w hB hbk hBw hn
def Tryz.lays156_ren : Go.Shelf.Ren := ⟨fun | 156 => 106 | 165 => 163 | 166 => 164 | 169 => 165 | 240 => 218 | 241 => 219 | 276 => 247 | 277 => 248 | n => n, fun | 31 => 30 | 9 => 9 | 3 => 3 | 4 => 4 | 0 => 0 | 20 => 20 | 72 => 212 | 76 => 215 | 70 => 210 | 37 => 135 | 75 => 214 | 127 => 269 | 164 => 294 | 5 => 5 | 80 => 77 | n => n, fun | n => n⟩
theorem Tryz.lays156 : Go.Proofs.Lays.n156 Tryz.prog Tryz.lays156_ren := {
 mixed := by kernel_rfl
 f156 := Tryz.func106.trans (congrArg some (by kernel_rfl))
 f165 := Tryz.func163.trans (congrArg some (by kernel_rfl))
 f166 := Tryz.func164.trans (congrArg some (by kernel_rfl))
 f169 := Tryz.func165.trans (congrArg some (by kernel_rfl))
 f240 := Tryz.func218.trans (congrArg some (by kernel_rfl))
 f241 := Tryz.func219.trans (congrArg some (by kernel_rfl))
 f276 := Tryz.func247.trans (congrArg some (by kernel_rfl))
 f277 := Tryz.func248.trans (congrArg some (by kernel_rfl))
 t0 := Tryz.underlying0
 a0 := Tryz.isAgg0
 z0 := Tryz.sizeOf0
 v0 := Tryz.zeroValue0
 t3 := Tryz.underlying3
 a3 := Tryz.isAgg3
 z3 := Tryz.sizeOf3
 v3 := Tryz.zeroValue3
 t4 := Tryz.underlying4
 a4 := Tryz.isAgg4
 z4 := Tryz.sizeOf4
 v4 := Tryz.zeroValue4
 t9 := Tryz.underlying9
 a9 := Tryz.isAgg9
 z9 := Tryz.sizeOf9
 v9 := Tryz.zeroValue9
 t20 := Tryz.underlying20
 a20 := Tryz.isAgg20
 z20 := Tryz.sizeOf20
 v20 := Tryz.zeroValue20
 t31 := Tryz.underlying30
 a31 := Tryz.isAgg30
 z31 := Tryz.sizeOf30
 v31 := Tryz.zeroValue30
 t37 := Tryz.underlying135
 a37 := Tryz.isAgg135
 z37 := Tryz.sizeOf135
 v37 := Tryz.zeroValue135
 t70 := Tryz.underlying210
 a70 := Tryz.isAgg210
 z70 := Tryz.sizeOf210
 v70 := Tryz.zeroValue210
 t72 := Tryz.underlying212
 a72 := Tryz.isAgg212
 z72 := Tryz.sizeOf212
 v72 := Tryz.zeroValue212
 t75 := Tryz.underlying214
 a75 := Tryz.isAgg214
 z75 := Tryz.sizeOf214
 v75 := Tryz.zeroValue214
 t76 := Tryz.underlying215
 a76 := Tryz.isAgg215
 z76 := Tryz.sizeOf215
 v76 := Tryz.zeroValue215
 t127 := Tryz.underlying269
 a127 := Tryz.isAgg269
 z127 := Tryz.sizeOf269
 v127 := Tryz.zeroValue269
 t164 := Tryz.underlying294
 a164 := Tryz.isAgg294
 z164 := Tryz.sizeOf294
 v164 := Tryz.zeroValue294 }
theorem Tryz.Builder_Extra_156 : Builder.Extra Tryz.prog Tryz.lays156_ren := {
 sizeBuilder := by kernel_rfl
 liesBuilder := by kernel_rfl
 t5 := Tryz.underlying5
 a5 := Tryz.isAgg5
 z5 := Tryz.sizeOf5
 v5 := Tryz.zeroValue5
 infoByte := by kernel_rfl
 cellsByte := by kernel_rfl
 sizeByte := by kernel_rfl
 neB5 := by decide }
open Go.RowKit in
theorem Tryz.strings_Join_none (a : Option Addr) (c : Nat) (sep : ByteArray) (w : World) :
  Calls Tryz.prog 106 #[.slice a 0 c, .string sep] w fun e w' => e = .returned (.string ⟨#[]⟩) ∧ w' = w := Any.strings_Join_none Tryz.lays156 Tryz.Builder_Extra_156 a c sep w
open Go.RowKit in
theorem Tryz.strings_Join (bk o c : Nat) (xs : List ByteArray) (sep : ByteArray) (w : World) (hcells : ∀ (j : Nat) x, xs[j]? = some x → w.cell? ⟨bk, o + j, none⟩ = some (.string x)) (hbk : bk < w.heap.size) (hN : xs.length ≤ 140737488355328) (hcap : xs.length ≤ c) (hlen : (Lib.join (xs.map (·.data.toList)) sep.data.toList).length ≤ 140737488355328) :
  Calls Tryz.prog 106 #[.slice (some ⟨bk, o, none⟩) xs.length c, .string sep] w fun e w' => e = .returned (.string ⟨(Lib.join (xs.map (·.data.toList)) sep.data.toList).toArray⟩) ∧ Below w.heap.size w w' := Any.strings_Join Tryz.lays156 Tryz.Builder_Extra_156 bk o c xs sep w hcells hbk hN hcap hlen
def Tryz.lays128_ren : Go.Shelf.Ren := ⟨fun | 128 => 215 | n => n, fun | 51 => 170 | 3 => 3 | 4 => 4 | 46 => 184 | 5 => 5 | 9 => 9 | n => n, fun | n => n⟩
theorem Tryz.lays128 : Go.Proofs.Lays.n128 Tryz.prog Tryz.lays128_ren := {
 mixed := by kernel_rfl
 f128 := Tryz.func215.trans (congrArg some (by kernel_rfl))
 t3 := Tryz.underlying3
 a3 := Tryz.isAgg3
 z3 := Tryz.sizeOf3
 v3 := Tryz.zeroValue3
 t4 := Tryz.underlying4
 a4 := Tryz.isAgg4
 z4 := Tryz.sizeOf4
 v4 := Tryz.zeroValue4
 t5 := Tryz.underlying5
 a5 := Tryz.isAgg5
 z5 := Tryz.sizeOf5
 v5 := Tryz.zeroValue5
 t9 := Tryz.underlying9
 a9 := Tryz.isAgg9
 z9 := Tryz.sizeOf9
 v9 := Tryz.zeroValue9
 t46 := Tryz.underlying184
 a46 := Tryz.isAgg184
 z46 := Tryz.sizeOf184
 v46 := Tryz.zeroValue184
 t51 := Tryz.underlying170
 a51 := Tryz.isAgg170
 z51 := Tryz.sizeOf170
 v51 := Tryz.zeroValue170 }
theorem Tryz.bits_Len32 (x : Int) (w : World) (h0 : 0 ≤ x) (h1 : x ≤ 4294967295) :
  Calls Tryz.prog 215 #[.int .u32 x] w fun e w' => e = .returned (.int .i64 (Lib.bitLen x.toNat)) ∧ w' = w := Any.bits_Len32 Tryz.lays128 x w h0 h1
def Tryz.lays125_ren : Go.Shelf.Ren := ⟨fun | 125 => 160 | 128 => 215 | 129 => 216 | n => n, fun | 46 => 184 | 3 => 3 | 51 => 170 | 53 => 209 | 4 => 4 | 5 => 5 | 9 => 9 | n => n, fun | n => n⟩
theorem Tryz.lays125 : Go.Proofs.Lays.n125 Tryz.prog Tryz.lays125_ren := {
 mixed := by kernel_rfl
 f125 := Tryz.func160.trans (congrArg some (by kernel_rfl))
 f128 := Tryz.func215.trans (congrArg some (by kernel_rfl))
 f129 := Tryz.func216.trans (congrArg some (by kernel_rfl))
 t3 := Tryz.underlying3
 a3 := Tryz.isAgg3
 z3 := Tryz.sizeOf3
 v3 := Tryz.zeroValue3
 t4 := Tryz.underlying4
 a4 := Tryz.isAgg4
 z4 := Tryz.sizeOf4
 v4 := Tryz.zeroValue4
 t5 := Tryz.underlying5
 a5 := Tryz.isAgg5
 z5 := Tryz.sizeOf5
 v5 := Tryz.zeroValue5
 t9 := Tryz.underlying9
 a9 := Tryz.isAgg9
 z9 := Tryz.sizeOf9
 v9 := Tryz.zeroValue9
 t46 := Tryz.underlying184
 a46 := Tryz.isAgg184
 z46 := Tryz.sizeOf184
 v46 := Tryz.zeroValue184
 t51 := Tryz.underlying170
 a51 := Tryz.isAgg170
 z51 := Tryz.sizeOf170
 v51 := Tryz.zeroValue170
 t53 := Tryz.underlying209
 a53 := Tryz.isAgg209
 z53 := Tryz.sizeOf209
 v53 := Tryz.zeroValue209 }
theorem Tryz.bits_Len (x : Int) (w : World) (h0 : 0 ≤ x) (h1 : x ≤ 18446744073709551615) :
  Calls Tryz.prog 160 #[.int .u64 x] w fun e w' => e = .returned (.int .i64 (Lib.bitLen x.toNat)) ∧ w' = w := Any.bits_Len Tryz.lays125 x w h0 h1
def Tryz.lays215_ren : Go.Shelf.Ren := ⟨fun | 215 => 252 | n => n, fun | 3 => 3 | 4 => 4 | n => n, fun | n => n⟩
theorem Tryz.lays215 : Go.Proofs.Lays.n215 Tryz.prog Tryz.lays215_ren := {
 mixed := by kernel_rfl
 f215 := Tryz.func252.trans (congrArg some (by kernel_rfl))
 t3 := Tryz.underlying3
 a3 := Tryz.isAgg3
 z3 := Tryz.sizeOf3
 v3 := Tryz.zeroValue3
 t4 := Tryz.underlying4
 a4 := Tryz.isAgg4
 z4 := Tryz.sizeOf4
 v4 := Tryz.zeroValue4 }
open Go.RowKit in
theorem Tryz.cmp_isNaN_int (x : Int) (w : World) :
  Calls Tryz.prog 252 #[.int .i64 x] w fun e w' => e = .returned (.bool false) ∧ w' = w := Any.cmp_isNaN_int Tryz.lays215 x w
open Go.RowKit in
theorem Tryz.Builder_String_f (B b : Nat) (l : List UInt8) (w : World) (h : Lib.IsBuilderF 212 5 B b (Lib.byteCells l) w) (h0 : l ≠ []) :
  Calls Tryz.prog 165 #[.pointer (some ⟨b, 0, none⟩)] w fun e w' => e = .returned (.string ⟨l.toArray⟩) ∧ (Lib.IsBuilderF 212 5 B b (Lib.byteCells l) w' ∧ Below B w w') := Any.Builder_String_f Tryz.lays169 Tryz.Builder_Extra_169 B b l w h h0
open Go.RowKit in
theorem Tryz.Builder_String_empty_f (B b : Nat) (w : World) (h : Lib.IsBuilderF 212 5 B b [] w) (hBw : B ≤ w.heap.size) :
  Calls Tryz.prog 165 #[.pointer (some ⟨b, 0, none⟩)] w fun e w' => e = .returned (.string ⟨#[]⟩) ∧ (Lib.IsBuilderF 212 5 B b [] w' ∧ Below B w w') := Any.Builder_String_empty_f Tryz.lays169 Tryz.Builder_Extra_169 B b w h hBw
open Go.RowKit in
theorem Tryz.Builder_String_any_f (B b : Nat) (l : List UInt8) (w : World) (h : Lib.IsBuilderF 212 5 B b (Lib.byteCells l) w) (hBw : B ≤ w.heap.size) :
  Calls Tryz.prog 165 #[.pointer (some ⟨b, 0, none⟩)] w fun e w' => e = .returned (.string ⟨l.toArray⟩) ∧ (Lib.IsBuilderF 212 5 B b (Lib.byteCells l) w' ∧ Below B w w') := Any.Builder_String_any_f Tryz.lays169 Tryz.Builder_Extra_169 B b l w h hBw
open Go.RowKit in
theorem Tryz.Builder_grow_fresh_cap (B b n : Nat) (w : World) (hB : B ≤ b) (hbk : w.heap[b]? = some (.cells #[.pointer (some ⟨b, 0, none⟩), .slice none 0 0] 212 (0, 0))) (hBw : B ≤ w.heap.size) (hn : n ≤ 281474976710656) :
  Calls Tryz.prog 219 #[.pointer (some ⟨b, 0, none⟩), .int .i64 n] w fun e w' => e = .returned (.tuple #[]) ∧ (Lib.BuilderAt 212 5 B b (.pointer (some ⟨b, 0, none⟩)) [] w' ∧ Below B w w') ∧ ∃ p cap, w'.cell? ⟨b, 1, none⟩ = some (.slice p 0 cap) ∧ n ≤ cap := Any.Builder_grow_fresh_cap Tryz.lays241 Tryz.Builder_Extra_241 B b n w hB hbk hBw hn
open Go.RowKit in
theorem Tryz.Builder_Grow_fresh_cap (B b n : Nat) (w : World) (hB : B ≤ b) (hbk : w.heap[b]? = some (.cells #[.pointer none, .slice none 0 0] 212 (0, 0))) (hBw : B ≤ w.heap.size) (hn : n ≤ 281474976710656) :
  Calls Tryz.prog 163 #[.pointer (some ⟨b, 0, none⟩), .int .i64 n] w fun e w' => e = .returned (.tuple #[]) ∧ (Lib.BuilderAt 212 5 B b (.pointer (some ⟨b, 0, none⟩)) [] w' ∧ Below B w w') ∧ ∃ p cap, w'.cell? ⟨b, 1, none⟩ = some (.slice p 0 cap) ∧ n ≤ cap := Any.Builder_Grow_fresh_cap Tryz.lays165 Tryz.Builder_Extra_165 B b n w hB hbk hBw hn
def Tryz.lays129_ren : Go.Shelf.Ren := ⟨fun | 129 => 216 | n => n, fun | 53 => 209 | 3 => 3 | 4 => 4 | 46 => 184 | 5 => 5 | 9 => 9 | n => n, fun | n => n⟩
theorem Tryz.lays129 : Go.Proofs.Lays.n129 Tryz.prog Tryz.lays129_ren := {
 mixed := by kernel_rfl
 f129 := Tryz.func216.trans (congrArg some (by kernel_rfl))
 t3 := Tryz.underlying3
 a3 := Tryz.isAgg3
 z3 := Tryz.sizeOf3
 v3 := Tryz.zeroValue3
 t4 := Tryz.underlying4
 a4 := Tryz.isAgg4
 z4 := Tryz.sizeOf4
 v4 := Tryz.zeroValue4
 t5 := Tryz.underlying5
 a5 := Tryz.isAgg5
 z5 := Tryz.sizeOf5
 v5 := Tryz.zeroValue5
 t9 := Tryz.underlying9
 a9 := Tryz.isAgg9
 z9 := Tryz.sizeOf9
 v9 := Tryz.zeroValue9
 t46 := Tryz.underlying184
 a46 := Tryz.isAgg184
 z46 := Tryz.sizeOf184
 v46 := Tryz.zeroValue184
 t53 := Tryz.underlying209
 a53 := Tryz.isAgg209
 z53 := Tryz.sizeOf209
 v53 := Tryz.zeroValue209 }
theorem Tryz.bits_Len64 (x : Int) (w : World) (h0 : 0 ≤ x) (h1 : x ≤ 18446744073709551615) :
  Calls Tryz.prog 216 #[.int .u64 x] w fun e w' => e = .returned (.int .i64 (Lib.bitLen x.toNat)) ∧ w' = w := Any.bits_Len64 Tryz.lays129 x w h0 h1
def Tryz.lays189_ren : Go.Shelf.Ren := ⟨fun | 189 => 139 | 125 => 160 | 257 => 185 | 128 => 215 | 129 => 216 | 294 => 223 | 295 => 224 | 296 => 225 | 297 => 226 | 298 => 227 | 299 => 228 | 216 => 229 | 300 => 230 | 301 => 231 | 328 => 249 | 329 => 243 | 330 => 244 | 331 => 250 | 332 => 251 | 215 => 252 | 343 => 280 | n => n, fun | 28 => 47 | 3 => 3 | 46 => 184 | 0 => 0 | 51 => 170 | 53 => 209 | 4 => 4 | 183 => 260 | 182 => 259 | 131 => 264 | 5 => 5 | 9 => 9 | 218 => 289 | 222 => 248 | 228 => 307 | 229 => 308 | n => n, fun | n => n⟩
theorem Tryz.lays189 : Go.Proofs.Lays.n189 Tryz.prog Tryz.lays189_ren := {
 mixed := by kernel_rfl
 f125 := Tryz.func160.trans (congrArg some (by kernel_rfl))
 f128 := Tryz.func215.trans (congrArg some (by kernel_rfl))
 f129 := Tryz.func216.trans (congrArg some (by kernel_rfl))
 f189 := Tryz.func139.trans (congrArg some (by kernel_rfl))
 f215 := Tryz.func252.trans (congrArg some (by kernel_rfl))
 f216 := Tryz.func229.trans (congrArg some (by kernel_rfl))
 f257 := Tryz.func185.trans (congrArg some (by kernel_rfl))
 f294 := Tryz.func223.trans (congrArg some (by kernel_rfl))
 f295 := Tryz.func224.trans (congrArg some (by kernel_rfl))
 f296 := Tryz.func225.trans (congrArg some (by kernel_rfl))
 f297 := Tryz.func226.trans (congrArg some (by kernel_rfl))
 f298 := Tryz.func227.trans (congrArg some (by kernel_rfl))
 f299 := Tryz.func228.trans (congrArg some (by kernel_rfl))
 f300 := Tryz.func230.trans (congrArg some (by kernel_rfl))
 f301 := Tryz.func231.trans (congrArg some (by kernel_rfl))
 f328 := Tryz.func249.trans (congrArg some (by kernel_rfl))
 f329 := Tryz.func243.trans (congrArg some (by kernel_rfl))
 f330 := Tryz.func244.trans (congrArg some (by kernel_rfl))
 f331 := Tryz.func250.trans (congrArg some (by kernel_rfl))
 f332 := Tryz.func251.trans (congrArg some (by kernel_rfl))
 f343 := Tryz.func280.trans (congrArg some (by kernel_rfl))
 t0 := Tryz.underlying0
 a0 := Tryz.isAgg0
 z0 := Tryz.sizeOf0
 v0 := Tryz.zeroValue0
 t3 := Tryz.underlying3
 a3 := Tryz.isAgg3
 z3 := Tryz.sizeOf3
 v3 := Tryz.zeroValue3
 t4 := Tryz.underlying4
 a4 := Tryz.isAgg4
 z4 := Tryz.sizeOf4
 v4 := Tryz.zeroValue4
 t5 := Tryz.underlying5
 a5 := Tryz.isAgg5
 z5 := Tryz.sizeOf5
 v5 := Tryz.zeroValue5
 t9 := Tryz.underlying9
 a9 := Tryz.isAgg9
 z9 := Tryz.sizeOf9
 v9 := Tryz.zeroValue9
 t28 := Tryz.underlying47
 a28 := Tryz.isAgg47
 z28 := Tryz.sizeOf47
 v28 := Tryz.zeroValue47
 t46 := Tryz.underlying184
 a46 := Tryz.isAgg184
 z46 := Tryz.sizeOf184
 v46 := Tryz.zeroValue184
 t51 := Tryz.underlying170
 a51 := Tryz.isAgg170
 z51 := Tryz.sizeOf170
 v51 := Tryz.zeroValue170
 t53 := Tryz.underlying209
 a53 := Tryz.isAgg209
 z53 := Tryz.sizeOf209
 v53 := Tryz.zeroValue209
 t131 := Tryz.underlying264
 a131 := Tryz.isAgg264
 z131 := Tryz.sizeOf264
 v131 := Tryz.zeroValue264
 t182 := Tryz.underlying259
 a182 := Tryz.isAgg259
 z182 := Tryz.sizeOf259
 v182 := Tryz.zeroValue259
 t183 := Tryz.underlying260
 a183 := Tryz.isAgg260
 z183 := Tryz.sizeOf260
 v183 := Tryz.zeroValue260
 t218 := Tryz.underlying289
 a218 := Tryz.isAgg289
 z218 := Tryz.sizeOf289
 v218 := Tryz.zeroValue289
 t222 := Tryz.underlying248
 a222 := Tryz.isAgg248
 z222 := Tryz.sizeOf248
 v222 := Tryz.zeroValue248
 t228 := Tryz.underlying307
 a228 := Tryz.isAgg307
 z228 := Tryz.sizeOf307
 v228 := Tryz.zeroValue307
 t229 := Tryz.underlying308
 a229 := Tryz.isAgg308
 z229 := Tryz.sizeOf308
 v229 := Tryz.zeroValue308 }
open Go.Sort Go.RowKit in
theorem Tryz.slices_Sort_int (blk off cap : Nat) (zs : List Int) (w : World) (hH : Holds (Value.int .i64) w blk off zs.toArray) (hblk : blk < w.heap.size) (hsz : zs.length < 4611686018427387904) :
  Calls Tryz.prog 139 #[.slice (some ⟨blk, off, none⟩) zs.length cap] w fun e w' =>
   e = .returned (.tuple #[]) ∧ ∃ n os, w' = grow (putRow (Value.int .i64) (Sort.ahead w n) blk off (zs.mergeSort fun x y => decide (x ≤ y)).toArray) os := Any.slices_Sort_int Tryz.lays189 blk off cap zs w hH hblk hsz
def Tryz.lays190_ren : Go.Shelf.Ren := ⟨fun | 190 => 190 | 125 => 160 | 258 => 235 | 128 => 215 | 129 => 216 | 302 => 270 | 303 => 271 | 304 => 272 | 305 => 273 | 306 => 274 | 307 => 275 | 308 => 276 | 309 => 277 | 310 => 278 | 333 => 284 | 329 => 243 | 330 => 244 | 334 => 285 | 335 => 286 | 336 => 287 | 344 => 288 | n => n, fun | 31 => 30 | 9 => 9 | 3 => 3 | 46 => 184 | 0 => 0 | 51 => 170 | 53 => 209 | 4 => 4 | 183 => 260 | 182 => 259 | 131 => 264 | 5 => 5 | 218 => 289 | 222 => 248 | 228 => 307 | 229 => 308 | n => n, fun | n => n⟩
theorem Tryz.lays190 : Go.Proofs.Lays.n190 Tryz.prog Tryz.lays190_ren := {
 mixed := by kernel_rfl
 f125 := Tryz.func160.trans (congrArg some (by kernel_rfl))
 f128 := Tryz.func215.trans (congrArg some (by kernel_rfl))
 f129 := Tryz.func216.trans (congrArg some (by kernel_rfl))
 f190 := Tryz.func190.trans (congrArg some (by kernel_rfl))
 f258 := Tryz.func235.trans (congrArg some (by kernel_rfl))
 f302 := Tryz.func270.trans (congrArg some (by kernel_rfl))
 f303 := Tryz.func271.trans (congrArg some (by kernel_rfl))
 f304 := Tryz.func272.trans (congrArg some (by kernel_rfl))
 f305 := Tryz.func273.trans (congrArg some (by kernel_rfl))
 f306 := Tryz.func274.trans (congrArg some (by kernel_rfl))
 f307 := Tryz.func275.trans (congrArg some (by kernel_rfl))
 f308 := Tryz.func276.trans (congrArg some (by kernel_rfl))
 f309 := Tryz.func277.trans (congrArg some (by kernel_rfl))
 f310 := Tryz.func278.trans (congrArg some (by kernel_rfl))
 f329 := Tryz.func243.trans (congrArg some (by kernel_rfl))
 f330 := Tryz.func244.trans (congrArg some (by kernel_rfl))
 f333 := Tryz.func284.trans (congrArg some (by kernel_rfl))
 f334 := Tryz.func285.trans (congrArg some (by kernel_rfl))
 f335 := Tryz.func286.trans (congrArg some (by kernel_rfl))
 f336 := Tryz.func287.trans (congrArg some (by kernel_rfl))
 f344 := Tryz.func288.trans (congrArg some (by kernel_rfl))
 t0 := Tryz.underlying0
 a0 := Tryz.isAgg0
 z0 := Tryz.sizeOf0
 v0 := Tryz.zeroValue0
 t3 := Tryz.underlying3
 a3 := Tryz.isAgg3
 z3 := Tryz.sizeOf3
 v3 := Tryz.zeroValue3
 t4 := Tryz.underlying4
 a4 := Tryz.isAgg4
 z4 := Tryz.sizeOf4
 v4 := Tryz.zeroValue4
 t5 := Tryz.underlying5
 a5 := Tryz.isAgg5
 z5 := Tryz.sizeOf5
 v5 := Tryz.zeroValue5
 t9 := Tryz.underlying9
 a9 := Tryz.isAgg9
 z9 := Tryz.sizeOf9
 v9 := Tryz.zeroValue9
 t31 := Tryz.underlying30
 a31 := Tryz.isAgg30
 z31 := Tryz.sizeOf30
 v31 := Tryz.zeroValue30
 t46 := Tryz.underlying184
 a46 := Tryz.isAgg184
 z46 := Tryz.sizeOf184
 v46 := Tryz.zeroValue184
 t51 := Tryz.underlying170
 a51 := Tryz.isAgg170
 z51 := Tryz.sizeOf170
 v51 := Tryz.zeroValue170
 t53 := Tryz.underlying209
 a53 := Tryz.isAgg209
 z53 := Tryz.sizeOf209
 v53 := Tryz.zeroValue209
 t131 := Tryz.underlying264
 a131 := Tryz.isAgg264
 z131 := Tryz.sizeOf264
 v131 := Tryz.zeroValue264
 t182 := Tryz.underlying259
 a182 := Tryz.isAgg259
 z182 := Tryz.sizeOf259
 v182 := Tryz.zeroValue259
 t183 := Tryz.underlying260
 a183 := Tryz.isAgg260
 z183 := Tryz.sizeOf260
 v183 := Tryz.zeroValue260
 t218 := Tryz.underlying289
 a218 := Tryz.isAgg289
 z218 := Tryz.sizeOf289
 v218 := Tryz.zeroValue289
 t222 := Tryz.underlying248
 a222 := Tryz.isAgg248
 z222 := Tryz.sizeOf248
 v222 := Tryz.zeroValue248
 t228 := Tryz.underlying307
 a228 := Tryz.isAgg307
 z228 := Tryz.sizeOf307
 v228 := Tryz.zeroValue307
 t229 := Tryz.underlying308
 a229 := Tryz.isAgg308
 z229 := Tryz.sizeOf308
 v229 := Tryz.zeroValue308 }
open Go.Sort Go.RowKit in
theorem Tryz.slices_Sort_string (blk off cap : Nat) (ss : List (List UInt8)) (w : World) (hH : Holds encStr w blk off ss.toArray) (hblk : blk < w.heap.size) (hsz : ss.length < 4611686018427387904) :
  Calls Tryz.prog 190 #[.slice (some ⟨blk, off, none⟩) ss.length cap] w fun e w' =>
   e = .returned (.tuple #[]) ∧ ∃ n os, w' = grow (putRow encStr (Sort.ahead w n) blk off (ss.mergeSort fun x y => decide (x ≤ y)).toArray) os := Any.slices_Sort_string Tryz.lays190 blk off cap ss w hH hblk hsz
def Tryz.laysNm216_ren : Go.Shelf.Ren := ⟨fun | 16 => 67 | n => n, fun | 24 => 30 | 9 => 9 | 4 => 4 | n => n, fun | n => n⟩
theorem Tryz.laysNm216 : Go.Proofs.Lays2.n16 Tryz.prog Tryz.laysNm216_ren := {
 mixed := by kernel_rfl
 f16 := Tryz.func67.trans (congrArg some (by kernel_rfl))
 t4 := Tryz.underlying4
 a4 := Tryz.isAgg4
 z4 := Tryz.sizeOf4
 v4 := Tryz.zeroValue4
 t9 := Tryz.underlying9
 a9 := Tryz.isAgg9
 z9 := Tryz.sizeOf9
 v9 := Tryz.zeroValue9
 t24 := Tryz.underlying30
 a24 := Tryz.isAgg30
 z24 := Tryz.sizeOf30
 v24 := Tryz.zeroValue30
 i9 := by kernel_rfl }
open Go.RowKit Go.Lib in
theorem Tryz.slices_Clone_string (b off n c : Nat) (zs : List ByteArray) (w : World) (hz : n ≤ zs.length) (hbig : n * 16 ≤ 140737488355328) (hc : ∀ j, j < zs.length → w.cell? ⟨b, off + j, none⟩ = some (.string (zs.getD j ByteArray.empty))) :
  Calls Tryz.prog 67 #[.slice (some ⟨b, off, none⟩) n c] w fun e w' => ∃ v', e = .returned v' ∧ w'.ownsRow w.heap.size 9 1 v' n ((zs.take n).map (Value.string)) ∧ v' ≠ .slice none 0 0 ∧ Below w.heap.size w w' := Any.slices_Clone_string Tryz.laysNm216 b off n c zs w hz hbig hc
open Go.RowKit Go.Lib in
theorem Tryz.slices_Clone_string_nil (n c : Nat) (w : World) :
  Calls Tryz.prog 67 #[.slice none n c] w fun e w' => e = .returned (.slice none 0 0) ∧ w' = w := Any.slices_Clone_string_nil Tryz.laysNm216 n c w
open Go.RowKit Go.Lib in
theorem Tryz.slices_Clone_string_zero (a : Addr) (c : Nat) (w : World) :
  Calls Tryz.prog 67 #[.slice (some a) 0 c] w fun e w' => ∃ v', e = .returned v' ∧ w'.ownsRow w.heap.size 9 1 v' 0 [] ∧ v' ≠ .slice none 0 0 ∧ Below w.heap.size w w' := Any.slices_Clone_string_zero Tryz.laysNm216 a c w
def Tryz.laysNm237_ren : Go.Shelf.Ren := ⟨fun | 37 => 252 | n => n, fun | 3 => 3 | 4 => 4 | n => n, fun | n => n⟩
theorem Tryz.laysNm237 : Go.Proofs.Lays2.n37 Tryz.prog Tryz.laysNm237_ren := {
 mixed := by kernel_rfl
 f37 := Tryz.func252.trans (congrArg some (by kernel_rfl))
 t3 := Tryz.underlying3
 a3 := Tryz.isAgg3
 z3 := Tryz.sizeOf3
 v3 := Tryz.zeroValue3
 t4 := Tryz.underlying4
 a4 := Tryz.isAgg4
 z4 := Tryz.sizeOf4
 v4 := Tryz.zeroValue4 }
open Go.RowKit Go.Lib in
theorem Tryz.cmp_isNaN_int2 (x : Int) (w : World) :
  Calls Tryz.prog 252 #[.int .i64 x] w fun e w' => e = .returned (.bool false) ∧ w' = w := Any.cmp_isNaN_int2 Tryz.laysNm237 x w
def Tryz.laysNm231_ren : Go.Shelf.Ren := ⟨fun | 31 => 229 | 37 => 252 | n => n, fun | 3 => 3 | 4 => 4 | n => n, fun | n => n⟩
theorem Tryz.laysNm231 : Go.Proofs.Lays2.n31 Tryz.prog Tryz.laysNm231_ren := {
 mixed := by kernel_rfl
 f31 := Tryz.func229.trans (congrArg some (by kernel_rfl))
 f37 := Tryz.func252.trans (congrArg some (by kernel_rfl))
 t3 := Tryz.underlying3
 a3 := Tryz.isAgg3
 z3 := Tryz.sizeOf3
 v3 := Tryz.zeroValue3
 t4 := Tryz.underlying4
 a4 := Tryz.isAgg4
 z4 := Tryz.sizeOf4
 v4 := Tryz.zeroValue4 }
open Go.RowKit Go.Lib in
theorem Tryz.cmp_Less_int2 (x y : Int) (w : World) :
  Calls Tryz.prog 229 #[.int .i64 x, .int .i64 y] w fun e w' => e = .returned (.bool (decide (x < y))) ∧ w' = w := Any.cmp_Less_int2 Tryz.laysNm231 x y w
open Go.RowKit Go.Sort in
theorem Tryz.slices_Sort_string_none (p : Option Addr) (cap : Nat) (w : World) :
  Calls Tryz.prog 190 #[.slice p 0 cap] w fun e w' => e = .returned (.tuple #[]) ∧ w' = w := Any.slices_Sort_string_none Tryz.lays190 p cap w
open Go.RowKit Go.Sort in
theorem Tryz.slices_Sort_int_none (p : Option Addr) (cap : Nat) (w : World) :
  Calls Tryz.prog 139 #[.slice p 0 cap] w fun e w' => e = .returned (.tuple #[]) ∧ w' = w := Any.slices_Sort_int_none Tryz.lays189 p cap w
def Tryz.laysSlE041_f67_ren : Go.Shelf.Ren := ⟨fun | 41 => 67 | n => n, fun | 22 => 30 | 23 => 9 | 4 => 4 | n => n, fun | n => n⟩
theorem Tryz.laysSlE041_f67 : Go.Proofs.SlLaysE0.n41 Tryz.prog Tryz.laysSlE041_f67_ren := {
 mixed := by kernel_rfl
 f41 := ⟨Tryz.f67.name, by decide, Tryz.func67.trans (congrArg some (by kernel_rfl))⟩
 t4 := Tryz.underlying4
 a4 := Tryz.isAgg4
 z4 := Tryz.sizeOf4
 v4 := Tryz.zeroValue4
 t22 := Tryz.underlying30
 a22 := Tryz.isAgg30
 z22 := Tryz.sizeOf30
 v22 := Tryz.zeroValue30 }
open Go.RowKit Go.Lib in
theorem Tryz.slices_Clone (i0 : TypeInfo) (z : Value) (size bytes : Nat) (hi : Tryz.prog.info? 9 = some i0) (hz0 : i0.zero = some z) (hz1 : i0.size = size) (hz2 : i0.bytes = bytes) (hzs : z.cells.size = size) (hsz : 0 < size) (z23 : ∀ w, (Go.sizeOf 9).run Tryz.prog w = .ok size w) (b off n c : Nat) (news : List Value) (w : World) (hl : news.length = n * size) (hn : n ≤ maxLen) (hbig : n * bytes ≤ 140737488355328) (hc : ∀ j u, news[j]? = some u → w.cell? ⟨b, off + j, none⟩ = some u) (h1 : ∀ u ∈ news, u.oneCell' = true) :
  Calls Tryz.prog 67 #[.slice (some ⟨b, off, none⟩) n c] w fun e w' => ∃ v', e = .returned v' ∧ w'.ownsRow w.heap.size 9 size v' n news ∧ v' ≠ .slice none 0 0 ∧ Below w.heap.size w w' := AnyE.slices_Clone Tryz.laysSlE041_f67 i0 z size bytes hi hz0 hz1 hz2 hzs hsz z23 b off n c news w hl hn hbig hc h1
open Go.RowKit Go.Lib in
theorem Tryz.slices_Clone_nil (n c : Nat) (w : World) :
  Calls Tryz.prog 67 #[.slice none n c] w fun e w' => e = .returned (.slice none 0 0) ∧ w' = w := AnyE.slices_Clone_nil Tryz.laysSlE041_f67 n c w
end Go.Proofs
namespace Go.Proofs.YtifcdjmcoibblaaGreatDoor
section
open Go.RowKit
section
variable {P:Program} {md:Region.Mode} {ops:Array Oper} {Q:Exit→Act→World→Prop} {S:World→Prop}
theorem hun {i fuel:Nat} {oi:Oper} {listed:Array Bool} {a:Act} {w:World} (hS:S w) (h:wpAnyH P md ops Q S fuel (listed.setIfInBounds i true) (a.put oi.dst undef) w) (hi:ops[i]?=some oi:=by rfl)
  (hs:Region.noSelect ops=true:=by kernel_rfl) (hf:Region.free md ops listed i=true:=by kernel_rfl) (hr:(Region.ready md ops listed).contains i=true:=by kernel_rfl)
  (hQ:∀c a w,Q (.panic c) (a.put oi.dst undef) w→Q (.panic c) a w:=by exact fun _ _ _ h=>h) (hw:Region.wanted oi (yielded ops a.tmps)=false:=by kernel_rfl):wpAnyH P md ops Q S (fuel+1) listed a w:=
 wpAnyH_take hi hs hf hr hQ (.inr ⟨hw,rfl⟩) hS h
theorem hye {i fuel:Nat} {oi:Oper} {v:Value} {listed:Array Bool} {a:Act} {w:World} (hS:S w) (hv:∀w,S w→(execOp a.eval oi).run P w = .ok (.value v) w) (h:wpAnyH P md ops Q S fuel (listed.setIfInBounds i true) (a.put oi.dst v) w) (hi:ops[i]?=some oi:=by rfl)
  (hs:Region.noSelect ops=true:=by kernel_rfl) (hf:Region.free md ops listed i=true:=by kernel_rfl) (hr:(Region.ready md ops listed).contains i=true:=by kernel_rfl)
  (hQ:∀c a w,Q (.panic c) (a.put oi.dst v) w→Q (.panic c) a w:=by exact fun _ _ _ h=>h) (hw:Region.wanted oi (yielded ops a.tmps)=true:=by kernel_rfl):wpAnyH P md ops Q S (fuel+1) listed a w:=
 wpAnyH_take hi hs hf hr hQ (.inl ⟨hw,hv⟩) hS h
theorem hyw {i fuel:Nat} {oi:Oper} {v:Value} {listed:Array Bool} {a:Act} {w:World} (hS:S w) (h:wpAnyH P md ops Q S fuel (listed.setIfInBounds i true) (a.put oi.dst v) w) (hi:ops[i]?=some oi:=by rfl)
  (hv:∀w,S w→(execOp a.eval oi).run P w = .ok (.value v) w:=by (intro w hSw;(try dsimp only at hSw);(first | (go_simp;done) | (go_simp;with_reducible rfl))))
  (hs:Region.noSelect ops=true:=by kernel_rfl) (hf:Region.free md ops listed i=true:=by kernel_rfl) (hr:(Region.ready md ops listed).contains i=true:=by kernel_rfl)
  (hQ:∀c a w,Q (.panic c) (a.put oi.dst v) w→Q (.panic c) a w:=by exact fun _ _ _ h=>h) (hw:Region.wanted oi (yielded ops a.tmps)=true:=by kernel_rfl):wpAnyH P md ops Q S (fuel+1) listed a w:=
 wpAnyH_take hi hs hf hr hQ (.inl ⟨hw,hv⟩) hS h
theorem hst {id:Nat} {a:Act} {w:World} (hm:P.follows .mixedOrders=true) (hS:S w.drew) (hQ:∀c (a:Act) (d:Nat) v w,Q (.panic c) (a.put (some d) v) w→Q (.panic c) a w)
  (h:RowKit.Hid (∀c (a:Act) (d:Nat) v w,Q (.panic c) (a.put (some d) v) w→Q (.panic c) a w)→S w.drew→wpAnyH P .any ops Q S ops.size (Array.replicate ops.size false) a w.drew):(Code.region id ops true).wp P Q a w:=
 wp_region_held_drew hm hS (fun q=>h (Hd hQ) q)
theorem hnq {i fuel d:Nat} {oi:Oper} {listed:Array Bool} {a:Act} {w:World} (HQ:RowKit.Hid (∀c (a:Act) (d:Nat) v w,Q (.panic c) (a.put (some d) v) w→Q (.panic c) a w)) (hS:S w) (h:wpAnyH P md ops Q S fuel (listed.setIfInBounds i true) (a.put oi.dst undef) w) (hi:ops[i]?=some oi:=by rfl)
  (hs:Region.noSelect ops=true:=by kernel_rfl) (hf:Region.free md ops listed i=true:=by kernel_rfl) (hr:(Region.ready md ops listed).contains i=true:=by kernel_rfl)
  (hw:Region.wanted oi (yielded ops a.tmps)=false:=by kernel_rfl) (hd:oi.dst=some d:=by rfl):wpAnyH P md ops Q S (fuel+1) listed a w:=
 wpAnyH_take hi hs hf hr (fun c b w q=>HQ.out c b d _ w (hd ▸ q)) (.inr ⟨hw,rfl⟩) hS h
theorem hyq {i fuel d:Nat} {oi:Oper} {v:Value} {listed:Array Bool} {a:Act} {w:World} (HQ:RowKit.Hid (∀c (a:Act) (d:Nat) v w,Q (.panic c) (a.put (some d) v) w→Q (.panic c) a w)) (hS:S w) (hv:∀w,S w→(execOp a.eval oi).run P w = .ok (.value v) w) (h:wpAnyH P md ops Q S fuel (listed.setIfInBounds i true) (a.put oi.dst v) w) (hi:ops[i]?=some oi:=by rfl)
  (hs:Region.noSelect ops=true:=by kernel_rfl) (hf:Region.free md ops listed i=true:=by kernel_rfl) (hr:(Region.ready md ops listed).contains i=true:=by kernel_rfl)
  (hw:Region.wanted oi (yielded ops a.tmps)=true:=by kernel_rfl) (hd:oi.dst=some d:=by rfl):wpAnyH P md ops Q S (fuel+1) listed a w:=
 wpAnyH_take hi hs hf hr (fun c b w q=>HQ.out c b d _ w (hd ▸ q)) (.inl ⟨hw,hv⟩) hS h
end
end
section
namespace Fk
open Go.RowKit
def sumS (s:ByteArray):ByteArray:=strB (shaW (bytesN s))
def catL:List ByteArray→ByteArray
 | []=>⟨#[]⟩
 | a :: l=>a ++ catL l
def leafD (s:ByteArray):ByteArray:=sumS (⟨#[0]⟩ ++ catL [s])
def nodeD (a b:ByteArray):ByteArray:=sumS (⟨#[1]⟩ ++ catL [a,b])
theorem sumS_size (s:ByteArray):(sumS s).size=32:=by unfold sumS;rw [strB_size,sha_len]
theorem join_flat (l:List (List UInt8)):Lib.join l []=l.flatten:=by
 cases l with
 | nil=>rfl
 | cons x r=>rw [Lib.join_cons];simp [Lib.joinTail]
theorem catL_data:∀l:List ByteArray,(catL l).data.toList=(l.map (·.data.toList)).flatten
 | []=>rfl
 | a :: l=>by
  show (a ++ catL l).data.toList=_;rw [ByteArray.data_append,Array.toList_append,catL_data l];rfl
theorem join_cat (l:List ByteArray):(⟨(Lib.join (l.map (·.data.toList)) (⟨#[]⟩:ByteArray).data.toList).toArray⟩:ByteArray)=catL l:=by
 have h:=catL_data l;rw [show (⟨#[]⟩:ByteArray).data.toList = [] from rfl,join_flat,←h]
theorem catL_size:∀l:List ByteArray,(catL l).size=(l.map (·.size)).foldr (· + ·) 0
 | []=>rfl
 | a :: l=>by
  show (a ++ catL l).size=_;rw [ByteArray.size_append,catL_size l];rfl
theorem join_len (l:List ByteArray):(Lib.join (l.map (·.data.toList)) (⟨#[]⟩:ByteArray).data.toList).length=(catL l).size:=by
 rw [show (⟨#[]⟩:ByteArray).data.toList = [] from rfl,join_flat,←catL_data];simp
theorem glob_below {w W:World} (hG:Glob w) (hb:Below w.heap.size w W):Glob W:=by
 obtain ⟨t,h⟩:=hG;exact ⟨t,(hb.block 0 (gE h).1).trans h⟩
theorem marked_any (m:ByteArray) (w:World):Calls Tryz.prog 192 #[.string m] w fun e w'=>e = .returned (.func (.func 236) #[] #[.pointer (some ⟨w.heap.size,0,none⟩)])∧w'=w.alloc (.cells #[.string m] 9):=by
 go_enter Tryz.func192,Tryz.ntmps192
 go_wp2
 go_ret;exact ⟨rfl,rfl⟩
theorem marked1_any (m:ByteArray) (b g n c:Nat) (xs:List ByteArray) (w:World) (hm:m.size≤10) (hb:w.cell? ⟨b,0,none⟩=some (.string m)) (hn:xs.length=n) (hc:n≤c) (hn2:n≤100) (hg:g<w.heap.size)
  (hcells:∀(j:Nat) x,xs[j]?=some x→w.cell? ⟨g,0+j,none⟩=some (.string x)) (hs:(catL xs).size≤900000) (hG:Glob w) :
  Calls Tryz.prog 236 #[.slice (some ⟨g,0,none⟩) n c,.pointer (some ⟨b,0,none⟩)] w fun e w'=>e = .returned (.string (sumS (m ++ catL xs)))∧Below w.heap.size w w':=by
 subst hn;have JN:=Hd (fun W (hW:Below w.heap.size w W)=>Tryz.strings_Join g 0 c xs ⟨#[]⟩ W (fun j x hx=>by rw [hW.cell (p:=⟨g,0+j,none⟩) hg];exact hcells j x hx) (Nat.lt_of_lt_of_le hg hW.size) (by omega) hc (by rw [join_len];omega));have HS:=Hd (show (m ++ catL xs).size≤1000000 from by rw [ByteArray.size_append];omega);have HGL:=Hd (fun W (hW:Below w.heap.size w W)=>glob_below hG hW);have hlt:b<w.heap.size:=World.block_lt_of_cell? _ _ hb;have KB:=Hd (show ∀W,Below w.heap.size w W→W.cell? ⟨b,0,none⟩=some (.string m) from fun W hW=>by rw [hW.cell (p:=⟨b,0,none⟩) hlt];exact hb);obtain ⟨cx,hcx⟩:∃cx,cx=catL xs:=⟨_,rfl⟩;have HCX:=Hd (join_cat xs);rw [←hcx] at HCX HS ⊢;have hnl:¬ 9223372036854775807<m.size+cx.size:=by have:=HS.out;rw [ByteArray.size_append] at this;omega
 clear hcells hG hb hs hcx;go_enter Tryz.func236,Tryz.ntmps236
 go_wp2_with fail
 refine wp_region_held_drew (S:=fun W=>W.cell? ⟨b,0,none⟩=some (.string m)) (by kernel_rfl) (KB.out _ (Below.refl _ w).drew) (fun hHeld=>?_);refine hyw (i:=0) hHeld ?_;try simp only [Act.put,zz]
 refine hyw (i:=1) hHeld ?_;try simp only [Act.put,zz]
 refine wpAnyH_ready (rs:=[2]) (by kernel_rfl) (by simp) ?_;refine AllReadyH.cons (o:=_) rfl (fun K hK=>?_) AllReadyH.nil;go_simp;go_at_call 106
 (with_reducible refine (JN.out _ (Below.refl _ w).drew).mono ?_)
 rw [HCX.out];rintro e w3 ⟨rfl,h3⟩;have B3:=Hd (show Below w.heap.size w w3 from (Below.refl _ w).drew.trans (h3.mono (Nat.le_refl _)));clear h3;clear hHeld;go_wp2_with fail
 refine hK.out _ _ (KB.out _ B3.out) (fun hHeld=>?_);clear hK K;try simp only [Act.put,zz]
 refine hyw (i:=3) hHeld ?_;try simp only [Act.put,zz]
 refine wpAnyH_ready (rs:=[4]) (by kernel_rfl) (by simp) ?_;refine AllReadyH.cons (o:=_) rfl (fun K hK=>?_) AllReadyH.nil;go_simp;go_at_call 72
 (with_reducible refine (sum_any _ _ HS.out (HGL.out _ B3.out)).mono ?_)
 rintro e w4 ⟨rfl,h4⟩;have B4:=Hd (B3.out.trans (h4.mono B3.out.size));clear h4;clear hHeld;go_wp2_with fail
 refine hK.out _ _ (KB.out _ B4.out) (fun hHeld=>?_);clear hK K;try simp only [Act.put,zz]
 refine hyw (i:=5) hHeld ?_;try simp only [Act.put,zz]
 refine wpAnyH_done (by kernel_rfl) ?_ _;go_wp2_with fail
 go_ret;exact ⟨rfl,B4.out⟩
theorem leaf_any (s:ByteArray) (w:World) (hs:s.size≤900000) (hG:Glob w) :
  Calls Tryz.prog 145 #[.string s] w fun e w'=>e = .returned (.string (leafD s))∧Below w.heap.size w w':=by
 have MK:=Hd (marked_any ⟨#[0]⟩ w);have B1:=Hd ((Below.refl w.heap.size w).alloc (Nat.le_refl _) (.cells #[.string ⟨#[0]⟩] 9));have B2:=Hd (B1.out.alloc (by simp) (.cells #[.string s] 9));have C1:=Hd (cells_at w [.string ⟨#[0]⟩] 9 w.heap.size rfl 0 _ rfl);have M1:=Hd (marked1_any ⟨#[0]⟩ w.heap.size (w.heap.size+1) 1 1 [s] ((w.alloc (.cells #[.string ⟨#[0]⟩] 9)).alloc (.cells #[.string s] 9)) (by decide)
  (cell_up C1.out _) rfl (Nat.le_refl _) (by omega) (by simp) (fun j x hx=>by
   have hj:j=0:=by have:=(List.getElem?_eq_some_iff.1 hx).1;simpa using this
   subst hj;cases hx;have:=cells_at (w.alloc (.cells #[.string ⟨#[0]⟩] 9)) [.string s] 9 (w.heap.size+1) (by simp) 0 _ rfl;exact this) (by rw [catL_size];simpa using hs) (glob_below hG B2.out))
 go_enter Tryz.func145,Tryz.ntmps145
 go_wp2_with (first
  | (go_at_call 192;(with_reducible refine MK.out.mono ?_);rintro e w1 ⟨rfl,rfl⟩)
  | (go_at_call 236;(with_reducible refine M1.out.mono ?_);rintro e w4 ⟨rfl,h4⟩;have B4:=Hd (B2.out.trans (h4.mono (by simp;omega)));clear h4))
 go_ret;exact ⟨rfl,B4.out⟩
theorem node_any (a c:ByteArray) (w:World) (ha:a.size≤400000) (hc:c.size≤400000) (hG:Glob w) :
  Calls Tryz.prog 146 #[.string a,.string c] w fun e w'=>e = .returned (.string (nodeD a c))∧Below w.heap.size w w':=by
 have MK:=Hd (marked_any ⟨#[1]⟩ w);have B1:=Hd ((Below.refl w.heap.size w).alloc (Nat.le_refl _) (.cells #[.string ⟨#[1]⟩] 9));have B2:=Hd (B1.out.alloc (by simp) (.cells #[.string a,.string c] 9));have C1:=Hd (cells_at w [.string ⟨#[1]⟩] 9 w.heap.size rfl 0 _ rfl);have M1:=Hd (marked1_any ⟨#[1]⟩ w.heap.size (w.heap.size+1) 2 2 [a,c] ((w.alloc (.cells #[.string ⟨#[1]⟩] 9)).alloc (.cells #[.string a,.string c] 9)) (by decide)
  (cell_up C1.out _) rfl (Nat.le_refl _) (by omega) (by simp) (fun j x hx=>by
   have hj:j=0∨j=1:=by have:=(List.getElem?_eq_some_iff.1 hx).1;simp at this;omega
   rcases hj with rfl | rfl
   ·cases hx;exact cells_at (w.alloc (.cells #[.string ⟨#[1]⟩] 9)) [.string a,.string c] 9 (w.heap.size+1) (by simp) 0 _ rfl
   cases hx;exact cells_at (w.alloc (.cells #[.string ⟨#[1]⟩] 9)) [.string a,.string c] 9 (w.heap.size+1) (by simp) 1 _ rfl) (by rw [catL_size];simp;omega) (glob_below hG B2.out))
 go_enter Tryz.func146,Tryz.ntmps146
 go_wp2_with (first
  | (go_at_call 192;(with_reducible refine MK.out.mono ?_);rintro e w1 ⟨rfl,rfl⟩)
  | (go_at_call 236;(with_reducible refine M1.out.mono ?_);rintro e w4 ⟨rfl,h4⟩;have B4:=Hd (B2.out.trans (h4.mono (by simp;omega)));clear h4))
 go_ret;exact ⟨rfl,B4.out⟩
end Fk
end
def goodI (w:World) (x:Value):Prop:=∃n:Int,x = .int .i64 n
def good2 (w:World) (x:Value):Prop:=∃a b:Int,x = .agg #[.int .i64 a,.int .i64 b]
def good4 (w:World) (x:Value):Prop:=∃a b c d:Int,x = .agg #[.int .i64 a,.int .i64 b,.int .i64 c,.int .i64 d]
theorem findNow_int (x:Int):∀(es:List MapEntry) (i:Nat),(∀e∈es,∃n:Int,e.key = .int .i64 n)→Instr.findNow (.int .i64) (.int .i64 x) es i=some (findE (.int .i64 x) es i)
 | [],i,_=>rfl
 | e :: es,i,h=>by
  obtain ⟨s,hs⟩:=h e (by simp);have ih:=findNow_int x es (i+1) (fun e he=>h e (by simp [he]));unfold Instr.findNow findE;rw [hs];by_cases hx:x=s
  ·subst hx;simp [Instr.sameNow]
  have hne:¬s=x:=fun h=>hx h.symm;have hb:(x == s)=false:=by simpa using hx
  simp [Instr.sameNow,hb,hne,ih]
theorem rawInt {P:Program} {K:TypeId} (hK:P.underlying K=some (.int .i64)):RawKey P K goodI where
 find:=fun w x es ⟨s,hs⟩ h=>by
  subst hs;simp [Instr.findKey,run_underlying hK,findNow_int s es 0 h]
 check:=fun w em x ⟨s,hs⟩=>by
  subst hs;show (Instr.checkKey em (9999+1) K _).run P w=_;unfold Instr.checkKey;simp only [Sem.run_bind,run_underlying hK,Result.andThen];rfl
 stays:=fun w x ⟨s,hs⟩=>by
  subst hs;simp [Instr.keyThatStays,Instr.sameBits]
theorem rawAgg {P:Program} {K:TypeId} {fs:Array Field} {good:World→Value→Prop} (hK:P.underlying K=some (.struct fs)) (hagg:∀w x,good w x→∃cs,x = .agg cs)
  (heq:∀w x y,good w x→good w y→∃r,(Op.equal K x y).run P w = .ok r w∧(r=true↔x=y)) (hchk:∀w em x,good w x→(Instr.checkKey em 10000 K x).run P w = .ok () w) (hst:∀w x,good w x→Instr.sameBits 10000 x x=true):RawKey P K good where
 find:=fun w x es hx h=>by
  obtain ⟨cs,rfl⟩:=hagg w x hx;have key:∀(es:List MapEntry) (i:Nat),(∀e∈es,good w e.key)→(Instr.findAsking K (.agg cs) es i).run P w = .ok (findE (.agg cs) es i) w:=by
   intro es;induction es with
   | nil=>intro i _;simp [Instr.findAsking,findE]
   | cons e es ih=>
    intro i he;obtain ⟨r,hq,hr⟩:=heq w (.agg cs) e.key hx (he e (by simp));unfold Instr.findAsking findE;simp only [Sem.run_bind,hq,Result.andThen_ok];by_cases e1:Value.agg cs=e.key
    ·have e2:e.key = .agg cs:=e1.symm;have e3:r=true:=hr.2 e1;simp [e2,e3]
    have e2:¬e.key = .agg cs:=fun q=>e1 q.symm;have e3:r=false:=by rcases r with _ | _;rfl;exact absurd (hr.1 rfl) e1
    simp [e2,e3,ih (i+1) (fun e he'=>he e (by simp [he']))]
  rcases es with _ | ⟨e,es⟩
  ·simp [Instr.findKey,run_underlying hK,Instr.findNow,findE]
  obtain ⟨ds,hd⟩:=hagg w e.key (h e (by simp));have hn:Instr.findNow (.struct fs) (.agg cs) (e :: es) 0=none:=by
   unfold Instr.findNow;rw [hd];simp [Instr.sameNow]
  simp only [Instr.findKey,Sem.run_bind,run_underlying hK,Result.andThen_ok,hn];exact key (e :: es) 0 h
 check:=hchk
 stays:=fun w x hx=>by simp [Instr.keyThatStays,hst w x hx]
theorem Tryz.infoI:(Tryz.prog.info? 3).map (fun i=>(i.zero,i.size,i.bytes))=some (some (.int .i64 0),1,8):=by kernel_rfl
def IntF (f:Field) (o:Nat):Prop:=f.name ≠ "_"∧f.type=3∧f.offset=o
theorem part_int {cs:Array Value} {o:Nat} {a:Int} (w:World) (h:cs[o]?=some (.int .i64 a)):(part 3 cs o).run Tryz.prog w = .ok (.int .i64 a) w:=by
 obtain ⟨i0,hi,hz0,hz1,hz2⟩:=info_parts Tryz.infoI;have hg:(isAgg 3).run Tryz.prog w = .ok false w:=by kernel_rfl
 simp [part,hg,sizeOf,typeInfo,hi,hz1,h]
theorem eqF_cons {xs ys:Array Value} {f:Field} {fs:List Field} {o:Nat} {a b:Int} {r:Bool} (w:World) (hf:IntF f o) (hx:xs[o]?=some (.int .i64 a)) (hy:ys[o]?=some (.int .i64 b)) (h:(Op.eqFields 9999 xs ys fs).run Tryz.prog w = .ok r w) :
  (Op.eqFields 9999 xs ys (f :: fs)).run Tryz.prog w = .ok ((a == b) && r) w:=by
 obtain ⟨n0,t0,o0⟩:=hf;have he:(Op.equalIn 9999 3 (.int .i64 a) (.int .i64 b)).run Tryz.prog w = .ok (a == b) w:=run_equalIn_int w 9998 3 .i64 .i64 a b Tryz.underlying3;unfold Op.eqFields;rw [if_pos n0,t0,o0];simp only [Sem.run_bind,part_int w hx,part_int w hy,Result.andThen_ok,he];by_cases q:a=b
 ·subst q;simp [h]
 have:(a == b)=false:=by simpa using q
 simp [this]
theorem chk_int (em:Bool) (a:Int) (w:World):(Instr.checkKey em 9999 3 (.int .i64 a)).run Tryz.prog w = .ok () w:=by
 show (Instr.checkKey em (9998+1) _ _).run Tryz.prog w=_;unfold Instr.checkKey;simp only [Sem.run_bind,run_underlying Tryz.underlying3,Result.andThen];rfl
theorem key2 {K:TypeId} {f0 f1:Field} (hK:Tryz.prog.underlying K=some (.struct #[f0,f1])) (h0:IntF f0 0) (h1:IntF f1 1) (hp:Tryz.prog.stoodInHeld K=false):RawKey Tryz.prog K good2:=by
 have hfo:Tryz.prog.fieldsOf K = #[f0,f1]:=by unfold Program.fieldsOf;rw [hK]
 refine rawAgg hK (fun w x ⟨a,b,h⟩=>⟨_,h⟩) ?_ ?_ ?_
 ·rintro w x y ⟨a,b,rfl⟩ ⟨c,d,rfl⟩;refine ⟨(a == c) && ((b == d) && true),?_,by simp⟩;show (Op.equalIn (9999+1) _ _ _).run Tryz.prog w=_;rw [run_equalIn_struct w 9999 _ _ _ (by rw [hfo];exact hK) hp,hfo];exact eqF_cons w h0 rfl rfl (eqF_cons w h1 rfl rfl rfl)
 ·rintro w em x ⟨a,b,rfl⟩;show (Instr.checkKey em (9999+1) K _).run Tryz.prog w=_;unfold Instr.checkKey;simp only [Sem.run_bind,run_underlying hK,Result.andThen_ok];rw [←Array.forIn_toList];simp only [List.forIn_cons,List.forIn_nil,h0.1,h1.1,h0.2.1,h1.2.1,h0.2.2,h1.2.2,ne_eq,not_false_eq_true,if_true,Sem.run_bind,part_int w (show (#[Value.int .i64 a,.int .i64 b]:Array Value)[0]?=some _ from rfl),part_int w (show (#[Value.int .i64 a,.int .i64 b]:Array Value)[1]?=some _ from rfl),Result.andThen_ok,chk_int,Sem.run_pure]
 rintro w x ⟨a,b,rfl⟩;simp [Instr.sameBits]
theorem key4 {K:TypeId} {f0 f1 f2 f3:Field} (hK:Tryz.prog.underlying K=some (.struct #[f0,f1,f2,f3])) (h0:IntF f0 0) (h1:IntF f1 1) (h2:IntF f2 2) (h3:IntF f3 3) (hp:Tryz.prog.stoodInHeld K=false):RawKey Tryz.prog K good4:=by
 have hfo:Tryz.prog.fieldsOf K = #[f0,f1,f2,f3]:=by unfold Program.fieldsOf;rw [hK]
 refine rawAgg hK (fun w x ⟨a,b,c,d,h⟩=>⟨_,h⟩) ?_ ?_ ?_
 ·rintro w x y ⟨a,b,c,d,rfl⟩ ⟨a',b',c',d',rfl⟩;refine ⟨(a == a') && ((b == b') && ((c == c') && ((d == d') && true))),?_,by simp [and_assoc]⟩;show (Op.equalIn (9999+1) _ _ _).run Tryz.prog w=_;rw [run_equalIn_struct w 9999 _ _ _ (by rw [hfo];exact hK) hp,hfo];exact eqF_cons w h0 rfl rfl (eqF_cons w h1 rfl rfl (eqF_cons w h2 rfl rfl (eqF_cons w h3 rfl rfl rfl)))
 ·rintro w em x ⟨a,b,c,d,rfl⟩;show (Instr.checkKey em (9999+1) K _).run Tryz.prog w=_;unfold Instr.checkKey;simp only [Sem.run_bind,run_underlying hK,Result.andThen_ok];rw [←Array.forIn_toList];simp only [List.forIn_cons,List.forIn_nil,h0.1,h1.1,h2.1,h3.1,h0.2.1,h1.2.1,h2.2.1,h3.2.1,h0.2.2,h1.2.2,h2.2.2,h3.2.2,ne_eq,not_false_eq_true,if_true,Sem.run_bind,part_int w (show (#[Value.int .i64 a,.int .i64 b,.int .i64 c,.int .i64 d]:Array Value)[0]?=some _ from rfl),part_int w (show (#[Value.int .i64 a,.int .i64 b,.int .i64 c,.int .i64 d]:Array Value)[1]?=some _ from rfl),part_int w (show (#[Value.int .i64 a,.int .i64 b,.int .i64 c,.int .i64 d]:Array Value)[2]?=some _ from rfl),part_int w (show (#[Value.int .i64 a,.int .i64 b,.int .i64 c,.int .i64 d]:Array Value)[3]?=some _ from rfl),Result.andThen_ok,chk_int,Sem.run_pure]
 rintro w x ⟨a,b,c,d,rfl⟩;simp [Instr.sameBits]
theorem keyI:RawKey Tryz.prog 3 goodI:=rawInt Tryz.underlying3
theorem keyS:RawKey Tryz.prog 9 goodS:=rawString Tryz.underlying9
theorem keyPlace:RawKey Tryz.prog 218 good2:=key2 Tryz.underlying218 ⟨by decide,rfl,rfl⟩ ⟨by decide,rfl,rfl⟩ (by kernel_rfl)
theorem keyQuest:RawKey Tryz.prog 165 good2:=key2 Tryz.underlying165 ⟨by decide,rfl,rfl⟩ ⟨by decide,rfl,rfl⟩ (by kernel_rfl)
theorem keyBal:RawKey Tryz.prog 238 good4:=key4 Tryz.underlying238 ⟨by decide,rfl,rfl⟩ ⟨by decide,rfl,rfl⟩ ⟨by decide,rfl,rfl⟩ ⟨by decide,rfl,rfl⟩ (by kernel_rfl)
end Go.Proofs.YtifcdjmcoibblaaGreatDoor
