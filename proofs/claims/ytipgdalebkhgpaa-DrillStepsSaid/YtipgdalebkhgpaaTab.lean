/-
  Facts on types, fields, builds, calls.
-/
import Derived.Test.YtipgdalebkhgpaaChecked
import Derived.Test.YtipgdalebkhgpaaFw23
set_option maxRecDepth 100000
set_option linter.unusedVariables false
namespace Go.Proofs.Ytipgdalebkhgpaa
open Go Go.RowKit Fw
theorem hmix : Try.prog.follows .mixedOrders = true := by kernel_rfl
theorem sl22 : slT Try.prog 22 46 9 72 = true := by kernel_rfl
theorem en11 : Enters Try.prog 11 := enters_of Try.func11 (by kernel_rfl)
theorem en12 : Enters Try.prog 12 := enters_of Try.func12 (by kernel_rfl)
theorem en13 : Enters Try.prog 13 := enters_of Try.func13 (by kernel_rfl)
theorem sl24 : slT Try.prog 24 32 8 64 = true := by kernel_rfl
theorem sl28 : slT Try.prog 28 34 8 64 = true := by kernel_rfl
theorem ag32 : aggN Try.prog 32 8 = true := by kernel_rfl
theorem ag34 : aggN Try.prog 34 8 = true := by kernel_rfl
theorem en14 : Enters Try.prog 14 := enters_of Try.func14 (by kernel_rfl)
theorem gt32 : eqT Try.prog 32 [.int .i64, .int .i64, .int .i64, .int .i64, .int .i64, .int .i64, .int .i64, .int .i64] := ⟨by kernel_rfl, by kernel_rfl⟩
theorem en3 : Enters Try.prog 3 := enters_of Try.func3 (by kernel_rfl)
theorem en15 : Enters Try.prog 15 := enters_of Try.func15 (by kernel_rfl)
theorem z32 : zeroL Try.prog 32 = some [(.int .i64 0), (.int .i64 0), (.int .i64 0), (.int .i64 0), (.int .i64 0), (.int .i64 0), (.int .i64 0), (.int .i64 0)] := by kernel_rfl
theorem sz32 : sizeB Try.prog 32 8 = true := by kernel_rfl
theorem bl4 : Try.prog.underlying 4 = some .bool := by kernel_rfl
theorem fa32_7 {W : World} {F : Nat → Prop} {H : List Ent} {b o : Nat} : Runs ⟨Try.prog, W, F⟩ H (vS (Instr.fieldAt 32 (.pointer (some ⟨b, o, none⟩)) 7)) (.pointer (some ⟨b, o + 7, none⟩)) := .of fun w => by kernel_rfl
theorem o2 : one Try.prog 2 = true := by kernel_rfl
theorem fa32_3 {W : World} {F : Nat → Prop} {H : List Ent} {b o : Nat} : Runs ⟨Try.prog, W, F⟩ H (vS (Instr.fieldAt 32 (.pointer (some ⟨b, o, none⟩)) 3)) (.pointer (some ⟨b, o + 3, none⟩)) := .of fun w => by kernel_rfl
theorem fa32_2 {W : World} {F : Nat → Prop} {H : List Ent} {b o : Nat} : Runs ⟨Try.prog, W, F⟩ H (vS (Instr.fieldAt 32 (.pointer (some ⟨b, o, none⟩)) 2)) (.pointer (some ⟨b, o + 2, none⟩)) := .of fun w => by kernel_rfl
theorem fa32_1 {W : World} {F : Nat → Prop} {H : List Ent} {b o : Nat} : Runs ⟨Try.prog, W, F⟩ H (vS (Instr.fieldAt 32 (.pointer (some ⟨b, o, none⟩)) 1)) (.pointer (some ⟨b, o + 1, none⟩)) := .of fun w => by kernel_rfl
theorem fa32_4 {W : World} {F : Nat → Prop} {H : List Ent} {b o : Nat} : Runs ⟨Try.prog, W, F⟩ H (vS (Instr.fieldAt 32 (.pointer (some ⟨b, o, none⟩)) 4)) (.pointer (some ⟨b, o + 4, none⟩)) := .of fun w => by kernel_rfl
theorem fa32_0 {W : World} {F : Nat → Prop} {H : List Ent} {b o : Nat} : Runs ⟨Try.prog, W, F⟩ H (vS (Instr.fieldAt 32 (.pointer (some ⟨b, o, none⟩)) 0)) (.pointer (some ⟨b, o, none⟩)) := .of fun w => by kernel_rfl
theorem fa32_6 {W : World} {F : Nat → Prop} {H : List Ent} {b o : Nat} : Runs ⟨Try.prog, W, F⟩ H (vS (Instr.fieldAt 32 (.pointer (some ⟨b, o, none⟩)) 6)) (.pointer (some ⟨b, o + 6, none⟩)) := .of fun w => by kernel_rfl
theorem o3 : one Try.prog 3 = true := by kernel_rfl
theorem en16 : Enters Try.prog 16 := enters_of Try.func16 (by kernel_rfl)
theorem fa32_5 {W : World} {F : Nat → Prop} {H : List Ent} {b o : Nat} : Runs ⟨Try.prog, W, F⟩ H (vS (Instr.fieldAt 32 (.pointer (some ⟨b, o, none⟩)) 5)) (.pointer (some ⟨b, o + 5, none⟩)) := .of fun w => by kernel_rfl
theorem en4 : Enters Try.prog 4 := enters_of Try.func4 (by kernel_rfl)
theorem en17 : Enters Try.prog 17 := enters_of Try.func17 (by kernel_rfl)
theorem z34 : zeroL Try.prog 34 = some [(.int .i64 0), (.int .i64 0), (.int .i64 0), (.int .i64 0), (.int .i64 0), (.int .i64 0), (.int .i64 0), (.int .i64 0)] := by kernel_rfl
theorem sz34 : sizeB Try.prog 34 8 = true := by kernel_rfl
theorem en18 : Enters Try.prog 18 := enters_of Try.func18 (by kernel_rfl)
theorem en19 : Enters Try.prog 19 := enters_of Try.func19 (by kernel_rfl)
theorem en20 : Enters Try.prog 20 := enters_of Try.func20 (by kernel_rfl)
theorem fa46_6 {W : World} {F : Nat → Prop} {H : List Ent} {b o : Nat} : Runs ⟨Try.prog, W, F⟩ H (vS (Instr.fieldAt 46 (.pointer (some ⟨b, o, none⟩)) 6)) (.pointer (some ⟨b, o + 6, none⟩)) := .of fun w => by kernel_rfl
theorem en21 : Enters Try.prog 21 := enters_of Try.func21 (by kernel_rfl)
theorem en5 : Enters Try.prog 5 := enters_of Try.func5 (by kernel_rfl)
theorem ag53 : aggN Try.prog 53 8 = true := by kernel_rfl
theorem en22 : Enters Try.prog 22 := enters_of Try.func22 (by kernel_rfl)
theorem en23 : Enters Try.prog 23 := enters_of Try.func23 (by kernel_rfl)
theorem en24 : Enters Try.prog 24 := enters_of Try.func24 (by kernel_rfl)
theorem bd60_0 {W : World} {F : Nat → Prop} {H : List Ent} {x0 : Int} : Runs ⟨Try.prog, W, F⟩ H (vS (Instr.build 60 #[(0, .int .u64 x0)])) (.agg [.int .u64 x0].toArray) := .of fun w => by kernel_rfl
theorem en25 : Enters Try.prog 25 := enters_of Try.func25 (by kernel_rfl)
theorem en26 : Enters Try.prog 26 := enters_of Try.func26 (by kernel_rfl)
theorem gt62 : eqT Try.prog 62 [.int .i64, .int .i64, .int .i64, .int .i64, .int .i64, .int .i64, .int .i64, .int .i64, .int .i64] := ⟨by kernel_rfl, by kernel_rfl⟩
theorem en27 : Enters Try.prog 27 := enters_of Try.func27 (by kernel_rfl)
theorem en28 : Enters Try.prog 28 := enters_of Try.func28 (by kernel_rfl)
theorem bd62 {W : World} {F : Nat → Prop} {H : List Ent} : Runs ⟨Try.prog, W, F⟩ H (vS (Instr.build 62 #[])) (.agg [(.int .i64 0), (.int .i64 0), (.int .i64 0), (.int .i64 0), (.int .i64 0), (.int .i64 0), (.int .i64 0), (.int .i64 0), (.int .i64 0)].toArray) := .of fun w => by kernel_rfl
theorem en6 : Enters Try.prog 6 := enters_of Try.func6 (by kernel_rfl)
theorem en29 : Enters Try.prog 29 := enters_of Try.func29 (by kernel_rfl)
theorem en30 : Enters Try.prog 30 := enters_of Try.func30 (by kernel_rfl)
theorem en31 : Enters Try.prog 31 := enters_of Try.func31 (by kernel_rfl)
theorem en32 : Enters Try.prog 32 := enters_of Try.func32 (by kernel_rfl)
theorem en33 : Enters Try.prog 33 := enters_of Try.func33 (by kernel_rfl)
theorem en7 : Enters Try.prog 7 := enters_of Try.func7 (by kernel_rfl)
theorem en34 : Enters Try.prog 34 := enters_of Try.func34 (by kernel_rfl)
theorem en35 : Enters Try.prog 35 := enters_of Try.func35 (by kernel_rfl)
theorem en36 : Enters Try.prog 36 := enters_of Try.func36 (by kernel_rfl)
theorem en37 : Enters Try.prog 37 := enters_of Try.func37 (by kernel_rfl)
theorem pt74 : Try.prog.underlying 74 = some (.pointer 143) := by kernel_rfl
theorem ag46 : aggN Try.prog 46 9 = true := by kernel_rfl
theorem en38 : Enters Try.prog 38 := enters_of Try.func38 (by kernel_rfl)
theorem en39 : Enters Try.prog 39 := enters_of Try.func39 (by kernel_rfl)
theorem fa83_1 {W : World} {F : Nat → Prop} {H : List Ent} {b o : Nat} : Runs ⟨Try.prog, W, F⟩ H (vS (Instr.fieldAt 83 (.pointer (some ⟨b, o, none⟩)) 1)) (.pointer (some ⟨b, o + 8, none⟩)) := .of fun w => by kernel_rfl
theorem o81 : one Try.prog 81 = true := by kernel_rfl
theorem sl81 : slT Try.prog 81 88 10 80 = true := by kernel_rfl
theorem en40 : Enters Try.prog 40 := enters_of Try.func40 (by kernel_rfl)
theorem z88 : zeroL Try.prog 88 = some [(.int .i64 0), (.int .i64 0), (.int .i64 0), (.int .i64 0), (.int .i64 0), (.int .i64 0), (.int .i64 0), (.int .i64 0), (.int .i64 0), (.int .i64 0)] := by kernel_rfl
theorem sz88 : sizeB Try.prog 88 10 = true := by kernel_rfl
theorem en41 : Enters Try.prog 41 := enters_of Try.func41 (by kernel_rfl)
theorem fa88_0 {W : World} {F : Nat → Prop} {H : List Ent} {b o : Nat} : Runs ⟨Try.prog, W, F⟩ H (vS (Instr.fieldAt 88 (.pointer (some ⟨b, o, none⟩)) 0)) (.pointer (some ⟨b, o, none⟩)) := .of fun w => by kernel_rfl
theorem en42 : Enters Try.prog 42 := enters_of Try.func42 (by kernel_rfl)
theorem fa88_1 {W : World} {F : Nat → Prop} {H : List Ent} {b o : Nat} : Runs ⟨Try.prog, W, F⟩ H (vS (Instr.fieldAt 88 (.pointer (some ⟨b, o, none⟩)) 1)) (.pointer (some ⟨b, o + 1, none⟩)) := .of fun w => by kernel_rfl
theorem ag85 : aggN Try.prog 85 2 = true := by kernel_rfl
theorem gt85 : eqT Try.prog 85 [.int .i64, .int .i64] := ⟨by kernel_rfl, by kernel_rfl⟩
theorem en43 : Enters Try.prog 43 := enters_of Try.func43 (by kernel_rfl)
theorem fa88_3 {W : World} {F : Nat → Prop} {H : List Ent} {b o : Nat} : Runs ⟨Try.prog, W, F⟩ H (vS (Instr.fieldAt 88 (.pointer (some ⟨b, o, none⟩)) 3)) (.pointer (some ⟨b, o + 5, none⟩)) := .of fun w => by kernel_rfl
theorem en44 : Enters Try.prog 44 := enters_of Try.func44 (by kernel_rfl)
theorem fa88_4 {W : World} {F : Nat → Prop} {H : List Ent} {b o : Nat} : Runs ⟨Try.prog, W, F⟩ H (vS (Instr.fieldAt 88 (.pointer (some ⟨b, o, none⟩)) 4)) (.pointer (some ⟨b, o + 6, none⟩)) := .of fun w => by kernel_rfl
theorem ag86 : aggN Try.prog 86 4 = true := by kernel_rfl
theorem en8 : Enters Try.prog 8 := enters_of Try.func8 (by kernel_rfl)
theorem bd85 {W : World} {F : Nat → Prop} {H : List Ent} : Runs ⟨Try.prog, W, F⟩ H (vS (Instr.build 85 #[])) (.agg [(.int .i64 0), (.int .i64 0)].toArray) := .of fun w => by kernel_rfl
theorem bd86 {W : World} {F : Nat → Prop} {H : List Ent} : Runs ⟨Try.prog, W, F⟩ H (vS (Instr.build 86 #[])) (.agg [(.int .i64 0), (.int .i64 0), (.int .i64 0), (.int .i64 0)].toArray) := .of fun w => by kernel_rfl
theorem en9 : Enters Try.prog 9 := enters_of Try.func9 (by kernel_rfl)
theorem en45 : Enters Try.prog 45 := enters_of Try.func45 (by kernel_rfl)
theorem en46 : Enters Try.prog 46 := enters_of Try.func46 (by kernel_rfl)
theorem en10 : Enters Try.prog 10 := enters_of Try.func10 (by kernel_rfl)
theorem bd46_0_6_7_3 {W : World} {F : Nat → Prop} {H : List Ent} {x0 : Int} {x1 : Int} {x2 : Int} {x3 : Int} : Runs ⟨Try.prog, W, F⟩ H (vS (Instr.build 46 #[(0, .int .i64 x0), (6, .int .i64 x1), (7, .int .i64 x2), (3, .int .i64 x3)])) (.agg [.int .i64 x0, (.int .i64 0), (.int .i64 0), .int .i64 x3, (.int .i64 0), (.int .i64 0), .int .i64 x1, .int .i64 x2, (.int .i64 0)].toArray) := .of fun w => by kernel_rfl
theorem bs22_2 {x0 : Int} {x1 : Int} {x2 : Int} {x3 : Int} {x4 : Int} {x5 : Int} {x6 : Int} {x7 : Int} {x8 : Int} {x9 : Int} {x10 : Int} {x11 : Int} {x12 : Int} {x13 : Int} {x14 : Int} {x15 : Int} {x16 : Int} {x17 : Int} : ∀ w, (vS (Instr.buildSlice 22 2 #[(0, .agg [.int .i64 x0, .int .i64 x1, .int .i64 x2, .int .i64 x3, .int .i64 x4, .int .i64 x5, .int .i64 x6, .int .i64 x7, .int .i64 x8].toArray), (1, .agg [.int .i64 x9, .int .i64 x10, .int .i64 x11, .int .i64 x12, .int .i64 x13, .int .i64 x14, .int .i64 x15, .int .i64 x16, .int .i64 x17].toArray)])).run Try.prog w = .ok (.value (.slice (some ⟨w.heap.size, 0, none⟩) 2 2)) (w.alloc (.cells [.int .i64 x0, .int .i64 x1, .int .i64 x2, .int .i64 x3, .int .i64 x4, .int .i64 x5, .int .i64 x6, .int .i64 x7, .int .i64 x8, .int .i64 x9, .int .i64 x10, .int .i64 x11, .int .i64 x12, .int .i64 x13, .int .i64 x14, .int .i64 x15, .int .i64 x16, .int .i64 x17].toArray 46 (0, 0))) := fun w => by kernel_rfl
theorem bd32_0_1_2_3_4_5_6_7 {W : World} {F : Nat → Prop} {H : List Ent} {x0 : Int} {x1 : Int} {x2 : Int} {x3 : Int} {x4 : Int} {x5 : Int} {x6 : Int} {x7 : Int} : Runs ⟨Try.prog, W, F⟩ H (vS (Instr.build 32 #[(0, .int .i64 x0), (1, .int .i64 x1), (2, .int .i64 x2), (3, .int .i64 x3), (4, .int .i64 x4), (5, .int .i64 x5), (6, .int .i64 x6), (7, .int .i64 x7)])) (.agg [.int .i64 x0, .int .i64 x1, .int .i64 x2, .int .i64 x3, .int .i64 x4, .int .i64 x5, .int .i64 x6, .int .i64 x7].toArray) := .of fun w => by kernel_rfl
theorem z24 : zeroL Try.prog 24 = some [(.slice none 0 0)] := by kernel_rfl
theorem sz24 : sizeB Try.prog 24 1 = true := by kernel_rfl
theorem z100 : zeroL Try.prog 100 = some [(.int .i64 0), (.int .i64 0), (.int .i64 0), (.int .i64 0), (.int .i64 0), (.int .i64 0), (.int .i64 0), (.int .i64 0), (.int .u64 0), (.int .u64 0)] := by kernel_rfl
theorem en47 : Enters Try.prog 47 := enters_of Try.func47 (by kernel_rfl)
theorem z46 : zeroL Try.prog 46 = some [(.int .i64 0), (.int .i64 0), (.int .i64 0), (.int .i64 0), (.int .i64 0), (.int .i64 0), (.int .i64 0), (.int .i64 0), (.int .i64 0)] := by kernel_rfl
theorem sz46 : sizeB Try.prog 46 9 = true := by kernel_rfl
theorem fa46_3 {W : World} {F : Nat → Prop} {H : List Ent} {b o : Nat} : Runs ⟨Try.prog, W, F⟩ H (vS (Instr.fieldAt 46 (.pointer (some ⟨b, o, none⟩)) 3)) (.pointer (some ⟨b, o + 3, none⟩)) := .of fun w => by kernel_rfl
theorem fa100_0 {W : World} {F : Nat → Prop} {H : List Ent} {b o : Nat} : Runs ⟨Try.prog, W, F⟩ H (vS (Instr.fieldAt 100 (.pointer (some ⟨b, o, none⟩)) 0)) (.pointer (some ⟨b, o, none⟩)) := .of fun w => by kernel_rfl
theorem en48 : Enters Try.prog 48 := enters_of Try.func48 (by kernel_rfl)
theorem o24 : one Try.prog 24 = true := by kernel_rfl
theorem en49 : Enters Try.prog 49 := enters_of Try.func49 (by kernel_rfl)
theorem bs24_1 {x0 : Int} {x1 : Int} {x2 : Int} {x3 : Int} {x4 : Int} {x5 : Int} {x6 : Int} {x7 : Int} : ∀ w, (vS (Instr.buildSlice 24 1 #[(0, .agg [.int .i64 x0, .int .i64 x1, .int .i64 x2, .int .i64 x3, .int .i64 x4, .int .i64 x5, .int .i64 x6, .int .i64 x7].toArray)])).run Try.prog w = .ok (.value (.slice (some ⟨w.heap.size, 0, none⟩) 1 1)) (w.alloc (.cells [.int .i64 x0, .int .i64 x1, .int .i64 x2, .int .i64 x3, .int .i64 x4, .int .i64 x5, .int .i64 x6, .int .i64 x7].toArray 32 (0, 0))) := fun w => by kernel_rfl
theorem bd100 {W : World} {F : Nat → Prop} {H : List Ent} : Runs ⟨Try.prog, W, F⟩ H (vS (Instr.build 100 #[])) (.agg [(.int .i64 0), (.int .i64 0), (.int .i64 0), (.int .i64 0), (.int .i64 0), (.int .i64 0), (.int .i64 0), (.int .i64 0), (.int .u64 0), (.int .u64 0)].toArray) := .of fun w => by kernel_rfl
theorem sz100 : sizeB Try.prog 100 10 = true := by kernel_rfl
theorem en50 : Enters Try.prog 50 := enters_of Try.func50 (by kernel_rfl)
theorem en51 : Enters Try.prog 51 := enters_of Try.func51 (by kernel_rfl)
theorem bs28_1 {x0 : Int} {x1 : Int} {x2 : Int} {x3 : Int} {x4 : Int} {x5 : Int} {x6 : Int} {x7 : Int} : ∀ w, (vS (Instr.buildSlice 28 1 #[(0, .agg [.int .i64 x0, .int .i64 x1, .int .i64 x2, .int .i64 x3, .int .i64 x4, .int .i64 x5, .int .i64 x6, .int .i64 x7].toArray)])).run Try.prog w = .ok (.value (.slice (some ⟨w.heap.size, 0, none⟩) 1 1)) (w.alloc (.cells [.int .i64 x0, .int .i64 x1, .int .i64 x2, .int .i64 x3, .int .i64 x4, .int .i64 x5, .int .i64 x6, .int .i64 x7].toArray 34 (0, 0))) := fun w => by kernel_rfl
theorem fa34_0 {W : World} {F : Nat → Prop} {H : List Ent} {b o : Nat} : Runs ⟨Try.prog, W, F⟩ H (vS (Instr.fieldAt 34 (.pointer (some ⟨b, o, none⟩)) 0)) (.pointer (some ⟨b, o, none⟩)) := .of fun w => by kernel_rfl
theorem fa34_1 {W : World} {F : Nat → Prop} {H : List Ent} {b o : Nat} : Runs ⟨Try.prog, W, F⟩ H (vS (Instr.fieldAt 34 (.pointer (some ⟨b, o, none⟩)) 1)) (.pointer (some ⟨b, o + 1, none⟩)) := .of fun w => by kernel_rfl
theorem fa34_2 {W : World} {F : Nat → Prop} {H : List Ent} {b o : Nat} : Runs ⟨Try.prog, W, F⟩ H (vS (Instr.fieldAt 34 (.pointer (some ⟨b, o, none⟩)) 2)) (.pointer (some ⟨b, o + 2, none⟩)) := .of fun w => by kernel_rfl
theorem fa34_3 {W : World} {F : Nat → Prop} {H : List Ent} {b o : Nat} : Runs ⟨Try.prog, W, F⟩ H (vS (Instr.fieldAt 34 (.pointer (some ⟨b, o, none⟩)) 3)) (.pointer (some ⟨b, o + 3, none⟩)) := .of fun w => by kernel_rfl
theorem fa34_4 {W : World} {F : Nat → Prop} {H : List Ent} {b o : Nat} : Runs ⟨Try.prog, W, F⟩ H (vS (Instr.fieldAt 34 (.pointer (some ⟨b, o, none⟩)) 4)) (.pointer (some ⟨b, o + 4, none⟩)) := .of fun w => by kernel_rfl
theorem fa34_5 {W : World} {F : Nat → Prop} {H : List Ent} {b o : Nat} : Runs ⟨Try.prog, W, F⟩ H (vS (Instr.fieldAt 34 (.pointer (some ⟨b, o, none⟩)) 5)) (.pointer (some ⟨b, o + 5, none⟩)) := .of fun w => by kernel_rfl
theorem fa34_6 {W : World} {F : Nat → Prop} {H : List Ent} {b o : Nat} : Runs ⟨Try.prog, W, F⟩ H (vS (Instr.fieldAt 34 (.pointer (some ⟨b, o, none⟩)) 6)) (.pointer (some ⟨b, o + 6, none⟩)) := .of fun w => by kernel_rfl
theorem fa34_7 {W : World} {F : Nat → Prop} {H : List Ent} {b o : Nat} : Runs ⟨Try.prog, W, F⟩ H (vS (Instr.fieldAt 34 (.pointer (some ⟨b, o, none⟩)) 7)) (.pointer (some ⟨b, o + 7, none⟩)) := .of fun w => by kernel_rfl
theorem bd32 {W : World} {F : Nat → Prop} {H : List Ent} : Runs ⟨Try.prog, W, F⟩ H (vS (Instr.build 32 #[])) (.agg [(.int .i64 0), (.int .i64 0), (.int .i64 0), (.int .i64 0), (.int .i64 0), (.int .i64 0), (.int .i64 0), (.int .i64 0)].toArray) := .of fun w => by kernel_rfl
theorem cv2_54 {W : World} {F : Nat → Prop} {H : List Ent} {x : Int} : Runs ⟨Try.prog, W, F⟩ H (vS (convert 2 54 (.int .i64 x))) (.int .u64 (IntKind.wrap .u64 x)) := .of fun w => by kernel_rfl
theorem en52 : Enters Try.prog 52 := enters_of Try.func52 (by kernel_rfl)
theorem en53 : Enters Try.prog 53 := enters_of Try.func53 (by kernel_rfl)
theorem z98 : zeroL Try.prog 98 = some [(.int .u64 0), (.int .u64 0)] := by kernel_rfl
theorem sz98 : sizeB Try.prog 98 2 = true := by kernel_rfl
theorem sz2 : sizeB Try.prog 2 1 = true := by kernel_rfl
theorem sz3 : sizeB Try.prog 3 1 = true := by kernel_rfl
theorem ag98 : aggN Try.prog 98 2 = true := by kernel_rfl
theorem en54 : Enters Try.prog 54 := enters_of Try.func54 (by kernel_rfl)
theorem bd34 {W : World} {F : Nat → Prop} {H : List Ent} : Runs ⟨Try.prog, W, F⟩ H (vS (Instr.build 34 #[])) (.agg [(.int .i64 0), (.int .i64 0), (.int .i64 0), (.int .i64 0), (.int .i64 0), (.int .i64 0), (.int .i64 0), (.int .i64 0)].toArray) := .of fun w => by kernel_rfl
theorem en56 : Enters Try.prog 56 := enters_of Try.func56 (by kernel_rfl)
theorem en55 : Enters Try.prog 55 := enters_of Try.func55 (by kernel_rfl)
theorem sl112 : slT Try.prog 112 2 1 8 = true := by kernel_rfl
theorem z43 : zeroL Try.prog 43 = some [(.map none)] := by kernel_rfl
theorem sz43 : sizeB Try.prog 43 1 = true := by kernel_rfl
theorem o43 : one Try.prog 43 = true := by kernel_rfl
theorem fa46_7 {W : World} {F : Nat → Prop} {H : List Ent} {b o : Nat} : Runs ⟨Try.prog, W, F⟩ H (vS (Instr.fieldAt 46 (.pointer (some ⟨b, o, none⟩)) 7)) (.pointer (some ⟨b, o + 7, none⟩)) := .of fun w => by kernel_rfl
theorem fa53_0 {W : World} {F : Nat → Prop} {H : List Ent} {b o : Nat} : Runs ⟨Try.prog, W, F⟩ H (vS (Instr.fieldAt 53 (.pointer (some ⟨b, o, none⟩)) 0)) (.pointer (some ⟨b, o, none⟩)) := .of fun w => by kernel_rfl
theorem o48 : one Try.prog 48 = true := by kernel_rfl
theorem sl48 : slT Try.prog 48 123 16 128 = true := by kernel_rfl
theorem fa53_1 {W : World} {F : Nat → Prop} {H : List Ent} {b o : Nat} : Runs ⟨Try.prog, W, F⟩ H (vS (Instr.fieldAt 53 (.pointer (some ⟨b, o, none⟩)) 1)) (.pointer (some ⟨b, o + 1, none⟩)) := .of fun w => by kernel_rfl
theorem o49 : one Try.prog 49 = true := by kernel_rfl
theorem sl49 : slT Try.prog 49 138 2 16 = true := by kernel_rfl
theorem en57 : Enters Try.prog 57 := enters_of Try.func57 (by kernel_rfl)
theorem bd119_0 {W : World} {F : Nat → Prop} {H : List Ent} {x0 : Int} : Runs ⟨Try.prog, W, F⟩ H (vS (Instr.build 119 #[(0, .int .u64 x0)])) (.agg [.int .u64 x0].toArray) := .of fun w => by kernel_rfl
theorem z62 : zeroL Try.prog 62 = some [(.int .i64 0), (.int .i64 0), (.int .i64 0), (.int .i64 0), (.int .i64 0), (.int .i64 0), (.int .i64 0), (.int .i64 0), (.int .i64 0)] := by kernel_rfl
theorem pt56 : Try.prog.underlying 56 = some (.pointer 119) := by kernel_rfl
theorem en58 : Enters Try.prog 58 := enters_of Try.func58 (by kernel_rfl)
theorem ag62 : aggN Try.prog 62 9 = true := by kernel_rfl
theorem sz62 : sizeB Try.prog 62 9 = true := by kernel_rfl
theorem fa62_0 {W : World} {F : Nat → Prop} {H : List Ent} {b o : Nat} : Runs ⟨Try.prog, W, F⟩ H (vS (Instr.fieldAt 62 (.pointer (some ⟨b, o, none⟩)) 0)) (.pointer (some ⟨b, o, none⟩)) := .of fun w => by kernel_rfl
theorem fa62_2 {W : World} {F : Nat → Prop} {H : List Ent} {b o : Nat} : Runs ⟨Try.prog, W, F⟩ H (vS (Instr.fieldAt 62 (.pointer (some ⟨b, o, none⟩)) 2)) (.pointer (some ⟨b, o + 2, none⟩)) := .of fun w => by kernel_rfl
theorem fa62_1 {W : World} {F : Nat → Prop} {H : List Ent} {b o : Nat} : Runs ⟨Try.prog, W, F⟩ H (vS (Instr.fieldAt 62 (.pointer (some ⟨b, o, none⟩)) 1)) (.pointer (some ⟨b, o + 1, none⟩)) := .of fun w => by kernel_rfl
theorem fa62_4 {W : World} {F : Nat → Prop} {H : List Ent} {b o : Nat} : Runs ⟨Try.prog, W, F⟩ H (vS (Instr.fieldAt 62 (.pointer (some ⟨b, o, none⟩)) 4)) (.pointer (some ⟨b, o + 4, none⟩)) := .of fun w => by kernel_rfl
theorem ag123 : aggN Try.prog 123 16 = true := by kernel_rfl
theorem en60 : Enters Try.prog 60 := enters_of Try.func60 (by kernel_rfl)
theorem en59 : Enters Try.prog 59 := enters_of Try.func59 (by kernel_rfl)
theorem fa62_6 {W : World} {F : Nat → Prop} {H : List Ent} {b o : Nat} : Runs ⟨Try.prog, W, F⟩ H (vS (Instr.fieldAt 62 (.pointer (some ⟨b, o, none⟩)) 6)) (.pointer (some ⟨b, o + 6, none⟩)) := .of fun w => by kernel_rfl
theorem fa62_7 {W : World} {F : Nat → Prop} {H : List Ent} {b o : Nat} : Runs ⟨Try.prog, W, F⟩ H (vS (Instr.fieldAt 62 (.pointer (some ⟨b, o, none⟩)) 7)) (.pointer (some ⟨b, o + 7, none⟩)) := .of fun w => by kernel_rfl
theorem fa62_3 {W : World} {F : Nat → Prop} {H : List Ent} {b o : Nat} : Runs ⟨Try.prog, W, F⟩ H (vS (Instr.fieldAt 62 (.pointer (some ⟨b, o, none⟩)) 3)) (.pointer (some ⟨b, o + 3, none⟩)) := .of fun w => by kernel_rfl
theorem en61 : Enters Try.prog 61 := enters_of Try.func61 (by kernel_rfl)
theorem fa62_5 {W : World} {F : Nat → Prop} {H : List Ent} {b o : Nat} : Runs ⟨Try.prog, W, F⟩ H (vS (Instr.fieldAt 62 (.pointer (some ⟨b, o, none⟩)) 5)) (.pointer (some ⟨b, o + 5, none⟩)) := .of fun w => by kernel_rfl
theorem bd125_0_1 {W : World} {F : Nat → Prop} {H : List Ent} {x0 : Int} {x1 : Int} : Runs ⟨Try.prog, W, F⟩ H (vS (Instr.build 125 #[(0, .int .i64 x0), (1, .int .i64 x1)])) (.agg [.int .i64 x0, .int .i64 x1, (.int .i64 0), (.int .i64 0), (.int .i64 0), (.int .i64 0)].toArray) := .of fun w => by kernel_rfl
theorem z125 : zeroL Try.prog 125 = some [(.int .i64 0), (.int .i64 0), (.int .i64 0), (.int .i64 0), (.int .i64 0), (.int .i64 0)] := by kernel_rfl
theorem sz125 : sizeB Try.prog 125 6 = true := by kernel_rfl
theorem ar125 : arrT Try.prog 125 6 3 1 = true := by kernel_rfl
theorem fa62_8 {W : World} {F : Nat → Prop} {H : List Ent} {b o : Nat} : Runs ⟨Try.prog, W, F⟩ H (vS (Instr.fieldAt 62 (.pointer (some ⟨b, o, none⟩)) 8)) (.pointer (some ⟨b, o + 8, none⟩)) := .of fun w => by kernel_rfl
theorem en62 : Enters Try.prog 62 := enters_of Try.func62 (by kernel_rfl)
theorem bd62_0_2 {W : World} {F : Nat → Prop} {H : List Ent} {x0 : Int} {x1 : Int} : Runs ⟨Try.prog, W, F⟩ H (vS (Instr.build 62 #[(0, .int .i64 x0), (2, .int .i64 x1)])) (.agg [.int .i64 x0, (.int .i64 0), .int .i64 x1, (.int .i64 0), (.int .i64 0), (.int .i64 0), (.int .i64 0), (.int .i64 0), (.int .i64 0)].toArray) := .of fun w => by kernel_rfl
theorem z123 : zeroL Try.prog 123 = some [(.int .i64 0), (.int .i64 0), (.int .i64 0), (.int .i64 0), (.int .i64 0), (.int .i64 0), (.int .i64 0), (.int .i64 0), (.int .i64 0), (.int .i64 0), (.int .i64 0), (.int .i64 0), (.int .i64 0), (.int .i64 0), (.int .i64 0), (.int .i64 0)] := by kernel_rfl
theorem sz123 : sizeB Try.prog 123 16 = true := by kernel_rfl
theorem fa123_1 {W : World} {F : Nat → Prop} {H : List Ent} {b o : Nat} : Runs ⟨Try.prog, W, F⟩ H (vS (Instr.fieldAt 123 (.pointer (some ⟨b, o, none⟩)) 1)) (.pointer (some ⟨b, o + 1, none⟩)) := .of fun w => by kernel_rfl
theorem fa123_0 {W : World} {F : Nat → Prop} {H : List Ent} {b o : Nat} : Runs ⟨Try.prog, W, F⟩ H (vS (Instr.fieldAt 123 (.pointer (some ⟨b, o, none⟩)) 0)) (.pointer (some ⟨b, o, none⟩)) := .of fun w => by kernel_rfl
theorem en63 : Enters Try.prog 63 := enters_of Try.func63 (by kernel_rfl)
theorem fa119_0 {W : World} {F : Nat → Prop} {H : List Ent} {b o : Nat} : Runs ⟨Try.prog, W, F⟩ H (vS (Instr.fieldAt 119 (.pointer (some ⟨b, o, none⟩)) 0)) (.pointer (some ⟨b, o, none⟩)) := .of fun w => by kernel_rfl
theorem o54 : one Try.prog 54 = true := by kernel_rfl
theorem sz54 : sizeB Try.prog 54 1 = true := by kernel_rfl
theorem cv54_2 {W : World} {F : Nat → Prop} {H : List Ent} {x : Int} : Runs ⟨Try.prog, W, F⟩ H (vS (convert 54 2 (.int .u64 x))) (.int .i64 (IntKind.wrap .i64 x)) := .of fun w => by kernel_rfl
theorem fa60_0 {W : World} {F : Nat → Prop} {H : List Ent} {b o : Nat} : Runs ⟨Try.prog, W, F⟩ H (vS (Instr.fieldAt 60 (.pointer (some ⟨b, o, none⟩)) 0)) (.pointer (some ⟨b, o, none⟩)) := .of fun w => by kernel_rfl
theorem bd132_0_2 {W : World} {F : Nat → Prop} {H : List Ent} {x0 : Int} {x1 : Int} : Runs ⟨Try.prog, W, F⟩ H (vS (Instr.build 132 #[(0, .int .i64 x0), (2, .int .i64 x1)])) (.agg [.int .i64 x0, (.int .i64 0), .int .i64 x1, (.slice none 0 0)].toArray) := .of fun w => by kernel_rfl
theorem bs67_1 {x0 : Int} {x1 : Int} {x2 : Int} {x3 : Option Addr} {x4 : Nat} {x5 : Nat} : ∀ w, (vS (Instr.buildSlice 67 1 #[(0, .agg [.int .i64 x0, .int .i64 x1, .int .i64 x2, .slice x3 x4 x5].toArray)])).run Try.prog w = .ok (.value (.slice (some ⟨w.heap.size, 0, none⟩) 1 1)) (w.alloc (.cells [.int .i64 x0, .int .i64 x1, .int .i64 x2, .slice x3 x4 x5].toArray 132 (0, 0))) := fun w => by kernel_rfl
theorem sl67 : slT Try.prog 67 132 4 48 = true := by kernel_rfl
theorem en64 : Enters Try.prog 64 := enters_of Try.func64 (by kernel_rfl)
theorem en65 : Enters Try.prog 65 := enters_of Try.func65 (by kernel_rfl)
theorem z132 : zeroL Try.prog 132 = some [(.int .i64 0), (.int .i64 0), (.int .i64 0), (.slice none 0 0)] := by kernel_rfl
theorem sz132 : sizeB Try.prog 132 4 = true := by kernel_rfl
theorem ag132 : aggN Try.prog 132 4 = true := by kernel_rfl
theorem bd132 {W : World} {F : Nat → Prop} {H : List Ent} : Runs ⟨Try.prog, W, F⟩ H (vS (Instr.build 132 #[])) (.agg [(.int .i64 0), (.int .i64 0), (.int .i64 0), (.slice none 0 0)].toArray) := .of fun w => by kernel_rfl
theorem en66 : Enters Try.prog 66 := enters_of Try.func66 (by kernel_rfl)
theorem fa53_2 {W : World} {F : Nat → Prop} {H : List Ent} {b o : Nat} : Runs ⟨Try.prog, W, F⟩ H (vS (Instr.fieldAt 53 (.pointer (some ⟨b, o, none⟩)) 2)) (.pointer (some ⟨b, o + 2, none⟩)) := .of fun w => by kernel_rfl
theorem en67 : Enters Try.prog 67 := enters_of Try.func67 (by kernel_rfl)
theorem fa138_0 {W : World} {F : Nat → Prop} {H : List Ent} {b o : Nat} : Runs ⟨Try.prog, W, F⟩ H (vS (Instr.fieldAt 138 (.pointer (some ⟨b, o, none⟩)) 0)) (.pointer (some ⟨b, o, none⟩)) := .of fun w => by kernel_rfl
theorem fa138_1 {W : World} {F : Nat → Prop} {H : List Ent} {b o : Nat} : Runs ⟨Try.prog, W, F⟩ H (vS (Instr.fieldAt 138 (.pointer (some ⟨b, o, none⟩)) 1)) (.pointer (some ⟨b, o + 1, none⟩)) := .of fun w => by kernel_rfl
theorem fa132_0 {W : World} {F : Nat → Prop} {H : List Ent} {b o : Nat} : Runs ⟨Try.prog, W, F⟩ H (vS (Instr.fieldAt 132 (.pointer (some ⟨b, o, none⟩)) 0)) (.pointer (some ⟨b, o, none⟩)) := .of fun w => by kernel_rfl
theorem fa132_1 {W : World} {F : Nat → Prop} {H : List Ent} {b o : Nat} : Runs ⟨Try.prog, W, F⟩ H (vS (Instr.fieldAt 132 (.pointer (some ⟨b, o, none⟩)) 1)) (.pointer (some ⟨b, o + 1, none⟩)) := .of fun w => by kernel_rfl
theorem fa132_2 {W : World} {F : Nat → Prop} {H : List Ent} {b o : Nat} : Runs ⟨Try.prog, W, F⟩ H (vS (Instr.fieldAt 132 (.pointer (some ⟨b, o, none⟩)) 2)) (.pointer (some ⟨b, o + 2, none⟩)) := .of fun w => by kernel_rfl
theorem fa132_3 {W : World} {F : Nat → Prop} {H : List Ent} {b o : Nat} : Runs ⟨Try.prog, W, F⟩ H (vS (Instr.fieldAt 132 (.pointer (some ⟨b, o, none⟩)) 3)) (.pointer (some ⟨b, o + 3, none⟩)) := .of fun w => by kernel_rfl
theorem o130 : one Try.prog 130 = true := by kernel_rfl
theorem en69 : Enters Try.prog 69 := enters_of Try.func69 (by kernel_rfl)
theorem fa46_2 {W : World} {F : Nat → Prop} {H : List Ent} {b o : Nat} : Runs ⟨Try.prog, W, F⟩ H (vS (Instr.fieldAt 46 (.pointer (some ⟨b, o, none⟩)) 2)) (.pointer (some ⟨b, o + 2, none⟩)) := .of fun w => by kernel_rfl
theorem bd46_0_2_3_8 {W : World} {F : Nat → Prop} {H : List Ent} {x0 : Int} {x1 : Int} {x2 : Int} {x3 : Int} : Runs ⟨Try.prog, W, F⟩ H (vS (Instr.build 46 #[(0, .int .i64 x0), (2, .int .i64 x1), (3, .int .i64 x2), (8, .int .i64 x3)])) (.agg [.int .i64 x0, (.int .i64 0), .int .i64 x1, .int .i64 x2, (.int .i64 0), (.int .i64 0), (.int .i64 0), (.int .i64 0), .int .i64 x3].toArray) := .of fun w => by kernel_rfl
theorem bd46_0_2_3_7_6_8 {W : World} {F : Nat → Prop} {H : List Ent} {x0 : Int} {x1 : Int} {x2 : Int} {x3 : Int} {x4 : Int} {x5 : Int} : Runs ⟨Try.prog, W, F⟩ H (vS (Instr.build 46 #[(0, .int .i64 x0), (2, .int .i64 x1), (3, .int .i64 x2), (7, .int .i64 x3), (6, .int .i64 x4), (8, .int .i64 x5)])) (.agg [.int .i64 x0, (.int .i64 0), .int .i64 x1, .int .i64 x2, (.int .i64 0), (.int .i64 0), .int .i64 x4, .int .i64 x3, .int .i64 x5].toArray) := .of fun w => by kernel_rfl
theorem en70 : Enters Try.prog 70 := enters_of Try.func70 (by kernel_rfl)
theorem bd143 {W : World} {F : Nat → Prop} {H : List Ent} : Runs ⟨Try.prog, W, F⟩ H (vS (Instr.build 143 #[])) (.agg [(.slice none 0 0), (.int .i64 0), (.int .i64 0)].toArray) := .of fun w => by kernel_rfl
theorem fa143_0 {W : World} {F : Nat → Prop} {H : List Ent} {b o : Nat} : Runs ⟨Try.prog, W, F⟩ H (vS (Instr.fieldAt 143 (.pointer (some ⟨b, o, none⟩)) 0)) (.pointer (some ⟨b, o, none⟩)) := .of fun w => by kernel_rfl
theorem o141 : one Try.prog 141 = true := by kernel_rfl
theorem bd145_0 {W : World} {F : Nat → Prop} {H : List Ent} {x0 : Int} {x1 : Int} {x2 : Int} {x3 : Int} {x4 : Int} {x5 : Int} {x6 : Int} {x7 : Int} {x8 : Int} {x9 : Int} {x10 : Int} {x11 : Int} {x12 : Int} {x13 : Int} {x14 : Int} {x15 : Int} : Runs ⟨Try.prog, W, F⟩ H (vS (Instr.build 145 #[(0, .agg [.int .i64 x0, .int .i64 x1, .int .i64 x2, .int .i64 x3, .int .i64 x4, .int .i64 x5, .int .i64 x6, .int .i64 x7, .int .i64 x8, .int .i64 x9, .int .i64 x10, .int .i64 x11, .int .i64 x12, .int .i64 x13, .int .i64 x14, .int .i64 x15].toArray)])) (.agg [.int .i64 x0, .int .i64 x1, .int .i64 x2, .int .i64 x3, .int .i64 x4, .int .i64 x5, .int .i64 x6, .int .i64 x7, .int .i64 x8, .int .i64 x9, .int .i64 x10, .int .i64 x11, .int .i64 x12, .int .i64 x13, .int .i64 x14, .int .i64 x15, (.int .i64 0), (.int .i64 0), (.int .i64 0), (.int .i64 0), (.int .i64 0), (.int .i64 0), (.int .i64 0), (.int .i64 0), (.int .i64 0), (.int .i64 0)].toArray) := .of fun w => by kernel_rfl
theorem bs141_1 {x0 : Int} {x1 : Int} {x2 : Int} {x3 : Int} {x4 : Int} {x5 : Int} {x6 : Int} {x7 : Int} {x8 : Int} {x9 : Int} {x10 : Int} {x11 : Int} {x12 : Int} {x13 : Int} {x14 : Int} {x15 : Int} {x16 : Int} {x17 : Int} {x18 : Int} {x19 : Int} {x20 : Int} {x21 : Int} {x22 : Int} {x23 : Int} {x24 : Int} {x25 : Int} : ∀ w, (vS (Instr.buildSlice 141 1 #[(0, .agg [.int .i64 x0, .int .i64 x1, .int .i64 x2, .int .i64 x3, .int .i64 x4, .int .i64 x5, .int .i64 x6, .int .i64 x7, .int .i64 x8, .int .i64 x9, .int .i64 x10, .int .i64 x11, .int .i64 x12, .int .i64 x13, .int .i64 x14, .int .i64 x15, .int .i64 x16, .int .i64 x17, .int .i64 x18, .int .i64 x19, .int .i64 x20, .int .i64 x21, .int .i64 x22, .int .i64 x23, .int .i64 x24, .int .i64 x25].toArray)])).run Try.prog w = .ok (.value (.slice (some ⟨w.heap.size, 0, none⟩) 1 1)) (w.alloc (.cells [.int .i64 x0, .int .i64 x1, .int .i64 x2, .int .i64 x3, .int .i64 x4, .int .i64 x5, .int .i64 x6, .int .i64 x7, .int .i64 x8, .int .i64 x9, .int .i64 x10, .int .i64 x11, .int .i64 x12, .int .i64 x13, .int .i64 x14, .int .i64 x15, .int .i64 x16, .int .i64 x17, .int .i64 x18, .int .i64 x19, .int .i64 x20, .int .i64 x21, .int .i64 x22, .int .i64 x23, .int .i64 x24, .int .i64 x25].toArray 145 (0, 0))) := fun w => by kernel_rfl
theorem sl141 : slT Try.prog 141 145 26 208 = true := by kernel_rfl
theorem sz141 : sizeB Try.prog 141 1 = true := by kernel_rfl
theorem bd83_0_1 {W : World} {F : Nat → Prop} {H : List Ent} {x0 : Option Addr} {x1 : Nat} {x2 : Nat} {x3 : Option Addr} {x4 : Nat} {x5 : Nat} {x6 : Int} {x7 : Int} {x8 : Int} {x9 : Int} {x10 : Int} {x11 : Int} {x12 : Option Addr} {x13 : Nat} {x14 : Nat} : Runs ⟨Try.prog, W, F⟩ H (vS (Instr.build 83 #[(0, .agg [.slice x0 x1 x2, .slice x3 x4 x5, .int .i64 x6, .int .i64 x7, .int .i64 x8, .int .i64 x9, .int .i64 x10, .int .i64 x11].toArray), (1, .slice x12 x13 x14)])) (.agg [.slice x0 x1 x2, .slice x3 x4 x5, .int .i64 x6, .int .i64 x7, .int .i64 x8, .int .i64 x9, .int .i64 x10, .int .i64 x11, .slice x12 x13 x14, (.int .i64 0), (.int .i64 0)].toArray) := .of fun w => by kernel_rfl
theorem en71 : Enters Try.prog 71 := enters_of Try.func71 (by kernel_rfl)
theorem fa143_1 {W : World} {F : Nat → Prop} {H : List Ent} {b o : Nat} : Runs ⟨Try.prog, W, F⟩ H (vS (Instr.fieldAt 143 (.pointer (some ⟨b, o, none⟩)) 1)) (.pointer (some ⟨b, o + 1, none⟩)) := .of fun w => by kernel_rfl
theorem fa143_2 {W : World} {F : Nat → Prop} {H : List Ent} {b o : Nat} : Runs ⟨Try.prog, W, F⟩ H (vS (Instr.fieldAt 143 (.pointer (some ⟨b, o, none⟩)) 2)) (.pointer (some ⟨b, o + 2, none⟩)) := .of fun w => by kernel_rfl
theorem fa46_1 {W : World} {F : Nat → Prop} {H : List Ent} {b o : Nat} : Runs ⟨Try.prog, W, F⟩ H (vS (Instr.fieldAt 46 (.pointer (some ⟨b, o, none⟩)) 1)) (.pointer (some ⟨b, o + 1, none⟩)) := .of fun w => by kernel_rfl
theorem en72 : Enters Try.prog 72 := enters_of Try.func72 (by kernel_rfl)
theorem fa46_0 {W : World} {F : Nat → Prop} {H : List Ent} {b o : Nat} : Runs ⟨Try.prog, W, F⟩ H (vS (Instr.fieldAt 46 (.pointer (some ⟨b, o, none⟩)) 0)) (.pointer (some ⟨b, o, none⟩)) := .of fun w => by kernel_rfl
theorem en73 : Enters Try.prog 73 := enters_of Try.func73 (by kernel_rfl)
theorem fa145_5 {W : World} {F : Nat → Prop} {H : List Ent} {b o : Nat} : Runs ⟨Try.prog, W, F⟩ H (vS (Instr.fieldAt 145 (.pointer (some ⟨b, o, none⟩)) 5)) (.pointer (some ⟨b, o + 22, none⟩)) := .of fun w => by kernel_rfl
theorem ar86 : arrT Try.prog 86 4 2 1 = true := by kernel_rfl
theorem ia86_0 {W : World} {F : Nat → Prop} {H : List Ent} {b o : Nat} : Runs ⟨Try.prog, W, F⟩ H (vS (Instr.indexAt 86 (.pointer (some ⟨b, o, none⟩)) (.int .i64 0))) (.pointer (some ⟨b, o, none⟩)) := .of fun w => by kernel_rfl
theorem fa46_8 {W : World} {F : Nat → Prop} {H : List Ent} {b o : Nat} : Runs ⟨Try.prog, W, F⟩ H (vS (Instr.fieldAt 46 (.pointer (some ⟨b, o, none⟩)) 8)) (.pointer (some ⟨b, o + 8, none⟩)) := .of fun w => by kernel_rfl
theorem bd85_0_1 {W : World} {F : Nat → Prop} {H : List Ent} {x0 : Int} {x1 : Int} : Runs ⟨Try.prog, W, F⟩ H (vS (Instr.build 85 #[(0, .int .i64 x0), (1, .int .i64 x1)])) (.agg [.int .i64 x0, .int .i64 x1].toArray) := .of fun w => by kernel_rfl
theorem fa145_2 {W : World} {F : Nat → Prop} {H : List Ent} {b o : Nat} : Runs ⟨Try.prog, W, F⟩ H (vS (Instr.fieldAt 145 (.pointer (some ⟨b, o, none⟩)) 2)) (.pointer (some ⟨b, o + 17, none⟩)) := .of fun w => by kernel_rfl
theorem sz85 : sizeB Try.prog 85 2 = true := by kernel_rfl
theorem fa145_3 {W : World} {F : Nat → Prop} {H : List Ent} {b o : Nat} : Runs ⟨Try.prog, W, F⟩ H (vS (Instr.fieldAt 145 (.pointer (some ⟨b, o, none⟩)) 3)) (.pointer (some ⟨b, o + 19, none⟩)) := .of fun w => by kernel_rfl
theorem en74 : Enters Try.prog 74 := enters_of Try.func74 (by kernel_rfl)
theorem en75 : Enters Try.prog 75 := enters_of Try.func75 (by kernel_rfl)
theorem fa83_2 {W : World} {F : Nat → Prop} {H : List Ent} {b o : Nat} : Runs ⟨Try.prog, W, F⟩ H (vS (Instr.fieldAt 83 (.pointer (some ⟨b, o, none⟩)) 2)) (.pointer (some ⟨b, o + 9, none⟩)) := .of fun w => by kernel_rfl
theorem fa83_3 {W : World} {F : Nat → Prop} {H : List Ent} {b o : Nat} : Runs ⟨Try.prog, W, F⟩ H (vS (Instr.fieldAt 83 (.pointer (some ⟨b, o, none⟩)) 3)) (.pointer (some ⟨b, o + 10, none⟩)) := .of fun w => by kernel_rfl
theorem ag88 : aggN Try.prog 88 10 = true := by kernel_rfl
theorem fa88_2 {W : World} {F : Nat → Prop} {H : List Ent} {b o : Nat} : Runs ⟨Try.prog, W, F⟩ H (vS (Instr.fieldAt 88 (.pointer (some ⟨b, o, none⟩)) 2)) (.pointer (some ⟨b, o + 3, none⟩)) := .of fun w => by kernel_rfl
theorem fa83_0 {W : World} {F : Nat → Prop} {H : List Ent} {b o : Nat} : Runs ⟨Try.prog, W, F⟩ H (vS (Instr.fieldAt 83 (.pointer (some ⟨b, o, none⟩)) 0)) (.pointer (some ⟨b, o, none⟩)) := .of fun w => by kernel_rfl
theorem en76 : Enters Try.prog 76 := enters_of Try.func76 (by kernel_rfl)
theorem bd88 {W : World} {F : Nat → Prop} {H : List Ent} : Runs ⟨Try.prog, W, F⟩ H (vS (Instr.build 88 #[])) (.agg [(.int .i64 0), (.int .i64 0), (.int .i64 0), (.int .i64 0), (.int .i64 0), (.int .i64 0), (.int .i64 0), (.int .i64 0), (.int .i64 0), (.int .i64 0)].toArray) := .of fun w => by kernel_rfl
theorem pt146 : Try.prog.underlying 146 = some (.pointer 145) := by kernel_rfl
theorem fa145_1 {W : World} {F : Nat → Prop} {H : List Ent} {b o : Nat} : Runs ⟨Try.prog, W, F⟩ H (vS (Instr.fieldAt 145 (.pointer (some ⟨b, o, none⟩)) 1)) (.pointer (some ⟨b, o + 16, none⟩)) := .of fun w => by kernel_rfl
theorem z85 : zeroL Try.prog 85 = some [(.int .i64 0), (.int .i64 0)] := by kernel_rfl
theorem fa145_4 {W : World} {F : Nat → Prop} {H : List Ent} {b o : Nat} : Runs ⟨Try.prog, W, F⟩ H (vS (Instr.fieldAt 145 (.pointer (some ⟨b, o, none⟩)) 4)) (.pointer (some ⟨b, o + 21, none⟩)) := .of fun w => by kernel_rfl
theorem z86 : zeroL Try.prog 86 = some [(.int .i64 0), (.int .i64 0), (.int .i64 0), (.int .i64 0)] := by kernel_rfl
theorem sz86 : sizeB Try.prog 86 4 = true := by kernel_rfl
theorem bd32_0_1_2_3 {W : World} {F : Nat → Prop} {H : List Ent} {x0 : Int} {x1 : Int} {x2 : Int} {x3 : Int} : Runs ⟨Try.prog, W, F⟩ H (vS (Instr.build 32 #[(0, .int .i64 x0), (1, .int .i64 x1), (2, .int .i64 x2), (3, .int .i64 x3)])) (.agg [.int .i64 x0, .int .i64 x1, .int .i64 x2, .int .i64 x3, (.int .i64 0), (.int .i64 0), (.int .i64 0), (.int .i64 0)].toArray) := .of fun w => by kernel_rfl
theorem fa100_1 {W : World} {F : Nat → Prop} {H : List Ent} {b o : Nat} : Runs ⟨Try.prog, W, F⟩ H (vS (Instr.fieldAt 100 (.pointer (some ⟨b, o, none⟩)) 1)) (.pointer (some ⟨b, o + 8, none⟩)) := .of fun w => by kernel_rfl
theorem bs22_1 {x0 : Int} {x1 : Int} {x2 : Int} {x3 : Int} {x4 : Int} {x5 : Int} {x6 : Int} {x7 : Int} {x8 : Int} : ∀ w, (vS (Instr.buildSlice 22 1 #[(0, .agg [.int .i64 x0, .int .i64 x1, .int .i64 x2, .int .i64 x3, .int .i64 x4, .int .i64 x5, .int .i64 x6, .int .i64 x7, .int .i64 x8].toArray)])).run Try.prog w = .ok (.value (.slice (some ⟨w.heap.size, 0, none⟩) 1 1)) (w.alloc (.cells [.int .i64 x0, .int .i64 x1, .int .i64 x2, .int .i64 x3, .int .i64 x4, .int .i64 x5, .int .i64 x6, .int .i64 x7, .int .i64 x8].toArray 46 (0, 0))) := fun w => by kernel_rfl
theorem bd34_0_1_2_3_4_6 {W : World} {F : Nat → Prop} {H : List Ent} {x0 : Int} {x1 : Int} {x2 : Int} {x3 : Int} {x4 : Int} {x5 : Int} : Runs ⟨Try.prog, W, F⟩ H (vS (Instr.build 34 #[(0, .int .i64 x0), (1, .int .i64 x1), (2, .int .i64 x2), (3, .int .i64 x3), (4, .int .i64 x4), (6, .int .i64 x5)])) (.agg [.int .i64 x0, .int .i64 x1, .int .i64 x2, .int .i64 x3, .int .i64 x4, (.int .i64 0), .int .i64 x5, (.int .i64 0)].toArray) := .of fun w => by kernel_rfl
theorem bs112_1 {x0 : Int} : ∀ w, (vS (Instr.buildSlice 112 1 #[(0, .int .i64 x0)])).run Try.prog w = .ok (.value (.slice (some ⟨w.heap.size, 0, none⟩) 1 1)) (w.alloc (.cells [.int .i64 x0].toArray 2 (0, 0))) := fun w => by kernel_rfl
theorem en80 : Enters Try.prog 80 := enters_of Try.func80 (by kernel_rfl)
theorem bd98_0_1 {W : World} {F : Nat → Prop} {H : List Ent} {x0 : Int} {x1 : Int} : Runs ⟨Try.prog, W, F⟩ H (vS (Instr.build 98 #[(0, .int .u64 x0), (1, .int .u64 x1)])) (.agg [.int .u64 x0, .int .u64 x1].toArray) := .of fun w => by kernel_rfl
theorem fa98_0 {W : World} {F : Nat → Prop} {H : List Ent} {b o : Nat} : Runs ⟨Try.prog, W, F⟩ H (vS (Instr.fieldAt 98 (.pointer (some ⟨b, o, none⟩)) 0)) (.pointer (some ⟨b, o, none⟩)) := .of fun w => by kernel_rfl
theorem fa98_1 {W : World} {F : Nat → Prop} {H : List Ent} {b o : Nat} : Runs ⟨Try.prog, W, F⟩ H (vS (Instr.fieldAt 98 (.pointer (some ⟨b, o, none⟩)) 1)) (.pointer (some ⟨b, o + 1, none⟩)) := .of fun w => by kernel_rfl
theorem en81 : Enters Try.prog 81 := enters_of Try.func81 (by kernel_rfl)
theorem en82 : Enters Try.prog 82 := enters_of Try.func82 (by kernel_rfl)
theorem en83 : Enters Try.prog 83 := enters_of Try.func83 (by kernel_rfl)
theorem z53 : zeroL Try.prog 53 = some [(.slice none 0 0), (.slice none 0 0), (.int .i64 0), (.int .i64 0), (.int .i64 0), (.int .i64 0), (.int .i64 0), (.int .i64 0)] := by kernel_rfl
theorem bd123_0_1_2_3_4_5_6_7_8_9_10_11_12_13_14_15 {W : World} {F : Nat → Prop} {H : List Ent} {x0 : Int} {x1 : Int} {x2 : Int} {x3 : Int} {x4 : Int} {x5 : Int} {x6 : Int} {x7 : Int} {x8 : Int} {x9 : Int} {x10 : Int} {x11 : Int} {x12 : Int} {x13 : Int} {x14 : Int} {x15 : Int} : Runs ⟨Try.prog, W, F⟩ H (vS (Instr.build 123 #[(0, .int .i64 x0), (1, .int .i64 x1), (2, .int .i64 x2), (3, .int .i64 x3), (4, .int .i64 x4), (5, .int .i64 x5), (6, .int .i64 x6), (7, .int .i64 x7), (8, .int .i64 x8), (9, .int .i64 x9), (10, .int .i64 x10), (11, .int .i64 x11), (12, .int .i64 x12), (13, .int .i64 x13), (14, .int .i64 x14), (15, .int .i64 x15)])) (.agg [.int .i64 x0, .int .i64 x1, .int .i64 x2, .int .i64 x3, .int .i64 x4, .int .i64 x5, .int .i64 x6, .int .i64 x7, .int .i64 x8, .int .i64 x9, .int .i64 x10, .int .i64 x11, .int .i64 x12, .int .i64 x13, .int .i64 x14, .int .i64 x15].toArray) := .of fun w => by kernel_rfl
theorem bd138_0_1 {W : World} {F : Nat → Prop} {H : List Ent} {x0 : Int} {x1 : Int} : Runs ⟨Try.prog, W, F⟩ H (vS (Instr.build 138 #[(0, .int .i64 x0), (1, .int .i64 x1)])) (.agg [.int .i64 x0, .int .i64 x1].toArray) := .of fun w => by kernel_rfl
theorem bd138_0 {W : World} {F : Nat → Prop} {H : List Ent} {x0 : Int} : Runs ⟨Try.prog, W, F⟩ H (vS (Instr.build 138 #[(0, .int .i64 x0)])) (.agg [.int .i64 x0, (.int .i64 0)].toArray) := .of fun w => by kernel_rfl
theorem bs49_3 {x0 : Int} {x1 : Int} {x2 : Int} {x3 : Int} {x4 : Int} {x5 : Int} : ∀ w, (vS (Instr.buildSlice 49 3 #[(0, .agg [.int .i64 x0, .int .i64 x1].toArray), (1, .agg [.int .i64 x2, .int .i64 x3].toArray), (2, .agg [.int .i64 x4, .int .i64 x5].toArray)])).run Try.prog w = .ok (.value (.slice (some ⟨w.heap.size, 0, none⟩) 3 3)) (w.alloc (.cells [.int .i64 x0, .int .i64 x1, .int .i64 x2, .int .i64 x3, .int .i64 x4, .int .i64 x5].toArray 138 (0, 0))) := fun w => by kernel_rfl
theorem bd50_0_1_2 {W : World} {F : Nat → Prop} {H : List Ent} {x0 : Int} {x1 : Int} {x2 : Int} : Runs ⟨Try.prog, W, F⟩ H (vS (Instr.build 50 #[(0, .int .i64 x0), (1, .int .i64 x1), (2, .int .i64 x2)])) (.agg [.int .i64 x0, .int .i64 x1, .int .i64 x2].toArray) := .of fun w => by kernel_rfl
theorem bd51_0_1 {W : World} {F : Nat → Prop} {H : List Ent} {x0 : Int} {x1 : Int} : Runs ⟨Try.prog, W, F⟩ H (vS (Instr.build 51 #[(0, .int .i64 x0), (1, .int .i64 x1)])) (.agg [.int .i64 x0, .int .i64 x1].toArray) := .of fun w => by kernel_rfl
theorem bd53_1_2_3_4 {W : World} {F : Nat → Prop} {H : List Ent} {x0 : Option Addr} {x1 : Nat} {x2 : Nat} {x3 : Int} {x4 : Int} {x5 : Int} {x6 : Int} {x7 : Int} {x8 : Int} : Runs ⟨Try.prog, W, F⟩ H (vS (Instr.build 53 #[(1, .slice x0 x1 x2), (2, .int .i64 x3), (3, .agg [.int .i64 x4, .int .i64 x5, .int .i64 x6].toArray), (4, .agg [.int .i64 x7, .int .i64 x8].toArray)])) (.agg [(.slice none 0 0), .slice x0 x1 x2, .int .i64 x3, .int .i64 x4, .int .i64 x5, .int .i64 x6, .int .i64 x7, .int .i64 x8].toArray) := .of fun w => by kernel_rfl
theorem sz53 : sizeB Try.prog 53 8 = true := by kernel_rfl
theorem bs48_1 {x0 : Int} {x1 : Int} {x2 : Int} {x3 : Int} {x4 : Int} {x5 : Int} {x6 : Int} {x7 : Int} {x8 : Int} {x9 : Int} {x10 : Int} {x11 : Int} {x12 : Int} {x13 : Int} {x14 : Int} {x15 : Int} : ∀ w, (vS (Instr.buildSlice 48 1 #[(0, .agg [.int .i64 x0, .int .i64 x1, .int .i64 x2, .int .i64 x3, .int .i64 x4, .int .i64 x5, .int .i64 x6, .int .i64 x7, .int .i64 x8, .int .i64 x9, .int .i64 x10, .int .i64 x11, .int .i64 x12, .int .i64 x13, .int .i64 x14, .int .i64 x15].toArray)])).run Try.prog w = .ok (.value (.slice (some ⟨w.heap.size, 0, none⟩) 1 1)) (w.alloc (.cells [.int .i64 x0, .int .i64 x1, .int .i64 x2, .int .i64 x3, .int .i64 x4, .int .i64 x5, .int .i64 x6, .int .i64 x7, .int .i64 x8, .int .i64 x9, .int .i64 x10, .int .i64 x11, .int .i64 x12, .int .i64 x13, .int .i64 x14, .int .i64 x15].toArray 123 (0, 0))) := fun w => by kernel_rfl
theorem sz48 : sizeB Try.prog 48 1 = true := by kernel_rfl
theorem en85 : Enters Try.prog 85 := enters_of Try.func85 (by kernel_rfl)
theorem en86 : Enters Try.prog 86 := enters_of Try.func86 (by kernel_rfl)
theorem en87 : Enters Try.prog 87 := enters_of Try.func87 (by kernel_rfl)
theorem en88 : Enters Try.prog 88 := enters_of Try.func88 (by kernel_rfl)
theorem en89 : Enters Try.prog 89 := enters_of Try.func89 (by kernel_rfl)
theorem fa53_3 {W : World} {F : Nat → Prop} {H : List Ent} {b o : Nat} : Runs ⟨Try.prog, W, F⟩ H (vS (Instr.fieldAt 53 (.pointer (some ⟨b, o, none⟩)) 3)) (.pointer (some ⟨b, o + 3, none⟩)) := .of fun w => by kernel_rfl
theorem ar50 : arrT Try.prog 50 3 3 1 = true := by kernel_rfl
theorem fa53_4 {W : World} {F : Nat → Prop} {H : List Ent} {b o : Nat} : Runs ⟨Try.prog, W, F⟩ H (vS (Instr.fieldAt 53 (.pointer (some ⟨b, o, none⟩)) 4)) (.pointer (some ⟨b, o + 6, none⟩)) := .of fun w => by kernel_rfl
theorem ar51 : arrT Try.prog 51 2 2 1 = true := by kernel_rfl
theorem ia51_0 {W : World} {F : Nat → Prop} {H : List Ent} {b o : Nat} : Runs ⟨Try.prog, W, F⟩ H (vS (Instr.indexAt 51 (.pointer (some ⟨b, o, none⟩)) (.int .i64 0))) (.pointer (some ⟨b, o, none⟩)) := .of fun w => by kernel_rfl
theorem en90 : Enters Try.prog 90 := enters_of Try.func90 (by kernel_rfl)
theorem ia51_1 {W : World} {F : Nat → Prop} {H : List Ent} {b o : Nat} : Runs ⟨Try.prog, W, F⟩ H (vS (Instr.indexAt 51 (.pointer (some ⟨b, o, none⟩)) (.int .i64 1))) (.pointer (some ⟨b, o + 1, none⟩)) := .of fun w => by kernel_rfl
theorem en91 : Enters Try.prog 91 := enters_of Try.func91 (by kernel_rfl)
theorem bd132_0_3 {W : World} {F : Nat → Prop} {H : List Ent} {x0 : Int} {x1 : Option Addr} {x2 : Nat} {x3 : Nat} : Runs ⟨Try.prog, W, F⟩ H (vS (Instr.build 132 #[(0, .int .i64 x0), (3, .slice x1 x2 x3)])) (.agg [.int .i64 x0, (.int .i64 0), (.int .i64 0), .slice x1 x2 x3].toArray) := .of fun w => by kernel_rfl
theorem en92 : Enters Try.prog 92 := enters_of Try.func92 (by kernel_rfl)
theorem ag138 : aggN Try.prog 138 2 = true := by kernel_rfl
theorem en68 : Enters Try.prog 68 := enters_of Try.func68 (by kernel_rfl)
theorem st9 : Try.prog.underlying 9 = some .string := by kernel_rfl
theorem en93 : Enters Try.prog 93 := enters_of Try.func93 (by kernel_rfl)
theorem en94 : Enters Try.prog 94 := enters_of Try.func94 (by kernel_rfl)
theorem en95 : Enters Try.prog 95 := enters_of Try.func95 (by kernel_rfl)
theorem bd168_0_1 {W : World} {F : Nat → Prop} {H : List Ent} {x0 : Fn} {x1 : Array Value} {x2 : Array Value} {x3 : Int} : Runs ⟨Try.prog, W, F⟩ H (vS (Instr.build 168 #[(0, .func x0 x1 x2), (1, .int .i64 x3)])) (.agg [.func x0 x1 x2, .int .i64 x3].toArray) := .of fun w => by kernel_rfl
theorem bs200_3 {x0 : Fn} {x1 : Array Value} {x2 : Array Value} {x3 : Int} {x4 : Fn} {x5 : Array Value} {x6 : Array Value} {x7 : Int} {x8 : Fn} {x9 : Array Value} {x10 : Array Value} {x11 : Int} : ∀ w, (vS (Instr.buildSlice 200 3 #[(0, .agg [.func x0 x1 x2, .int .i64 x3].toArray), (1, .agg [.func x4 x5 x6, .int .i64 x7].toArray), (2, .agg [.func x8 x9 x10, .int .i64 x11].toArray)])).run Try.prog w = .ok (.value (.slice (some ⟨w.heap.size, 0, none⟩) 3 3)) (w.alloc (.cells [.func x0 x1 x2, .int .i64 x3, .func x4 x5 x6, .int .i64 x7, .func x8 x9 x10, .int .i64 x11].toArray 168 (0, 0))) := fun w => by kernel_rfl
theorem en97 : Enters Try.prog 97 := enters_of Try.func97 (by kernel_rfl)
theorem o74 : one Try.prog 74 = true := by kernel_rfl
theorem z146 : zeroL Try.prog 146 = some [(.pointer none)] := by kernel_rfl
theorem sz146 : sizeB Try.prog 146 1 = true := by kernel_rfl
theorem z4 : zeroL Try.prog 4 = some [(.bool false)] := by kernel_rfl
theorem sz4 : sizeB Try.prog 4 1 = true := by kernel_rfl
theorem bd171_0_1 {W : World} {F : Nat → Prop} {H : List Ent} {x0 : Fn} {x1 : Array Value} {x2 : Array Value} {x3 : Int} : Runs ⟨Try.prog, W, F⟩ H (vS (Instr.build 171 #[(0, .func x0 x1 x2), (1, .int .i64 x3)])) (.agg [.func x0 x1 x2, .int .i64 x3].toArray) := .of fun w => by kernel_rfl
theorem bs201_6 {x0 : Fn} {x1 : Array Value} {x2 : Array Value} {x3 : Int} {x4 : Fn} {x5 : Array Value} {x6 : Array Value} {x7 : Int} {x8 : Fn} {x9 : Array Value} {x10 : Array Value} {x11 : Int} {x12 : Fn} {x13 : Array Value} {x14 : Array Value} {x15 : Int} {x16 : Fn} {x17 : Array Value} {x18 : Array Value} {x19 : Int} {x20 : Fn} {x21 : Array Value} {x22 : Array Value} {x23 : Int} : ∀ w, (vS (Instr.buildSlice 201 6 #[(0, .agg [.func x0 x1 x2, .int .i64 x3].toArray), (1, .agg [.func x4 x5 x6, .int .i64 x7].toArray), (2, .agg [.func x8 x9 x10, .int .i64 x11].toArray), (3, .agg [.func x12 x13 x14, .int .i64 x15].toArray), (4, .agg [.func x16 x17 x18, .int .i64 x19].toArray), (5, .agg [.func x20 x21 x22, .int .i64 x23].toArray)])).run Try.prog w = .ok (.value (.slice (some ⟨w.heap.size, 0, none⟩) 6 6)) (w.alloc (.cells [.func x0 x1 x2, .int .i64 x3, .func x4 x5 x6, .int .i64 x7, .func x8 x9 x10, .int .i64 x11, .func x12 x13 x14, .int .i64 x15, .func x16 x17 x18, .int .i64 x19, .func x20 x21 x22, .int .i64 x23].toArray 171 (0, 0))) := fun w => by kernel_rfl
theorem en100 : Enters Try.prog 100 := enters_of Try.func100 (by kernel_rfl)
theorem fa145_0 {W : World} {F : Nat → Prop} {H : List Ent} {b o : Nat} : Runs ⟨Try.prog, W, F⟩ H (vS (Instr.fieldAt 145 (.pointer (some ⟨b, o, none⟩)) 0)) (.pointer (some ⟨b, o, none⟩)) := .of fun w => by kernel_rfl
theorem en111 : Enters Try.prog 111 := enters_of Try.func111 (by kernel_rfl)
theorem en112 : Enters Try.prog 112 := enters_of Try.func112 (by kernel_rfl)
theorem en113 : Enters Try.prog 113 := enters_of Try.func113 (by kernel_rfl)
theorem fa123_7 {W : World} {F : Nat → Prop} {H : List Ent} {b o : Nat} : Runs ⟨Try.prog, W, F⟩ H (vS (Instr.fieldAt 123 (.pointer (some ⟨b, o, none⟩)) 7)) (.pointer (some ⟨b, o + 7, none⟩)) := .of fun w => by kernel_rfl
theorem fa123_8 {W : World} {F : Nat → Prop} {H : List Ent} {b o : Nat} : Runs ⟨Try.prog, W, F⟩ H (vS (Instr.fieldAt 123 (.pointer (some ⟨b, o, none⟩)) 8)) (.pointer (some ⟨b, o + 8, none⟩)) := .of fun w => by kernel_rfl
theorem fa123_9 {W : World} {F : Nat → Prop} {H : List Ent} {b o : Nat} : Runs ⟨Try.prog, W, F⟩ H (vS (Instr.fieldAt 123 (.pointer (some ⟨b, o, none⟩)) 9)) (.pointer (some ⟨b, o + 9, none⟩)) := .of fun w => by kernel_rfl
theorem o22 : one Try.prog 22 = true := by kernel_rfl
theorem en78 : Enters Try.prog 78 := enters_of Try.func78 (by kernel_rfl)
theorem en79 : Enters Try.prog 79 := enters_of Try.func79 (by kernel_rfl)
theorem en77 : Enters Try.prog 77 := enters_of Try.func77 (by kernel_rfl)
theorem z176 : zeroL Try.prog 176 = some [(.bool false), (.bool false), (.bool false), (.bool false), (.bool false), (.bool false), (.bool false), (.bool false), (.bool false), (.bool false), (.bool false), (.bool false), (.bool false), (.bool false), (.bool false), (.bool false), (.bool false), (.bool false), (.bool false), (.bool false), (.bool false), (.bool false), (.bool false), (.bool false), (.bool false), (.bool false), (.bool false), (.bool false), (.bool false), (.bool false), (.bool false), (.bool false), (.bool false), (.bool false), (.bool false), (.bool false), (.bool false), (.bool false), (.bool false), (.bool false), (.bool false), (.bool false), (.bool false), (.bool false), (.bool false), (.bool false), (.bool false), (.bool false), (.bool false), (.bool false), (.bool false), (.bool false), (.bool false), (.bool false), (.bool false), (.bool false), (.bool false), (.bool false), (.bool false), (.bool false), (.bool false), (.bool false), (.bool false), (.bool false), (.bool false), (.bool false), (.bool false), (.bool false), (.bool false), (.bool false), (.bool false), (.bool false), (.bool false), (.bool false), (.bool false), (.bool false), (.bool false), (.bool false), (.bool false), (.bool false), (.bool false), (.bool false), (.bool false), (.bool false), (.bool false), (.bool false), (.bool false), (.bool false), (.bool false), (.bool false), (.bool false), (.bool false), (.bool false), (.bool false), (.bool false), (.bool false), (.bool false), (.bool false), (.bool false), (.bool false), (.bool false), (.bool false), (.bool false), (.bool false), (.bool false), (.bool false), (.bool false), (.bool false), (.bool false), (.bool false), (.bool false), (.bool false), (.bool false), (.bool false), (.bool false), (.bool false), (.bool false), (.bool false), (.bool false), (.bool false), (.bool false), (.bool false), (.bool false), (.bool false), (.bool false), (.bool false), (.bool false), (.bool false)] := by kernel_rfl
theorem ag176 : aggN Try.prog 176 128 = true := by kernel_rfl
theorem en116 : Enters Try.prog 116 := enters_of Try.func116 (by kernel_rfl)
theorem en115 : Enters Try.prog 115 := enters_of Try.func115 (by kernel_rfl)
theorem sz176 : sizeB Try.prog 176 128 = true := by kernel_rfl
theorem en117 : Enters Try.prog 117 := enters_of Try.func117 (by kernel_rfl)
theorem en118 : Enters Try.prog 118 := enters_of Try.func118 (by kernel_rfl)
theorem en119 : Enters Try.prog 119 := enters_of Try.func119 (by kernel_rfl)
theorem en120 : Enters Try.prog 120 := enters_of Try.func120 (by kernel_rfl)
theorem fd98_1 {W : World} {F : Nat → Prop} {H : List Ent} {x0 : Int} {x1 : Int} : Runs ⟨Try.prog, W, F⟩ H (vS (Instr.field 98 (.agg [.int .u64 x0, .int .u64 x1].toArray) 1)) (.int .u64 x1) := .of fun w => by kernel_rfl
theorem en121 : Enters Try.prog 121 := enters_of Try.func121 (by kernel_rfl)
theorem en122 : Enters Try.prog 122 := enters_of Try.func122 (by kernel_rfl)
theorem cv3_129 {W : World} {F : Nat → Prop} {H : List Ent} {x : Int} : Runs ⟨Try.prog, W, F⟩ H (vS (convert 3 129 (.int .i64 x))) (.int .u64 (IntKind.wrap .u64 x)) := .of fun w => by kernel_rfl
theorem en124 : Enters Try.prog 124 := enters_of Try.func124 (by kernel_rfl)
theorem en123 : Enters Try.prog 123 := enters_of Try.func123 (by kernel_rfl)
theorem en125 : Enters Try.prog 125 := enters_of Try.func125 (by kernel_rfl)
theorem en126 : Enters Try.prog 126 := enters_of Try.func126 (by kernel_rfl)
theorem fa123_2 {W : World} {F : Nat → Prop} {H : List Ent} {b o : Nat} : Runs ⟨Try.prog, W, F⟩ H (vS (Instr.fieldAt 123 (.pointer (some ⟨b, o, none⟩)) 2)) (.pointer (some ⟨b, o + 2, none⟩)) := .of fun w => by kernel_rfl
theorem en127 : Enters Try.prog 127 := enters_of Try.func127 (by kernel_rfl)
theorem fa123_3 {W : World} {F : Nat → Prop} {H : List Ent} {b o : Nat} : Runs ⟨Try.prog, W, F⟩ H (vS (Instr.fieldAt 123 (.pointer (some ⟨b, o, none⟩)) 3)) (.pointer (some ⟨b, o + 3, none⟩)) := .of fun w => by kernel_rfl
theorem fa123_5 {W : World} {F : Nat → Prop} {H : List Ent} {b o : Nat} : Runs ⟨Try.prog, W, F⟩ H (vS (Instr.fieldAt 123 (.pointer (some ⟨b, o, none⟩)) 5)) (.pointer (some ⟨b, o + 5, none⟩)) := .of fun w => by kernel_rfl
theorem fa123_10 {W : World} {F : Nat → Prop} {H : List Ent} {b o : Nat} : Runs ⟨Try.prog, W, F⟩ H (vS (Instr.fieldAt 123 (.pointer (some ⟨b, o, none⟩)) 10)) (.pointer (some ⟨b, o + 10, none⟩)) := .of fun w => by kernel_rfl
theorem fa123_11 {W : World} {F : Nat → Prop} {H : List Ent} {b o : Nat} : Runs ⟨Try.prog, W, F⟩ H (vS (Instr.fieldAt 123 (.pointer (some ⟨b, o, none⟩)) 11)) (.pointer (some ⟨b, o + 11, none⟩)) := .of fun w => by kernel_rfl
theorem fa123_15 {W : World} {F : Nat → Prop} {H : List Ent} {b o : Nat} : Runs ⟨Try.prog, W, F⟩ H (vS (Instr.fieldAt 123 (.pointer (some ⟨b, o, none⟩)) 15)) (.pointer (some ⟨b, o + 15, none⟩)) := .of fun w => by kernel_rfl
theorem fa123_4 {W : World} {F : Nat → Prop} {H : List Ent} {b o : Nat} : Runs ⟨Try.prog, W, F⟩ H (vS (Instr.fieldAt 123 (.pointer (some ⟨b, o, none⟩)) 4)) (.pointer (some ⟨b, o + 4, none⟩)) := .of fun w => by kernel_rfl
theorem fa123_6 {W : World} {F : Nat → Prop} {H : List Ent} {b o : Nat} : Runs ⟨Try.prog, W, F⟩ H (vS (Instr.fieldAt 123 (.pointer (some ⟨b, o, none⟩)) 6)) (.pointer (some ⟨b, o + 6, none⟩)) := .of fun w => by kernel_rfl
theorem fa123_12 {W : World} {F : Nat → Prop} {H : List Ent} {b o : Nat} : Runs ⟨Try.prog, W, F⟩ H (vS (Instr.fieldAt 123 (.pointer (some ⟨b, o, none⟩)) 12)) (.pointer (some ⟨b, o + 12, none⟩)) := .of fun w => by kernel_rfl
theorem fa123_13 {W : World} {F : Nat → Prop} {H : List Ent} {b o : Nat} : Runs ⟨Try.prog, W, F⟩ H (vS (Instr.fieldAt 123 (.pointer (some ⟨b, o, none⟩)) 13)) (.pointer (some ⟨b, o + 13, none⟩)) := .of fun w => by kernel_rfl
theorem fa123_14 {W : World} {F : Nat → Prop} {H : List Ent} {b o : Nat} : Runs ⟨Try.prog, W, F⟩ H (vS (Instr.fieldAt 123 (.pointer (some ⟨b, o, none⟩)) 14)) (.pointer (some ⟨b, o + 14, none⟩)) := .of fun w => by kernel_rfl
theorem en128 : Enters Try.prog 128 := enters_of Try.func128 (by kernel_rfl)
theorem bd193 {W : World} {F : Nat → Prop} {H : List Ent} : Runs ⟨Try.prog, W, F⟩ H (vS (Instr.build 193 #[])) (.agg [(.slice none 0 0)].toArray) := .of fun w => by kernel_rfl
theorem cv3_5 {W : World} {F : Nat → Prop} {H : List Ent} {x : Int} : Runs ⟨Try.prog, W, F⟩ H (vS (convert 3 5 (.int .i64 x))) (.int .u8 (IntKind.wrap .u8 x)) := .of fun w => by kernel_rfl
theorem bs130_2 {x0 : Int} {x1 : Int} : ∀ w, (vS (Instr.buildSlice 130 2 #[(0, .int .u8 x0), (1, .int .u8 x1)])).run Try.prog w = .ok (.value (.slice (some ⟨w.heap.size, 0, none⟩) 2 2)) (w.alloc (.cells [.int .u8 x0, .int .u8 x1].toArray 5 (0, 0))) := fun w => by kernel_rfl
theorem en129 : Enters Try.prog 129 := enters_of Try.func129 (by kernel_rfl)
theorem en130 : Enters Try.prog 130 := enters_of Try.func130 (by kernel_rfl)
theorem cv3_54 {W : World} {F : Nat → Prop} {H : List Ent} {x : Int} : Runs ⟨Try.prog, W, F⟩ H (vS (convert 3 54 (.int .i64 x))) (.int .u64 (IntKind.wrap .u64 x)) := .of fun w => by kernel_rfl
theorem bs130_3 {x0 : Int} {x1 : Int} {x2 : Int} : ∀ w, (vS (Instr.buildSlice 130 3 #[(0, .int .u8 x0), (1, .int .u8 x1), (2, .int .u8 x2)])).run Try.prog w = .ok (.value (.slice (some ⟨w.heap.size, 0, none⟩) 3 3)) (w.alloc (.cells [.int .u8 x0, .int .u8 x1, .int .u8 x2].toArray 5 (0, 0))) := fun w => by kernel_rfl
theorem en131 : Enters Try.prog 131 := enters_of Try.func131 (by kernel_rfl)
theorem en132 : Enters Try.prog 132 := enters_of Try.func132 (by kernel_rfl)
theorem en133 : Enters Try.prog 133 := enters_of Try.func133 (by kernel_rfl)
theorem en134 : Enters Try.prog 134 := enters_of Try.func134 (by kernel_rfl)
theorem en135 : Enters Try.prog 135 := enters_of Try.func135 (by kernel_rfl)
theorem bs200_7 {x0 : Fn} {x1 : Array Value} {x2 : Array Value} {x3 : Int} {x4 : Fn} {x5 : Array Value} {x6 : Array Value} {x7 : Int} {x8 : Fn} {x9 : Array Value} {x10 : Array Value} {x11 : Int} {x12 : Fn} {x13 : Array Value} {x14 : Array Value} {x15 : Int} {x16 : Fn} {x17 : Array Value} {x18 : Array Value} {x19 : Int} {x20 : Fn} {x21 : Array Value} {x22 : Array Value} {x23 : Int} {x24 : Fn} {x25 : Array Value} {x26 : Array Value} {x27 : Int} : ∀ w, (vS (Instr.buildSlice 200 7 #[(0, .agg [.func x0 x1 x2, .int .i64 x3].toArray), (1, .agg [.func x4 x5 x6, .int .i64 x7].toArray), (2, .agg [.func x8 x9 x10, .int .i64 x11].toArray), (3, .agg [.func x12 x13 x14, .int .i64 x15].toArray), (4, .agg [.func x16 x17 x18, .int .i64 x19].toArray), (5, .agg [.func x20 x21 x22, .int .i64 x23].toArray), (6, .agg [.func x24 x25 x26, .int .i64 x27].toArray)])).run Try.prog w = .ok (.value (.slice (some ⟨w.heap.size, 0, none⟩) 7 7)) (w.alloc (.cells [.func x0 x1 x2, .int .i64 x3, .func x4 x5 x6, .int .i64 x7, .func x8 x9 x10, .int .i64 x11, .func x12 x13 x14, .int .i64 x15, .func x16 x17 x18, .int .i64 x19, .func x20 x21 x22, .int .i64 x23, .func x24 x25 x26, .int .i64 x27].toArray 168 (0, 0))) := fun w => by kernel_rfl
theorem z138 : zeroL Try.prog 138 = some [(.int .i64 0), (.int .i64 0)] := by kernel_rfl
theorem sz138 : sizeB Try.prog 138 2 = true := by kernel_rfl
theorem ia50_0 {W : World} {F : Nat → Prop} {H : List Ent} {b o : Nat} : Runs ⟨Try.prog, W, F⟩ H (vS (Instr.indexAt 50 (.pointer (some ⟨b, o, none⟩)) (.int .i64 0))) (.pointer (some ⟨b, o, none⟩)) := .of fun w => by kernel_rfl
theorem ia50_1 {W : World} {F : Nat → Prop} {H : List Ent} {b o : Nat} : Runs ⟨Try.prog, W, F⟩ H (vS (Instr.indexAt 50 (.pointer (some ⟨b, o, none⟩)) (.int .i64 1))) (.pointer (some ⟨b, o + 1, none⟩)) := .of fun w => by kernel_rfl
theorem ia50_2 {W : World} {F : Nat → Prop} {H : List Ent} {b o : Nat} : Runs ⟨Try.prog, W, F⟩ H (vS (Instr.indexAt 50 (.pointer (some ⟨b, o, none⟩)) (.int .i64 2))) (.pointer (some ⟨b, o + 2, none⟩)) := .of fun w => by kernel_rfl
theorem bs112_3 {x0 : Int} {x1 : Int} {x2 : Int} : ∀ w, (vS (Instr.buildSlice 112 3 #[(0, .int .i64 x0), (1, .int .i64 x1), (2, .int .i64 x2)])).run Try.prog w = .ok (.value (.slice (some ⟨w.heap.size, 0, none⟩) 3 3)) (w.alloc (.cells [.int .i64 x0, .int .i64 x1, .int .i64 x2].toArray 2 (0, 0))) := fun w => by kernel_rfl
theorem en96 : Enters Try.prog 96 := enters_of Try.func96 (by kernel_rfl)
theorem sl200 : slT Try.prog 200 168 2 16 = true := by kernel_rfl
theorem ag168 : aggN Try.prog 168 2 = true := by kernel_rfl
theorem z168 : zeroL Try.prog 168 = some [.nilFunc, (.int .i64 0)] := by kernel_rfl
theorem sz168 : sizeB Try.prog 168 2 = true := by kernel_rfl
theorem fa168_0 {W : World} {F : Nat → Prop} {H : List Ent} {b o : Nat} : Runs ⟨Try.prog, W, F⟩ H (vS (Instr.fieldAt 168 (.pointer (some ⟨b, o, none⟩)) 0)) (.pointer (some ⟨b, o, none⟩)) := .of fun w => by kernel_rfl
theorem o23 : one Try.prog 23 = true := by kernel_rfl
theorem fa168_1 {W : World} {F : Nat → Prop} {H : List Ent} {b o : Nat} : Runs ⟨Try.prog, W, F⟩ H (vS (Instr.fieldAt 168 (.pointer (some ⟨b, o, none⟩)) 1)) (.pointer (some ⟨b, o + 1, none⟩)) := .of fun w => by kernel_rfl
theorem o25 : one Try.prog 25 = true := by kernel_rfl
theorem en98 : Enters Try.prog 98 := enters_of Try.func98 (by kernel_rfl)
theorem bs112_2 {x0 : Int} {x1 : Int} : ∀ w, (vS (Instr.buildSlice 112 2 #[(0, .int .i64 x0), (1, .int .i64 x1)])).run Try.prog w = .ok (.value (.slice (some ⟨w.heap.size, 0, none⟩) 2 2)) (w.alloc (.cells [.int .i64 x0, .int .i64 x1].toArray 2 (0, 0))) := fun w => by kernel_rfl
theorem en99 : Enters Try.prog 99 := enters_of Try.func99 (by kernel_rfl)
theorem sl201 : slT Try.prog 201 171 2 16 = true := by kernel_rfl
theorem ag171 : aggN Try.prog 171 2 = true := by kernel_rfl
theorem z171 : zeroL Try.prog 171 = some [.nilFunc, (.int .i64 0)] := by kernel_rfl
theorem sz171 : sizeB Try.prog 171 2 = true := by kernel_rfl
theorem fa171_0 {W : World} {F : Nat → Prop} {H : List Ent} {b o : Nat} : Runs ⟨Try.prog, W, F⟩ H (vS (Instr.fieldAt 171 (.pointer (some ⟨b, o, none⟩)) 0)) (.pointer (some ⟨b, o, none⟩)) := .of fun w => by kernel_rfl
theorem fa171_1 {W : World} {F : Nat → Prop} {H : List Ent} {b o : Nat} : Runs ⟨Try.prog, W, F⟩ H (vS (Instr.fieldAt 171 (.pointer (some ⟨b, o, none⟩)) 1)) (.pointer (some ⟨b, o + 1, none⟩)) := .of fun w => by kernel_rfl
theorem en101 : Enters Try.prog 101 := enters_of Try.func101 (by kernel_rfl)
theorem en103 : Enters Try.prog 103 := enters_of Try.func103 (by kernel_rfl)
theorem en102 : Enters Try.prog 102 := enters_of Try.func102 (by kernel_rfl)
theorem ag145 : aggN Try.prog 145 26 = true := by kernel_rfl
theorem z145 : zeroL Try.prog 145 = some [(.int .i64 0), (.int .i64 0), (.int .i64 0), (.int .i64 0), (.int .i64 0), (.int .i64 0), (.int .i64 0), (.int .i64 0), (.int .i64 0), (.int .i64 0), (.int .i64 0), (.int .i64 0), (.int .i64 0), (.int .i64 0), (.int .i64 0), (.int .i64 0), (.int .i64 0), (.int .i64 0), (.int .i64 0), (.int .i64 0), (.int .i64 0), (.int .i64 0), (.int .i64 0), (.int .i64 0), (.int .i64 0), (.int .i64 0)] := by kernel_rfl
theorem sz145 : sizeB Try.prog 145 26 = true := by kernel_rfl
theorem o146 : one Try.prog 146 = true := by kernel_rfl
theorem en105 : Enters Try.prog 105 := enters_of Try.func105 (by kernel_rfl)
theorem en104 : Enters Try.prog 104 := enters_of Try.func104 (by kernel_rfl)
theorem o4 : one Try.prog 4 = true := by kernel_rfl
theorem en106 : Enters Try.prog 106 := enters_of Try.func106 (by kernel_rfl)
theorem en108 : Enters Try.prog 108 := enters_of Try.func108 (by kernel_rfl)
theorem en107 : Enters Try.prog 107 := enters_of Try.func107 (by kernel_rfl)
theorem en110 : Enters Try.prog 110 := enters_of Try.func110 (by kernel_rfl)
theorem en109 : Enters Try.prog 109 := enters_of Try.func109 (by kernel_rfl)
theorem en144 : Enters Try.prog 144 := enters_of Try.func144 (by kernel_rfl)
theorem en145 : Enters Try.prog 145 := enters_of Try.func145 (by kernel_rfl)
theorem en114 : Enters Try.prog 114 := enters_of Try.func114 (by kernel_rfl)
theorem ar176 : arrT Try.prog 176 128 4 1 = true := by kernel_rfl
theorem en146 : Enters Try.prog 146 := enters_of Try.func146 (by kernel_rfl)
theorem en147 : Enters Try.prog 147 := enters_of Try.func147 (by kernel_rfl)
theorem ia176_0 {W : World} {F : Nat → Prop} {H : List Ent} {b o : Nat} : Runs ⟨Try.prog, W, F⟩ H (vS (Instr.indexAt 176 (.pointer (some ⟨b, o, none⟩)) (.int .i64 0))) (.pointer (some ⟨b, o, none⟩)) := .of fun w => by kernel_rfl
theorem en148 : Enters Try.prog 148 := enters_of Try.func148 (by kernel_rfl)
theorem en149 : Enters Try.prog 149 := enters_of Try.func149 (by kernel_rfl)
theorem en150 : Enters Try.prog 150 := enters_of Try.func150 (by kernel_rfl)
theorem bd98 {W : World} {F : Nat → Prop} {H : List Ent} : Runs ⟨Try.prog, W, F⟩ H (vS (Instr.build 98 #[])) (.agg [(.int .u64 0), (.int .u64 0)].toArray) := .of fun w => by kernel_rfl
theorem o112 : one Try.prog 112 = true := by kernel_rfl
theorem sz112 : sizeB Try.prog 112 1 = true := by kernel_rfl
theorem en151 : Enters Try.prog 151 := enters_of Try.func151 (by kernel_rfl)
theorem en152 : Enters Try.prog 152 := enters_of Try.func152 (by kernel_rfl)
theorem en153 : Enters Try.prog 153 := enters_of Try.func153 (by kernel_rfl)
theorem en154 : Enters Try.prog 154 := enters_of Try.func154 (by kernel_rfl)
theorem en155 : Enters Try.prog 155 := enters_of Try.func155 (by kernel_rfl)
theorem en156 : Enters Try.prog 156 := enters_of Try.func156 (by kernel_rfl)
theorem en157 : Enters Try.prog 157 := enters_of Try.func157 (by kernel_rfl)
theorem en158 : Enters Try.prog 158 := enters_of Try.func158 (by kernel_rfl)
theorem en159 : Enters Try.prog 159 := enters_of Try.func159 (by kernel_rfl)
theorem cv129_215 {W : World} {F : Nat → Prop} {H : List Ent} {x : Int} : Runs ⟨Try.prog, W, F⟩ H (vS (convert 129 215 (.int .u64 x))) (.int .u32 (IntKind.wrap .u32 x)) := .of fun w => by kernel_rfl
theorem en160 : Enters Try.prog 160 := enters_of Try.func160 (by kernel_rfl)
theorem en161 : Enters Try.prog 161 := enters_of Try.func161 (by kernel_rfl)
theorem pt191 : Try.prog.underlying 191 = some (.pointer 193) := by kernel_rfl
theorem fa193_0 {W : World} {F : Nat → Prop} {H : List Ent} {b o : Nat} : Runs ⟨Try.prog, W, F⟩ H (vS (Instr.fieldAt 193 (.pointer (some ⟨b, o, none⟩)) 0)) (.pointer (some ⟨b, o, none⟩)) := .of fun w => by kernel_rfl
theorem sl130 : slT Try.prog 130 5 1 1 = true := by kernel_rfl
theorem sz130 : sizeB Try.prog 130 1 = true := by kernel_rfl
theorem cv54_5 {W : World} {F : Nat → Prop} {H : List Ent} {x : Int} : Runs ⟨Try.prog, W, F⟩ H (vS (convert 54 5 (.int .u64 x))) (.int .u8 (IntKind.wrap .u8 x)) := .of fun w => by kernel_rfl
theorem bs130_1 {x0 : Int} : ∀ w, (vS (Instr.buildSlice 130 1 #[(0, .int .u8 x0)])).run Try.prog w = .ok (.value (.slice (some ⟨w.heap.size, 0, none⟩) 1 1)) (w.alloc (.cells [.int .u8 x0].toArray 5 (0, 0))) := fun w => by kernel_rfl
theorem en163 : Enters Try.prog 163 := enters_of Try.func163 (by kernel_rfl)
theorem en164 : Enters Try.prog 164 := enters_of Try.func164 (by kernel_rfl)
theorem en165 : Enters Try.prog 165 := enters_of Try.func165 (by kernel_rfl)
theorem bd62_0_1_2 {W : World} {F : Nat → Prop} {H : List Ent} {x0 : Int} {x1 : Int} {x2 : Int} : Runs ⟨Try.prog, W, F⟩ H (vS (Instr.build 62 #[(0, .int .i64 x0), (1, .int .i64 x1), (2, .int .i64 x2)])) (.agg [.int .i64 x0, .int .i64 x1, .int .i64 x2, (.int .i64 0), (.int .i64 0), (.int .i64 0), (.int .i64 0), (.int .i64 0), (.int .i64 0)].toArray) := .of fun w => by kernel_rfl
theorem bd62_0_1_2_6_7 {W : World} {F : Nat → Prop} {H : List Ent} {x0 : Int} {x1 : Int} {x2 : Int} {x3 : Int} {x4 : Int} : Runs ⟨Try.prog, W, F⟩ H (vS (Instr.build 62 #[(0, .int .i64 x0), (1, .int .i64 x1), (2, .int .i64 x2), (6, .int .i64 x3), (7, .int .i64 x4)])) (.agg [.int .i64 x0, .int .i64 x1, .int .i64 x2, (.int .i64 0), (.int .i64 0), (.int .i64 0), .int .i64 x3, .int .i64 x4, (.int .i64 0)].toArray) := .of fun w => by kernel_rfl
theorem en166 : Enters Try.prog 166 := enters_of Try.func166 (by kernel_rfl)
theorem en167 : Enters Try.prog 167 := enters_of Try.func167 (by kernel_rfl)
theorem en168 : Enters Try.prog 168 := enters_of Try.func168 (by kernel_rfl)
theorem en136 : Enters Try.prog 136 := enters_of Try.func136 (by kernel_rfl)
theorem en137 : Enters Try.prog 137 := enters_of Try.func137 (by kernel_rfl)
theorem en138 : Enters Try.prog 138 := enters_of Try.func138 (by kernel_rfl)
theorem bs112_6 {x0 : Int} {x1 : Int} {x2 : Int} {x3 : Int} {x4 : Int} {x5 : Int} : ∀ w, (vS (Instr.buildSlice 112 6 #[(0, .int .i64 x0), (1, .int .i64 x1), (2, .int .i64 x2), (3, .int .i64 x3), (4, .int .i64 x4), (5, .int .i64 x5)])).run Try.prog w = .ok (.value (.slice (some ⟨w.heap.size, 0, none⟩) 6 6)) (w.alloc (.cells [.int .i64 x0, .int .i64 x1, .int .i64 x2, .int .i64 x3, .int .i64 x4, .int .i64 x5].toArray 2 (0, 0))) := fun w => by kernel_rfl
theorem en139 : Enters Try.prog 139 := enters_of Try.func139 (by kernel_rfl)
theorem bs112_4 {x0 : Int} {x1 : Int} {x2 : Int} {x3 : Int} : ∀ w, (vS (Instr.buildSlice 112 4 #[(0, .int .i64 x0), (1, .int .i64 x1), (2, .int .i64 x2), (3, .int .i64 x3)])).run Try.prog w = .ok (.value (.slice (some ⟨w.heap.size, 0, none⟩) 4 4)) (w.alloc (.cells [.int .i64 x0, .int .i64 x1, .int .i64 x2, .int .i64 x3].toArray 2 (0, 0))) := fun w => by kernel_rfl
theorem en140 : Enters Try.prog 140 := enters_of Try.func140 (by kernel_rfl)
theorem en141 : Enters Try.prog 141 := enters_of Try.func141 (by kernel_rfl)
theorem en142 : Enters Try.prog 142 := enters_of Try.func142 (by kernel_rfl)
theorem en143 : Enters Try.prog 143 := enters_of Try.func143 (by kernel_rfl)
theorem en169 : Enters Try.prog 169 := enters_of Try.func169 (by kernel_rfl)
theorem fa85_0 {W : World} {F : Nat → Prop} {H : List Ent} {b o : Nat} : Runs ⟨Try.prog, W, F⟩ H (vS (Instr.fieldAt 85 (.pointer (some ⟨b, o, none⟩)) 0)) (.pointer (some ⟨b, o, none⟩)) := .of fun w => by kernel_rfl
theorem fa85_1 {W : World} {F : Nat → Prop} {H : List Ent} {b o : Nat} : Runs ⟨Try.prog, W, F⟩ H (vS (Instr.fieldAt 85 (.pointer (some ⟨b, o, none⟩)) 1)) (.pointer (some ⟨b, o + 1, none⟩)) := .of fun w => by kernel_rfl
theorem en170 : Enters Try.prog 170 := enters_of Try.func170 (by kernel_rfl)
theorem en171 : Enters Try.prog 171 := enters_of Try.func171 (by kernel_rfl)
theorem cv3_224 {W : World} {F : Nat → Prop} {H : List Ent} {x : Int} : Runs ⟨Try.prog, W, F⟩ H (vS (convert 3 224 (.int .i64 x))) (.int .u64 (IntKind.wrap .u64 x)) := .of fun w => by kernel_rfl
theorem z224 : zeroL Try.prog 224 = some [(.int .u64 0)] := by kernel_rfl
theorem sz224 : sizeB Try.prog 224 1 = true := by kernel_rfl
theorem en172 : Enters Try.prog 172 := enters_of Try.func172 (by kernel_rfl)
theorem en173 : Enters Try.prog 173 := enters_of Try.func173 (by kernel_rfl)
theorem cv129_3 {W : World} {F : Nat → Prop} {H : List Ent} {x : Int} : Runs ⟨Try.prog, W, F⟩ H (vS (convert 129 3 (.int .u64 x))) (.int .i64 (IntKind.wrap .i64 x)) := .of fun w => by kernel_rfl
theorem z3 : zeroL Try.prog 3 = some [(.int .i64 0)] := by kernel_rfl
theorem en174 : Enters Try.prog 174 := enters_of Try.func174 (by kernel_rfl)
theorem en175 : Enters Try.prog 175 := enters_of Try.func175 (by kernel_rfl)
theorem en176 : Enters Try.prog 176 := enters_of Try.func176 (by kernel_rfl)
theorem cv215_5 {W : World} {F : Nat → Prop} {H : List Ent} {x : Int} : Runs ⟨Try.prog, W, F⟩ H (vS (convert 215 5 (.int .u32 x))) (.int .u8 (IntKind.wrap .u8 x)) := .of fun w => by kernel_rfl
theorem cv5_3 {W : World} {F : Nat → Prop} {H : List Ent} {x : Int} : Runs ⟨Try.prog, W, F⟩ H (vS (convert 5 3 (.int .u8 x))) (.int .i64 (IntKind.wrap .i64 x)) := .of fun w => by kernel_rfl
theorem en162 : Enters Try.prog 162 := enters_of Try.func162 (by kernel_rfl)
theorem en178 : Enters Try.prog 178 := enters_of Try.func178 (by kernel_rfl)
theorem en177 : Enters Try.prog 177 := enters_of Try.func177 (by kernel_rfl)
theorem o224 : one Try.prog 224 = true := by kernel_rfl
theorem en179 : Enters Try.prog 179 := enters_of Try.func179 (by kernel_rfl)
end Go.Proofs.Ytipgdalebkhgpaa
