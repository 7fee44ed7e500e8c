/-
  Facts on types, fields, builds, calls.
-/
import Derived.Test.YtllchkmggfcdgaaChecked
import Derived.Test.YtllchkmggfcdgaaFw16
set_option maxRecDepth 100000
set_option linter.unusedVariables false
namespace Go.Proofs.Ytllchkmggfcdgaa
open Go Go.RowKit Fw
theorem hmix : Try.prog.follows .mixedOrders = true := by kernel_rfl
theorem ag23 : aggN Try.prog 23 16 = true := by kernel_rfl
theorem en10 : Enters Try.prog 10 := enters_of Try.func10 (by kernel_rfl)
theorem sl24 : slT Try.prog 24 2 1 8 = true := by kernel_rfl
theorem en11 : Enters Try.prog 11 := enters_of Try.func11 (by kernel_rfl)
theorem bd29 {W : World} {F : Nat → Prop} {H : List Ent} : Runs ⟨Try.prog, W, F⟩ H (vS (Instr.build 29 #[])) (.agg [(.bool false), (.int .i64 0)].toArray) := .of fun w => by kernel_rfl
theorem z29 : zeroL Try.prog 29 = some [(.bool false), (.int .i64 0)] := by kernel_rfl
theorem sz29 : sizeB Try.prog 29 2 = true := by kernel_rfl
theorem bd30 {W : World} {F : Nat → Prop} {H : List Ent} : Runs ⟨Try.prog, W, F⟩ H (vS (Instr.build 30 #[])) (.agg [(.bool false), (.int .i64 0)].toArray) := .of fun w => by kernel_rfl
theorem z30 : zeroL Try.prog 30 = some [(.bool false), (.int .i64 0)] := by kernel_rfl
theorem sz30 : sizeB Try.prog 30 2 = true := by kernel_rfl
theorem sl25 : slT Try.prog 25 4 1 1 = true := by kernel_rfl
theorem o2 : one Try.prog 2 = true := by kernel_rfl
theorem ag29 : aggN Try.prog 29 2 = true := by kernel_rfl
theorem o4 : one Try.prog 4 = true := by kernel_rfl
theorem en12 : Enters Try.prog 12 := enters_of Try.func12 (by kernel_rfl)
theorem ag30 : aggN Try.prog 30 2 = true := by kernel_rfl
theorem en13 : Enters Try.prog 13 := enters_of Try.func13 (by kernel_rfl)
theorem en14 : Enters Try.prog 14 := enters_of Try.func14 (by kernel_rfl)
theorem gt29 : eqT Try.prog 29 [.bool, .int .i64] := ⟨by kernel_rfl, by kernel_rfl⟩
theorem en15 : Enters Try.prog 15 := enters_of Try.func15 (by kernel_rfl)
theorem en16 : Enters Try.prog 16 := enters_of Try.func16 (by kernel_rfl)
theorem bl4 : Try.prog.underlying 4 = some .bool := by kernel_rfl
theorem en3 : Enters Try.prog 3 := enters_of Try.func3 (by kernel_rfl)
theorem en17 : Enters Try.prog 17 := enters_of Try.func17 (by kernel_rfl)
theorem en18 : Enters Try.prog 18 := enters_of Try.func18 (by kernel_rfl)
theorem bd42_0 {W : World} {F : Nat → Prop} {H : List Ent} {x0 : Int} : Runs ⟨Try.prog, W, F⟩ H (vS (Instr.build 42 #[(0, .int .u64 x0)])) (.agg [.int .u64 x0].toArray) := .of fun w => by kernel_rfl
theorem en19 : Enters Try.prog 19 := enters_of Try.func19 (by kernel_rfl)
theorem en20 : Enters Try.prog 20 := enters_of Try.func20 (by kernel_rfl)
theorem en4 : Enters Try.prog 4 := enters_of Try.func4 (by kernel_rfl)
theorem fa30_1 {W : World} {F : Nat → Prop} {H : List Ent} {b o : Nat} : Runs ⟨Try.prog, W, F⟩ H (vS (Instr.fieldAt 30 (.pointer (some ⟨b, o, none⟩)) 1)) (.pointer (some ⟨b, o + 1, none⟩)) := .of fun w => by kernel_rfl
theorem en21 : Enters Try.prog 21 := enters_of Try.func21 (by kernel_rfl)
theorem en22 : Enters Try.prog 22 := enters_of Try.func22 (by kernel_rfl)
theorem en23 : Enters Try.prog 23 := enters_of Try.func23 (by kernel_rfl)
theorem en24 : Enters Try.prog 24 := enters_of Try.func24 (by kernel_rfl)
theorem en5 : Enters Try.prog 5 := enters_of Try.func5 (by kernel_rfl)
theorem z4 : zeroL Try.prog 4 = some [(.bool false)] := by kernel_rfl
theorem sz4 : sizeB Try.prog 4 1 = true := by kernel_rfl
theorem z3 : zeroL Try.prog 3 = some [(.int .i64 0)] := by kernel_rfl
theorem sz3 : sizeB Try.prog 3 1 = true := by kernel_rfl
theorem en25 : Enters Try.prog 25 := enters_of Try.func25 (by kernel_rfl)
theorem o3 : one Try.prog 3 = true := by kernel_rfl
theorem en26 : Enters Try.prog 26 := enters_of Try.func26 (by kernel_rfl)
theorem sl54 : slT Try.prog 54 9 1 16 = true := by kernel_rfl
theorem o9 : one Try.prog 9 = true := by kernel_rfl
theorem st9 : Try.prog.underlying 9 = some .string := by kernel_rfl
theorem en6 : Enters Try.prog 6 := enters_of Try.func6 (by kernel_rfl)
theorem sl57 : slT Try.prog 57 89 9 72 = true := by kernel_rfl
theorem en27 : Enters Try.prog 27 := enters_of Try.func27 (by kernel_rfl)
theorem en28 : Enters Try.prog 28 := enters_of Try.func28 (by kernel_rfl)
theorem en29 : Enters Try.prog 29 := enters_of Try.func29 (by kernel_rfl)
theorem en32 : Enters Try.prog 32 := enters_of Try.func32 (by kernel_rfl)
theorem en31 : Enters Try.prog 31 := enters_of Try.func31 (by kernel_rfl)
theorem en33 : Enters Try.prog 33 := enters_of Try.func33 (by kernel_rfl)
theorem en30 : Enters Try.prog 30 := enters_of Try.func30 (by kernel_rfl)
theorem en7 : Enters Try.prog 7 := enters_of Try.func7 (by kernel_rfl)
theorem sl60 : slT Try.prog 60 67 3 24 = true := by kernel_rfl
theorem fa67_0 {W : World} {F : Nat → Prop} {H : List Ent} {b o : Nat} : Runs ⟨Try.prog, W, F⟩ H (vS (Instr.fieldAt 67 (.pointer (some ⟨b, o, none⟩)) 0)) (.pointer (some ⟨b, o, none⟩)) := .of fun w => by kernel_rfl
theorem fa67_1 {W : World} {F : Nat → Prop} {H : List Ent} {b o : Nat} : Runs ⟨Try.prog, W, F⟩ H (vS (Instr.fieldAt 67 (.pointer (some ⟨b, o, none⟩)) 1)) (.pointer (some ⟨b, o + 1, none⟩)) := .of fun w => by kernel_rfl
theorem fa67_2 {W : World} {F : Nat → Prop} {H : List Ent} {b o : Nat} : Runs ⟨Try.prog, W, F⟩ H (vS (Instr.fieldAt 67 (.pointer (some ⟨b, o, none⟩)) 2)) (.pointer (some ⟨b, o + 2, none⟩)) := .of fun w => by kernel_rfl
theorem bd68_0_1_2 {W : World} {F : Nat → Prop} {H : List Ent} {x0 : Int} {x1 : Int} {x2 : Int} : Runs ⟨Try.prog, W, F⟩ H (vS (Instr.build 68 #[(0, .int .i64 x0), (1, .int .i64 x1), (2, .int .i64 x2)])) (.agg [.int .i64 x0, .int .i64 x1, .int .i64 x2].toArray) := .of fun w => by kernel_rfl
theorem sl62 : slT Try.prog 62 68 3 24 = true := by kernel_rfl
theorem en34 : Enters Try.prog 34 := enters_of Try.func34 (by kernel_rfl)
theorem en35 : Enters Try.prog 35 := enters_of Try.func35 (by kernel_rfl)
theorem en36 : Enters Try.prog 36 := enters_of Try.func36 (by kernel_rfl)
theorem en8 : Enters Try.prog 8 := enters_of Try.func8 (by kernel_rfl)
theorem fa68_0 {W : World} {F : Nat → Prop} {H : List Ent} {b o : Nat} : Runs ⟨Try.prog, W, F⟩ H (vS (Instr.fieldAt 68 (.pointer (some ⟨b, o, none⟩)) 0)) (.pointer (some ⟨b, o, none⟩)) := .of fun w => by kernel_rfl
theorem en9 : Enters Try.prog 9 := enters_of Try.func9 (by kernel_rfl)
theorem fa23_6 {W : World} {F : Nat → Prop} {H : List Ent} {b o : Nat} : Runs ⟨Try.prog, W, F⟩ H (vS (Instr.fieldAt 23 (.pointer (some ⟨b, o, none⟩)) 6)) (.pointer (some ⟨b, o + 6, none⟩)) := .of fun w => by kernel_rfl
theorem bd23_6 {W : World} {F : Nat → Prop} {H : List Ent} {x0 : Int} : Runs ⟨Try.prog, W, F⟩ H (vS (Instr.build 23 #[(6, .int .i64 x0)])) (.agg [(.int .i64 0), (.int .i64 0), (.int .i64 0), (.int .i64 0), (.int .i64 0), (.int .i64 0), .int .i64 x0, (.int .i64 0), (.int .i64 0), (.int .i64 0), (.int .i64 0), (.int .i64 0), (.int .i64 0), (.int .i64 0), (.int .i64 0), (.int .i64 0)].toArray) := .of fun w => by kernel_rfl
theorem z23 : zeroL Try.prog 23 = some [(.int .i64 0), (.int .i64 0), (.int .i64 0), (.int .i64 0), (.int .i64 0), (.int .i64 0), (.int .i64 0), (.int .i64 0), (.int .i64 0), (.int .i64 0), (.int .i64 0), (.int .i64 0), (.int .i64 0), (.int .i64 0), (.int .i64 0), (.int .i64 0)] := by kernel_rfl
theorem sz23 : sizeB Try.prog 23 16 = true := by kernel_rfl
theorem bd29_0_1 {W : World} {F : Nat → Prop} {H : List Ent} {x0 : Bool} {x1 : Int} : Runs ⟨Try.prog, W, F⟩ H (vS (Instr.build 29 #[(0, .bool x0), (1, .int .i64 x1)])) (.agg [.bool x0, .int .i64 x1].toArray) := .of fun w => by kernel_rfl
theorem fa29_0 {W : World} {F : Nat → Prop} {H : List Ent} {b o : Nat} : Runs ⟨Try.prog, W, F⟩ H (vS (Instr.fieldAt 29 (.pointer (some ⟨b, o, none⟩)) 0)) (.pointer (some ⟨b, o, none⟩)) := .of fun w => by kernel_rfl
theorem fa30_0 {W : World} {F : Nat → Prop} {H : List Ent} {b o : Nat} : Runs ⟨Try.prog, W, F⟩ H (vS (Instr.fieldAt 30 (.pointer (some ⟨b, o, none⟩)) 0)) (.pointer (some ⟨b, o, none⟩)) := .of fun w => by kernel_rfl
theorem bd30_0_1 {W : World} {F : Nat → Prop} {H : List Ent} {x0 : Bool} {x1 : Int} : Runs ⟨Try.prog, W, F⟩ H (vS (Instr.build 30 #[(0, .bool x0), (1, .int .i64 x1)])) (.agg [.bool x0, .int .i64 x1].toArray) := .of fun w => by kernel_rfl
theorem en38 : Enters Try.prog 38 := enters_of Try.func38 (by kernel_rfl)
theorem en37 : Enters Try.prog 37 := enters_of Try.func37 (by kernel_rfl)
theorem bd82_0 {W : World} {F : Nat → Prop} {H : List Ent} {x0 : Int} : Runs ⟨Try.prog, W, F⟩ H (vS (Instr.build 82 #[(0, .int .u64 x0)])) (.agg [.int .u64 x0].toArray) := .of fun w => by kernel_rfl
theorem pt38 : Try.prog.underlying 38 = some (.pointer 82) := by kernel_rfl
theorem fa82_0 {W : World} {F : Nat → Prop} {H : List Ent} {b o : Nat} : Runs ⟨Try.prog, W, F⟩ H (vS (Instr.fieldAt 82 (.pointer (some ⟨b, o, none⟩)) 0)) (.pointer (some ⟨b, o, none⟩)) := .of fun w => by kernel_rfl
theorem o37 : one Try.prog 37 = true := by kernel_rfl
theorem sz37 : sizeB Try.prog 37 1 = true := by kernel_rfl
theorem cv37_2 {W : World} {F : Nat → Prop} {H : List Ent} {x : Int} : Runs ⟨Try.prog, W, F⟩ H (vS (convert 37 2 (.int .u64 x))) (.int .i64 (IntKind.wrap .i64 x)) := .of fun w => by kernel_rfl
theorem fa42_0 {W : World} {F : Nat → Prop} {H : List Ent} {b o : Nat} : Runs ⟨Try.prog, W, F⟩ H (vS (Instr.fieldAt 42 (.pointer (some ⟨b, o, none⟩)) 0)) (.pointer (some ⟨b, o, none⟩)) := .of fun w => by kernel_rfl
theorem bd85_0_1 {W : World} {F : Nat → Prop} {H : List Ent} {x0 : Bool} {x1 : Int} {x2 : Int} : Runs ⟨Try.prog, W, F⟩ H (vS (Instr.build 85 #[(0, .agg [.bool x0, .int .i64 x1].toArray), (1, .int .i64 x2)])) (.agg [.bool x0, .int .i64 x1, .int .i64 x2].toArray) := .of fun w => by kernel_rfl
theorem z85 : zeroL Try.prog 85 = some [(.bool false), (.int .i64 0), (.int .i64 0)] := by kernel_rfl
theorem sz85 : sizeB Try.prog 85 3 = true := by kernel_rfl
theorem fa85_0 {W : World} {F : Nat → Prop} {H : List Ent} {b o : Nat} : Runs ⟨Try.prog, W, F⟩ H (vS (Instr.fieldAt 85 (.pointer (some ⟨b, o, none⟩)) 0)) (.pointer (some ⟨b, o, none⟩)) := .of fun w => by kernel_rfl
theorem ag85 : aggN Try.prog 85 3 = true := by kernel_rfl
theorem en39 : Enters Try.prog 39 := enters_of Try.func39 (by kernel_rfl)
theorem en40 : Enters Try.prog 40 := enters_of Try.func40 (by kernel_rfl)
theorem bd89_4 {W : World} {F : Nat → Prop} {H : List Ent} {x0 : Int} : Runs ⟨Try.prog, W, F⟩ H (vS (Instr.build 89 #[(4, .int .i64 x0)])) (.agg [(.int .i64 0), (.int .i64 0), (.int .i64 0), (.int .i64 0), .int .i64 x0, (.int .i64 0), (.int .i64 0), (.int .i64 0), (.int .i64 0)].toArray) := .of fun w => by kernel_rfl
theorem z89 : zeroL Try.prog 89 = some [(.int .i64 0), (.int .i64 0), (.int .i64 0), (.int .i64 0), (.int .i64 0), (.int .i64 0), (.int .i64 0), (.int .i64 0), (.int .i64 0)] := by kernel_rfl
theorem sz89 : sizeB Try.prog 89 9 = true := by kernel_rfl
theorem ag89 : aggN Try.prog 89 9 = true := by kernel_rfl
theorem ag68 : aggN Try.prog 68 3 = true := by kernel_rfl
theorem bd68_0 {W : World} {F : Nat → Prop} {H : List Ent} {x0 : Int} : Runs ⟨Try.prog, W, F⟩ H (vS (Instr.build 68 #[(0, .int .i64 x0)])) (.agg [.int .i64 x0, (.int .i64 0), (.int .i64 0)].toArray) := .of fun w => by kernel_rfl
theorem gt68 : eqT Try.prog 68 [.int .i64, .int .i64, .int .i64] := ⟨by kernel_rfl, by kernel_rfl⟩
theorem bd68_1 {W : World} {F : Nat → Prop} {H : List Ent} {x0 : Int} : Runs ⟨Try.prog, W, F⟩ H (vS (Instr.build 68 #[(1, .int .i64 x0)])) (.agg [(.int .i64 0), .int .i64 x0, (.int .i64 0)].toArray) := .of fun w => by kernel_rfl
theorem en41 : Enters Try.prog 41 := enters_of Try.func41 (by kernel_rfl)
theorem en42 : Enters Try.prog 42 := enters_of Try.func42 (by kernel_rfl)
theorem en43 : Enters Try.prog 43 := enters_of Try.func43 (by kernel_rfl)
theorem en44 : Enters Try.prog 44 := enters_of Try.func44 (by kernel_rfl)
theorem sl94 : slT Try.prog 94 93 1 24 = true := by kernel_rfl
theorem o93 : one Try.prog 93 = true := by kernel_rfl
theorem sl93 : slT Try.prog 93 3 1 8 = true := by kernel_rfl
theorem ag67 : aggN Try.prog 67 3 = true := by kernel_rfl
theorem gt67 : eqT Try.prog 67 [.int .i64, .int .i64, .int .i64] := ⟨by kernel_rfl, by kernel_rfl⟩
theorem fa68_1 {W : World} {F : Nat → Prop} {H : List Ent} {b o : Nat} : Runs ⟨Try.prog, W, F⟩ H (vS (Instr.fieldAt 68 (.pointer (some ⟨b, o, none⟩)) 1)) (.pointer (some ⟨b, o + 1, none⟩)) := .of fun w => by kernel_rfl
theorem fa68_2 {W : World} {F : Nat → Prop} {H : List Ent} {b o : Nat} : Runs ⟨Try.prog, W, F⟩ H (vS (Instr.fieldAt 68 (.pointer (some ⟨b, o, none⟩)) 2)) (.pointer (some ⟨b, o + 2, none⟩)) := .of fun w => by kernel_rfl
theorem bd67_0_1_2 {W : World} {F : Nat → Prop} {H : List Ent} {x0 : Int} {x1 : Int} {x2 : Int} : Runs ⟨Try.prog, W, F⟩ H (vS (Instr.build 67 #[(0, .int .i64 x0), (1, .int .i64 x1), (2, .int .i64 x2)])) (.agg [.int .i64 x0, .int .i64 x1, .int .i64 x2].toArray) := .of fun w => by kernel_rfl
theorem z68 : zeroL Try.prog 68 = some [(.int .i64 0), (.int .i64 0), (.int .i64 0)] := by kernel_rfl
theorem sz68 : sizeB Try.prog 68 3 = true := by kernel_rfl
theorem gt89 : eqT Try.prog 89 [.int .i64, .int .i64, .int .i64, .int .i64, .int .i64, .int .i64, .int .i64, .int .i64, .int .i64] := ⟨by kernel_rfl, by kernel_rfl⟩
theorem en46 : Enters Try.prog 46 := enters_of Try.func46 (by kernel_rfl)
theorem z67 : zeroL Try.prog 67 = some [(.int .i64 0), (.int .i64 0), (.int .i64 0)] := by kernel_rfl
theorem sz67 : sizeB Try.prog 67 3 = true := by kernel_rfl
theorem fa79_1 {W : World} {F : Nat → Prop} {H : List Ent} {b o : Nat} : Runs ⟨Try.prog, W, F⟩ H (vS (Instr.fieldAt 79 (.pointer (some ⟨b, o, none⟩)) 1)) (.pointer (some ⟨b, o + 1, none⟩)) := .of fun w => by kernel_rfl
theorem o75 : one Try.prog 75 = true := by kernel_rfl
theorem en47 : Enters Try.prog 47 := enters_of Try.func47 (by kernel_rfl)
theorem sl75 : slT Try.prog 75 100 2 16 = true := by kernel_rfl
theorem fa100_0 {W : World} {F : Nat → Prop} {H : List Ent} {b o : Nat} : Runs ⟨Try.prog, W, F⟩ H (vS (Instr.fieldAt 100 (.pointer (some ⟨b, o, none⟩)) 0)) (.pointer (some ⟨b, o, none⟩)) := .of fun w => by kernel_rfl
theorem z79 : zeroL Try.prog 79 = some [(.slice none 0 0), (.slice none 0 0), (.int .i64 0), (.int .i64 0), (.int .i64 0), (.int .i64 0), (.int .i64 0), (.int .i64 0)] := by kernel_rfl
theorem bd23_0_1_2_3_4_5_6_7_8_9_10_11_12_13_14_15 {W : World} {F : Nat → Prop} {H : List Ent} {x0 : Int} {x1 : Int} {x2 : Int} {x3 : Int} {x4 : Int} {x5 : Int} {x6 : Int} {x7 : Int} {x8 : Int} {x9 : Int} {x10 : Int} {x11 : Int} {x12 : Int} {x13 : Int} {x14 : Int} {x15 : Int} : Runs ⟨Try.prog, W, F⟩ H (vS (Instr.build 23 #[(0, .int .i64 x0), (1, .int .i64 x1), (2, .int .i64 x2), (3, .int .i64 x3), (4, .int .i64 x4), (5, .int .i64 x5), (6, .int .i64 x6), (7, .int .i64 x7), (8, .int .i64 x8), (9, .int .i64 x9), (10, .int .i64 x10), (11, .int .i64 x11), (12, .int .i64 x12), (13, .int .i64 x13), (14, .int .i64 x14), (15, .int .i64 x15)])) (.agg [.int .i64 x0, .int .i64 x1, .int .i64 x2, .int .i64 x3, .int .i64 x4, .int .i64 x5, .int .i64 x6, .int .i64 x7, .int .i64 x8, .int .i64 x9, .int .i64 x10, .int .i64 x11, .int .i64 x12, .int .i64 x13, .int .i64 x14, .int .i64 x15].toArray) := .of fun w => by kernel_rfl
theorem bd100_0_1 {W : World} {F : Nat → Prop} {H : List Ent} {x0 : Int} {x1 : Int} : Runs ⟨Try.prog, W, F⟩ H (vS (Instr.build 100 #[(0, .int .i64 x0), (1, .int .i64 x1)])) (.agg [.int .i64 x0, .int .i64 x1].toArray) := .of fun w => by kernel_rfl
theorem bd100_0 {W : World} {F : Nat → Prop} {H : List Ent} {x0 : Int} : Runs ⟨Try.prog, W, F⟩ H (vS (Instr.build 100 #[(0, .int .i64 x0)])) (.agg [.int .i64 x0, (.int .i64 0)].toArray) := .of fun w => by kernel_rfl
theorem bd76_0_1_2 {W : World} {F : Nat → Prop} {H : List Ent} {x0 : Int} {x1 : Int} {x2 : Int} : Runs ⟨Try.prog, W, F⟩ H (vS (Instr.build 76 #[(0, .int .i64 x0), (1, .int .i64 x1), (2, .int .i64 x2)])) (.agg [.int .i64 x0, .int .i64 x1, .int .i64 x2].toArray) := .of fun w => by kernel_rfl
theorem bd77_0_1 {W : World} {F : Nat → Prop} {H : List Ent} {x0 : Int} {x1 : Int} : Runs ⟨Try.prog, W, F⟩ H (vS (Instr.build 77 #[(0, .int .i64 x0), (1, .int .i64 x1)])) (.agg [.int .i64 x0, .int .i64 x1].toArray) := .of fun w => by kernel_rfl
theorem bd79_1_2_3_4 {W : World} {F : Nat → Prop} {H : List Ent} {x0 : Option Addr} {x1 : Nat} {x2 : Nat} {x3 : Int} {x4 : Int} {x5 : Int} {x6 : Int} {x7 : Int} {x8 : Int} : Runs ⟨Try.prog, W, F⟩ H (vS (Instr.build 79 #[(1, .slice x0 x1 x2), (2, .int .i64 x3), (3, .agg [.int .i64 x4, .int .i64 x5, .int .i64 x6].toArray), (4, .agg [.int .i64 x7, .int .i64 x8].toArray)])) (.agg [(.slice none 0 0), .slice x0 x1 x2, .int .i64 x3, .int .i64 x4, .int .i64 x5, .int .i64 x6, .int .i64 x7, .int .i64 x8].toArray) := .of fun w => by kernel_rfl
theorem sz79 : sizeB Try.prog 79 8 = true := by kernel_rfl
theorem fa79_0 {W : World} {F : Nat → Prop} {H : List Ent} {b o : Nat} : Runs ⟨Try.prog, W, F⟩ H (vS (Instr.fieldAt 79 (.pointer (some ⟨b, o, none⟩)) 0)) (.pointer (some ⟨b, o, none⟩)) := .of fun w => by kernel_rfl
theorem o74 : one Try.prog 74 = true := by kernel_rfl
theorem sl74 : slT Try.prog 74 23 16 128 = true := by kernel_rfl
theorem sz74 : sizeB Try.prog 74 1 = true := by kernel_rfl
theorem ag79 : aggN Try.prog 79 8 = true := by kernel_rfl
theorem fa29_1 {W : World} {F : Nat → Prop} {H : List Ent} {b o : Nat} : Runs ⟨Try.prog, W, F⟩ H (vS (Instr.fieldAt 29 (.pointer (some ⟨b, o, none⟩)) 1)) (.pointer (some ⟨b, o + 1, none⟩)) := .of fun w => by kernel_rfl
theorem fa85_1 {W : World} {F : Nat → Prop} {H : List Ent} {b o : Nat} : Runs ⟨Try.prog, W, F⟩ H (vS (Instr.fieldAt 85 (.pointer (some ⟨b, o, none⟩)) 1)) (.pointer (some ⟨b, o + 2, none⟩)) := .of fun w => by kernel_rfl
theorem bd104_0_1_2 {W : World} {F : Nat → Prop} {H : List Ent} {x0 : Option Addr} {x1 : Nat} {x2 : Nat} {x3 : Option Addr} {x4 : Nat} {x5 : Nat} {x6 : Option Addr} {x7 : Nat} {x8 : Nat} : Runs ⟨Try.prog, W, F⟩ H (vS (Instr.build 104 #[(0, .slice x0 x1 x2), (1, .slice x3 x4 x5), (2, .slice x6 x7 x8)])) (.agg [.slice x0 x1 x2, .slice x3 x4 x5, .slice x6 x7 x8].toArray) := .of fun w => by kernel_rfl
theorem fa104_2 {W : World} {F : Nat → Prop} {H : List Ent} {b o : Nat} : Runs ⟨Try.prog, W, F⟩ H (vS (Instr.fieldAt 104 (.pointer (some ⟨b, o, none⟩)) 2)) (.pointer (some ⟨b, o + 2, none⟩)) := .of fun w => by kernel_rfl
theorem fa104_1 {W : World} {F : Nat → Prop} {H : List Ent} {b o : Nat} : Runs ⟨Try.prog, W, F⟩ H (vS (Instr.fieldAt 104 (.pointer (some ⟨b, o, none⟩)) 1)) (.pointer (some ⟨b, o + 1, none⟩)) := .of fun w => by kernel_rfl
theorem o57 : one Try.prog 57 = true := by kernel_rfl
theorem z93 : zeroL Try.prog 93 = some [(.slice none 0 0)] := by kernel_rfl
theorem sz93 : sizeB Try.prog 93 1 = true := by kernel_rfl
theorem fa104_0 {W : World} {F : Nat → Prop} {H : List Ent} {b o : Nat} : Runs ⟨Try.prog, W, F⟩ H (vS (Instr.fieldAt 104 (.pointer (some ⟨b, o, none⟩)) 0)) (.pointer (some ⟨b, o, none⟩)) := .of fun w => by kernel_rfl
theorem en45 : Enters Try.prog 45 := enters_of Try.func45 (by kernel_rfl)
theorem ag100 : aggN Try.prog 100 2 = true := by kernel_rfl
theorem fa100_1 {W : World} {F : Nat → Prop} {H : List Ent} {b o : Nat} : Runs ⟨Try.prog, W, F⟩ H (vS (Instr.fieldAt 100 (.pointer (some ⟨b, o, none⟩)) 1)) (.pointer (some ⟨b, o + 1, none⟩)) := .of fun w => by kernel_rfl
theorem en48 : Enters Try.prog 48 := enters_of Try.func48 (by kernel_rfl)
theorem o54 : one Try.prog 54 = true := by kernel_rfl
theorem en49 : Enters Try.prog 49 := enters_of Try.func49 (by kernel_rfl)
end Go.Proofs.Ytllchkmggfcdgaa
