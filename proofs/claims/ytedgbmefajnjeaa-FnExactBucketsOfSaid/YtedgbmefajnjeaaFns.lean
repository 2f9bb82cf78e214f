/-
  A call of each function of the program that has a body enters it.
-/
import Derived.Test.YtedgbmefajnjeaaStDraw
import Derived.Test.YtedgbmefajnjeaaRows
set_option linter.unusedSimpArgs false
set_option linter.unusedVariables false
namespace Go.Proofs.Ytedgbmefajnjeaa.St
theorem mixed : Try.prog.follows .mixedOrders = true := by kernel_rfl
theorem en3 : Enters Try.prog 3 := enters_of Try.func3 (by kernel_rfl) rfl
instance : En Try.prog 3 := ⟨en3⟩
theorem en4 : Enters Try.prog 4 := enters_of Try.func4 (by kernel_rfl) rfl
instance : En Try.prog 4 := ⟨en4⟩
theorem en5 : Enters Try.prog 5 := enters_of Try.func5 (by kernel_rfl) rfl
instance : En Try.prog 5 := ⟨en5⟩
theorem en6 : Enters Try.prog 6 := enters_of Try.func6 (by kernel_rfl) rfl
instance : En Try.prog 6 := ⟨en6⟩
theorem en7 : Enters Try.prog 7 := enters_of Try.func7 (by kernel_rfl) rfl
instance : En Try.prog 7 := ⟨en7⟩
theorem en8 : Enters Try.prog 8 := enters_of Try.func8 (by kernel_rfl) rfl
instance : En Try.prog 8 := ⟨en8⟩
theorem en9 : Enters Try.prog 9 := enters_of Try.func9 (by kernel_rfl) rfl
instance : En Try.prog 9 := ⟨en9⟩
theorem en10 : Enters Try.prog 10 := enters_of Try.func10 (by kernel_rfl) rfl
instance : En Try.prog 10 := ⟨en10⟩
theorem en11 : Enters Try.prog 11 := enters_of Try.func11 (by kernel_rfl) rfl
instance : En Try.prog 11 := ⟨en11⟩
theorem en12 : Enters Try.prog 12 := enters_of Try.func12 (by kernel_rfl) rfl
instance : En Try.prog 12 := ⟨en12⟩
theorem en13 : Enters Try.prog 13 := enters_of Try.func13 (by kernel_rfl) rfl
instance : En Try.prog 13 := ⟨en13⟩
theorem en14 : Enters Try.prog 14 := enters_of Try.func14 (by kernel_rfl) rfl
instance : En Try.prog 14 := ⟨en14⟩
theorem en15 : Enters Try.prog 15 := enters_of Try.func15 (by kernel_rfl) rfl
instance : En Try.prog 15 := ⟨en15⟩
theorem en16 : Enters Try.prog 16 := enters_of Try.func16 (by kernel_rfl) rfl
instance : En Try.prog 16 := ⟨en16⟩
theorem en17 : Enters Try.prog 17 := enters_of Try.func17 (by kernel_rfl) rfl
instance : En Try.prog 17 := ⟨en17⟩
instance : Sz Try.prog 1 (.nilFunc) 1 8 := ⟨by kernel_rfl⟩
instance : ZeroC Try.prog 1 [.nilFunc] := ⟨zeroC_of (z := .nilFunc) (by kernel_rfl) rfl⟩
instance : Scalar Try.prog 1 := ⟨_, Try.underlying1, rfl⟩
instance : Sz Try.prog 2 (.int .i64 0) 1 8 := ⟨by kernel_rfl⟩
instance : ZeroC Try.prog 2 [.int .i64 0] := ⟨zeroC_of (z := .int .i64 0) (by kernel_rfl) rfl⟩
instance : Scalar Try.prog 2 := ⟨_, Try.underlying2, rfl⟩
instance : Sz Try.prog 3 (.int .i64 0) 1 8 := ⟨by kernel_rfl⟩
instance : ZeroC Try.prog 3 [.int .i64 0] := ⟨zeroC_of (z := .int .i64 0) (by kernel_rfl) rfl⟩
instance : Scalar Try.prog 3 := ⟨_, Try.underlying3, rfl⟩
instance : Sz Try.prog 4 (.bool false) 1 1 := ⟨by kernel_rfl⟩
instance : ZeroC Try.prog 4 [.bool false] := ⟨zeroC_of (z := .bool false) (by kernel_rfl) rfl⟩
instance : Scalar Try.prog 4 := ⟨_, Try.underlying4, rfl⟩
instance : BoolT Try.prog 4 := ⟨Try.underlying4⟩
instance : Sz Try.prog 5 (.int .u8 0) 1 1 := ⟨by kernel_rfl⟩
instance : ZeroC Try.prog 5 [.int .u8 0] := ⟨zeroC_of (z := .int .u8 0) (by kernel_rfl) rfl⟩
instance : Scalar Try.prog 5 := ⟨_, Try.underlying5, rfl⟩
instance : Sz Try.prog 6 (.int .u8 0) 1 1 := ⟨by kernel_rfl⟩
instance : ZeroC Try.prog 6 [.int .u8 0] := ⟨zeroC_of (z := .int .u8 0) (by kernel_rfl) rfl⟩
instance : Scalar Try.prog 6 := ⟨_, Try.underlying6, rfl⟩
instance : Sz Try.prog 7 (.agg #[.int .i64 0, .int .i64 0, .bool false, .int .u8 0]) 4 24 := ⟨by kernel_rfl⟩
instance : ZeroC Try.prog 7 [.int .i64 0, .int .i64 0, .bool false, .int .u8 0] := ⟨zeroC_of (z := .agg #[.int .i64 0, .int .i64 0, .bool false, .int .u8 0]) (by kernel_rfl) rfl⟩
instance : Parts Try.prog 7 [(0, 1), (1, 1), (2, 1), (3, 1)] := ⟨.inl ⟨_, Try.underlying7, by kernel_rfl, by kernel_rfl⟩⟩
instance : Aggr Try.prog 7 4 := ⟨⟨_, Try.underlying7, rfl⟩, by kernel_rfl⟩
instance : Fld Try.prog 7 0 0 := ⟨fld_of (by kernel_rfl)⟩
instance : Fld Try.prog 7 1 1 := ⟨fld_of (by kernel_rfl)⟩
instance : Fld Try.prog 7 2 2 := ⟨fld_of (by kernel_rfl)⟩
instance : Fld Try.prog 7 3 3 := ⟨fld_of (by kernel_rfl)⟩
instance : Sz Try.prog 8 (.agg #[.int .i64 0, .int .i64 0, .bool false, .int .u8 0]) 4 24 := ⟨by kernel_rfl⟩
instance : ZeroC Try.prog 8 [.int .i64 0, .int .i64 0, .bool false, .int .u8 0] := ⟨zeroC_of (z := .agg #[.int .i64 0, .int .i64 0, .bool false, .int .u8 0]) (by kernel_rfl) rfl⟩
instance : Parts Try.prog 8 [(0, 1), (1, 1), (2, 1), (3, 1)] := ⟨.inl ⟨_, Try.underlying8, by kernel_rfl, by kernel_rfl⟩⟩
instance : Aggr Try.prog 8 4 := ⟨⟨_, Try.underlying8, rfl⟩, by kernel_rfl⟩
instance : Fld Try.prog 8 0 0 := ⟨fld_of (by kernel_rfl)⟩
instance : Fld Try.prog 8 1 1 := ⟨fld_of (by kernel_rfl)⟩
instance : Fld Try.prog 8 2 2 := ⟨fld_of (by kernel_rfl)⟩
instance : Fld Try.prog 8 3 3 := ⟨fld_of (by kernel_rfl)⟩
instance : Sz Try.prog 9 (.string ⟨#[]⟩) 1 16 := ⟨by kernel_rfl⟩
instance : ZeroC Try.prog 9 [.string ⟨#[]⟩] := ⟨zeroC_of (z := .string ⟨#[]⟩) (by kernel_rfl) rfl⟩
instance : Scalar Try.prog 9 := ⟨_, Try.underlying9, rfl⟩
instance : StrT Try.prog 9 := ⟨Try.underlying9⟩
instance : Sz Try.prog 12 (.int .u64 0) 1 8 := ⟨by kernel_rfl⟩
instance : ZeroC Try.prog 12 [.int .u64 0] := ⟨zeroC_of (z := .int .u64 0) (by kernel_rfl) rfl⟩
instance : Scalar Try.prog 12 := ⟨_, Try.underlying12, rfl⟩
instance : Sz Try.prog 13 (.agg #[.string ⟨#[]⟩, .int .u64 0]) 2 24 := ⟨by kernel_rfl⟩
instance : ZeroC Try.prog 13 [.string ⟨#[]⟩, .int .u64 0] := ⟨zeroC_of (z := .agg #[.string ⟨#[]⟩, .int .u64 0]) (by kernel_rfl) rfl⟩
instance : Parts Try.prog 13 [(0, 1), (1, 1)] := ⟨.inl ⟨_, Try.underlying13, by kernel_rfl, by kernel_rfl⟩⟩
instance : Aggr Try.prog 13 2 := ⟨⟨_, Try.underlying13, rfl⟩, by kernel_rfl⟩
instance : Fld Try.prog 13 0 0 := ⟨fld_of (by kernel_rfl)⟩
instance : Fld Try.prog 13 1 1 := ⟨fld_of (by kernel_rfl)⟩
instance : Sz Try.prog 17 (.pointer none) 1 8 := ⟨by kernel_rfl⟩
instance : ZeroC Try.prog 17 [.pointer none] := ⟨zeroC_of (z := .pointer none) (by kernel_rfl) rfl⟩
instance : Scalar Try.prog 17 := ⟨_, Try.underlying17, rfl⟩
instance : Sz Try.prog 18 (.agg #[.pointer none]) 1 8 := ⟨by kernel_rfl⟩
instance : ZeroC Try.prog 18 [.pointer none] := ⟨zeroC_of (z := .agg #[.pointer none]) (by kernel_rfl) rfl⟩
instance : Parts Try.prog 18 [(0, 1)] := ⟨.inl ⟨_, Try.underlying18, by kernel_rfl, by kernel_rfl⟩⟩
instance : Aggr Try.prog 18 1 := ⟨⟨_, Try.underlying18, rfl⟩, by kernel_rfl⟩
instance : Fld Try.prog 18 0 0 := ⟨fld_of (by kernel_rfl)⟩
instance : Sz Try.prog 21 (.int .i32 0) 1 4 := ⟨by kernel_rfl⟩
instance : ZeroC Try.prog 21 [.int .i32 0] := ⟨zeroC_of (z := .int .i32 0) (by kernel_rfl) rfl⟩
instance : Scalar Try.prog 21 := ⟨_, Try.underlying21, rfl⟩
instance : Sz Try.prog 22 (.agg #[.int .i64 0, .int .i64 0, .int .i64 0, .int .i64 0, .bool false, .int .i64 0, .int .i64 0]) 7 56 := ⟨by kernel_rfl⟩
instance : ZeroC Try.prog 22 [.int .i64 0, .int .i64 0, .int .i64 0, .int .i64 0, .bool false, .int .i64 0, .int .i64 0] := ⟨zeroC_of (z := .agg #[.int .i64 0, .int .i64 0, .int .i64 0, .int .i64 0, .bool false, .int .i64 0, .int .i64 0]) (by kernel_rfl) rfl⟩
instance : Parts Try.prog 22 [(0, 1), (1, 1), (2, 1), (3, 1), (4, 1), (5, 1), (6, 1)] := ⟨.inl ⟨_, Try.underlying22, by kernel_rfl, by kernel_rfl⟩⟩
instance : Aggr Try.prog 22 7 := ⟨⟨_, Try.underlying22, rfl⟩, by kernel_rfl⟩
instance : Fld Try.prog 22 0 0 := ⟨fld_of (by kernel_rfl)⟩
instance : Fld Try.prog 22 1 1 := ⟨fld_of (by kernel_rfl)⟩
instance : Fld Try.prog 22 2 2 := ⟨fld_of (by kernel_rfl)⟩
instance : Fld Try.prog 22 3 3 := ⟨fld_of (by kernel_rfl)⟩
instance : Fld Try.prog 22 4 4 := ⟨fld_of (by kernel_rfl)⟩
instance : Fld Try.prog 22 5 5 := ⟨fld_of (by kernel_rfl)⟩
instance : Fld Try.prog 22 6 6 := ⟨fld_of (by kernel_rfl)⟩
instance : Sz Try.prog 23 (.agg #[.int .i64 0, .int .i64 0, .int .i64 0, .int .i64 0, .bool false, .int .i64 0, .int .i64 0]) 7 56 := ⟨by kernel_rfl⟩
instance : ZeroC Try.prog 23 [.int .i64 0, .int .i64 0, .int .i64 0, .int .i64 0, .bool false, .int .i64 0, .int .i64 0] := ⟨zeroC_of (z := .agg #[.int .i64 0, .int .i64 0, .int .i64 0, .int .i64 0, .bool false, .int .i64 0, .int .i64 0]) (by kernel_rfl) rfl⟩
instance : Parts Try.prog 23 [(0, 1), (1, 1), (2, 1), (3, 1), (4, 1), (5, 1), (6, 1)] := ⟨.inl ⟨_, Try.underlying23, by kernel_rfl, by kernel_rfl⟩⟩
instance : Aggr Try.prog 23 7 := ⟨⟨_, Try.underlying23, rfl⟩, by kernel_rfl⟩
instance : Fld Try.prog 23 0 0 := ⟨fld_of (by kernel_rfl)⟩
instance : Fld Try.prog 23 1 1 := ⟨fld_of (by kernel_rfl)⟩
instance : Fld Try.prog 23 2 2 := ⟨fld_of (by kernel_rfl)⟩
instance : Fld Try.prog 23 3 3 := ⟨fld_of (by kernel_rfl)⟩
instance : Fld Try.prog 23 4 4 := ⟨fld_of (by kernel_rfl)⟩
instance : Fld Try.prog 23 5 5 := ⟨fld_of (by kernel_rfl)⟩
instance : Fld Try.prog 23 6 6 := ⟨fld_of (by kernel_rfl)⟩
instance : Sz Try.prog 24 (.slice none 0 0) 1 24 := ⟨by kernel_rfl⟩
instance : ZeroC Try.prog 24 [.slice none 0 0] := ⟨zeroC_of (z := .slice none 0 0) (by kernel_rfl) rfl⟩
instance : Scalar Try.prog 24 := ⟨_, Try.underlying24, rfl⟩
instance : SliceT Try.prog 24 35 := ⟨Try.underlying24⟩
instance : Sz Try.prog 26 (.agg #[.int .i64 0, .int .i64 0, .int .i64 0, .int .i64 0, .bool false, .int .i64 0, .int .i64 0]) 7 56 := ⟨by kernel_rfl⟩
instance : ZeroC Try.prog 26 [.int .i64 0, .int .i64 0, .int .i64 0, .int .i64 0, .bool false, .int .i64 0, .int .i64 0] := ⟨zeroC_of (z := .agg #[.int .i64 0, .int .i64 0, .int .i64 0, .int .i64 0, .bool false, .int .i64 0, .int .i64 0]) (by kernel_rfl) rfl⟩
instance : Parts Try.prog 26 [(0, 1), (1, 1), (2, 1), (3, 1), (4, 1), (5, 1), (6, 1)] := ⟨.inl ⟨_, Try.underlying26, by kernel_rfl, by kernel_rfl⟩⟩
instance : Aggr Try.prog 26 7 := ⟨⟨_, Try.underlying26, rfl⟩, by kernel_rfl⟩
instance : Fld Try.prog 26 0 0 := ⟨fld_of (by kernel_rfl)⟩
instance : Fld Try.prog 26 1 1 := ⟨fld_of (by kernel_rfl)⟩
instance : Fld Try.prog 26 2 2 := ⟨fld_of (by kernel_rfl)⟩
instance : Fld Try.prog 26 3 3 := ⟨fld_of (by kernel_rfl)⟩
instance : Fld Try.prog 26 4 4 := ⟨fld_of (by kernel_rfl)⟩
instance : Fld Try.prog 26 5 5 := ⟨fld_of (by kernel_rfl)⟩
instance : Fld Try.prog 26 6 6 := ⟨fld_of (by kernel_rfl)⟩
instance : Sz Try.prog 34 (.agg #[.int .i64 0, .int .i64 0, .int .i64 0, .int .i64 0]) 4 32 := ⟨by kernel_rfl⟩
instance : ZeroC Try.prog 34 [.int .i64 0, .int .i64 0, .int .i64 0, .int .i64 0] := ⟨zeroC_of (z := .agg #[.int .i64 0, .int .i64 0, .int .i64 0, .int .i64 0]) (by kernel_rfl) rfl⟩
instance : Parts Try.prog 34 [(0, 1), (1, 1), (2, 1), (3, 1)] := ⟨.inl ⟨_, Try.underlying34, by kernel_rfl, by kernel_rfl⟩⟩
instance : Aggr Try.prog 34 4 := ⟨⟨_, Try.underlying34, rfl⟩, by kernel_rfl⟩
instance : Fld Try.prog 34 0 0 := ⟨fld_of (by kernel_rfl)⟩
instance : Fld Try.prog 34 1 1 := ⟨fld_of (by kernel_rfl)⟩
instance : Fld Try.prog 34 2 2 := ⟨fld_of (by kernel_rfl)⟩
instance : Fld Try.prog 34 3 3 := ⟨fld_of (by kernel_rfl)⟩
instance : Sz Try.prog 35 (.agg #[.int .i64 0, .int .i64 0, .int .i64 0, .int .i64 0]) 4 32 := ⟨by kernel_rfl⟩
instance : ZeroC Try.prog 35 [.int .i64 0, .int .i64 0, .int .i64 0, .int .i64 0] := ⟨zeroC_of (z := .agg #[.int .i64 0, .int .i64 0, .int .i64 0, .int .i64 0]) (by kernel_rfl) rfl⟩
instance : Parts Try.prog 35 [(0, 1), (1, 1), (2, 1), (3, 1)] := ⟨.inl ⟨_, Try.underlying35, by kernel_rfl, by kernel_rfl⟩⟩
instance : Aggr Try.prog 35 4 := ⟨⟨_, Try.underlying35, rfl⟩, by kernel_rfl⟩
instance : Fld Try.prog 35 0 0 := ⟨fld_of (by kernel_rfl)⟩
instance : Fld Try.prog 35 1 1 := ⟨fld_of (by kernel_rfl)⟩
instance : Fld Try.prog 35 2 2 := ⟨fld_of (by kernel_rfl)⟩
instance : Fld Try.prog 35 3 3 := ⟨fld_of (by kernel_rfl)⟩
instance : Sz Try.prog 36 (.chan none) 1 8 := ⟨by kernel_rfl⟩
instance : ZeroC Try.prog 36 [.chan none] := ⟨zeroC_of (z := .chan none) (by kernel_rfl) rfl⟩
instance : Scalar Try.prog 36 := ⟨_, Try.underlying36, rfl⟩
instance : Sz Try.prog 39 (.chan none) 1 8 := ⟨by kernel_rfl⟩
instance : ZeroC Try.prog 39 [.chan none] := ⟨zeroC_of (z := .chan none) (by kernel_rfl) rfl⟩
instance : Scalar Try.prog 39 := ⟨_, Try.underlying39, rfl⟩
instance : Sz Try.prog 47 (.int .u32 0) 1 4 := ⟨by kernel_rfl⟩
instance : ZeroC Try.prog 47 [.int .u32 0] := ⟨zeroC_of (z := .int .u32 0) (by kernel_rfl) rfl⟩
instance : Scalar Try.prog 47 := ⟨_, Try.underlying47, rfl⟩
instance : Sz Try.prog 48 (.int .u8 0) 1 1 := ⟨by kernel_rfl⟩
instance : ZeroC Try.prog 48 [.int .u8 0] := ⟨zeroC_of (z := .int .u8 0) (by kernel_rfl) rfl⟩
instance : Scalar Try.prog 48 := ⟨_, Try.underlying48, rfl⟩
instance : Sz Try.prog 49 (.int .u8 0) 1 1 := ⟨by kernel_rfl⟩
instance : ZeroC Try.prog 49 [.int .u8 0] := ⟨zeroC_of (z := .int .u8 0) (by kernel_rfl) rfl⟩
instance : Scalar Try.prog 49 := ⟨_, Try.underlying49, rfl⟩
instance : Sz Try.prog 50 (.nilFunc) 1 8 := ⟨by kernel_rfl⟩
instance : ZeroC Try.prog 50 [.nilFunc] := ⟨zeroC_of (z := .nilFunc) (by kernel_rfl) rfl⟩
instance : Scalar Try.prog 50 := ⟨_, Try.underlying50, rfl⟩
instance : Sz Try.prog 51 (.pointer none) 1 8 := ⟨by kernel_rfl⟩
instance : ZeroC Try.prog 51 [.pointer none] := ⟨zeroC_of (z := .pointer none) (by kernel_rfl) rfl⟩
instance : Scalar Try.prog 51 := ⟨_, Try.underlying51, rfl⟩
instance : Sz Try.prog 52 (.int .i32 0) 1 4 := ⟨by kernel_rfl⟩
instance : ZeroC Try.prog 52 [.int .i32 0] := ⟨zeroC_of (z := .int .i32 0) (by kernel_rfl) rfl⟩
instance : Scalar Try.prog 52 := ⟨_, Try.underlying52, rfl⟩
instance : Sz Try.prog 53 (.int .i32 0) 1 4 := ⟨by kernel_rfl⟩
instance : ZeroC Try.prog 53 [.int .i32 0] := ⟨zeroC_of (z := .int .i32 0) (by kernel_rfl) rfl⟩
instance : Scalar Try.prog 53 := ⟨_, Try.underlying53, rfl⟩
instance : Sz Try.prog 54 (.agg #[.int .u64 0, .int .u64 0, .int .u32 0, .int .u8 0, .int .u8 0, .int .u8 0, .int .u8 0, .nilFunc, .pointer none, .int .i32 0, .int .i32 0]) 11 48 := ⟨by kernel_rfl⟩
instance : ZeroC Try.prog 54 [.int .u64 0, .int .u64 0, .int .u32 0, .int .u8 0, .int .u8 0, .int .u8 0, .int .u8 0, .nilFunc, .pointer none, .int .i32 0, .int .i32 0] := ⟨zeroC_of (z := .agg #[.int .u64 0, .int .u64 0, .int .u32 0, .int .u8 0, .int .u8 0, .int .u8 0, .int .u8 0, .nilFunc, .pointer none, .int .i32 0, .int .i32 0]) (by kernel_rfl) rfl⟩
instance : Parts Try.prog 54 [(0, 1), (1, 1), (2, 1), (3, 1), (4, 1), (5, 1), (6, 1), (7, 1), (8, 1), (9, 1), (10, 1)] := ⟨.inl ⟨_, Try.underlying54, by kernel_rfl, by kernel_rfl⟩⟩
instance : Aggr Try.prog 54 11 := ⟨⟨_, Try.underlying54, rfl⟩, by kernel_rfl⟩
instance : Fld Try.prog 54 0 0 := ⟨fld_of (by kernel_rfl)⟩
instance : Fld Try.prog 54 1 1 := ⟨fld_of (by kernel_rfl)⟩
instance : Fld Try.prog 54 2 2 := ⟨fld_of (by kernel_rfl)⟩
instance : Fld Try.prog 54 3 3 := ⟨fld_of (by kernel_rfl)⟩
instance : Fld Try.prog 54 4 4 := ⟨fld_of (by kernel_rfl)⟩
instance : Fld Try.prog 54 5 5 := ⟨fld_of (by kernel_rfl)⟩
instance : Fld Try.prog 54 6 6 := ⟨fld_of (by kernel_rfl)⟩
instance : Fld Try.prog 54 7 7 := ⟨fld_of (by kernel_rfl)⟩
instance : Fld Try.prog 54 8 8 := ⟨fld_of (by kernel_rfl)⟩
instance : Fld Try.prog 54 9 9 := ⟨fld_of (by kernel_rfl)⟩
instance : Fld Try.prog 54 10 10 := ⟨fld_of (by kernel_rfl)⟩
instance : Sz Try.prog 55 (.agg #[.int .u64 0, .int .u64 0, .int .u32 0, .int .u8 0, .int .u8 0, .int .u8 0, .int .u8 0, .nilFunc, .pointer none, .int .i32 0, .int .i32 0]) 11 48 := ⟨by kernel_rfl⟩
instance : ZeroC Try.prog 55 [.int .u64 0, .int .u64 0, .int .u32 0, .int .u8 0, .int .u8 0, .int .u8 0, .int .u8 0, .nilFunc, .pointer none, .int .i32 0, .int .i32 0] := ⟨zeroC_of (z := .agg #[.int .u64 0, .int .u64 0, .int .u32 0, .int .u8 0, .int .u8 0, .int .u8 0, .int .u8 0, .nilFunc, .pointer none, .int .i32 0, .int .i32 0]) (by kernel_rfl) rfl⟩
instance : Parts Try.prog 55 [(0, 1), (1, 1), (2, 1), (3, 1), (4, 1), (5, 1), (6, 1), (7, 1), (8, 1), (9, 1), (10, 1)] := ⟨.inl ⟨_, Try.underlying55, by kernel_rfl, by kernel_rfl⟩⟩
instance : Aggr Try.prog 55 11 := ⟨⟨_, Try.underlying55, rfl⟩, by kernel_rfl⟩
instance : Fld Try.prog 55 0 0 := ⟨fld_of (by kernel_rfl)⟩
instance : Fld Try.prog 55 1 1 := ⟨fld_of (by kernel_rfl)⟩
instance : Fld Try.prog 55 2 2 := ⟨fld_of (by kernel_rfl)⟩
instance : Fld Try.prog 55 3 3 := ⟨fld_of (by kernel_rfl)⟩
instance : Fld Try.prog 55 4 4 := ⟨fld_of (by kernel_rfl)⟩
instance : Fld Try.prog 55 5 5 := ⟨fld_of (by kernel_rfl)⟩
instance : Fld Try.prog 55 6 6 := ⟨fld_of (by kernel_rfl)⟩
instance : Fld Try.prog 55 7 7 := ⟨fld_of (by kernel_rfl)⟩
instance : Fld Try.prog 55 8 8 := ⟨fld_of (by kernel_rfl)⟩
instance : Fld Try.prog 55 9 9 := ⟨fld_of (by kernel_rfl)⟩
instance : Fld Try.prog 55 10 10 := ⟨fld_of (by kernel_rfl)⟩
end Go.Proofs.Ytedgbmefajnjeaa.St
