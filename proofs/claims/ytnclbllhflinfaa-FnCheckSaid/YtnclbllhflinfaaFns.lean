/-
  A call of each function of the program that has a body enters it.
-/
import Derived.Test.YtnclbllhflinfaaStDraw
import Derived.Test.YtnclbllhflinfaaRows
set_option linter.unusedSimpArgs false
set_option linter.unusedVariables false
namespace Go.Proofs.Ytnclbllhflinfaa.St
theorem mixed : Try.prog.follows .mixedOrders = true := by kernel_rfl
theorem en3 : Enters Try.prog 3 := enters_of Try.func3 (by kernel_rfl) rfl
instance : En Try.prog 3 := ⟨en3⟩
theorem en4 : Enters Try.prog 4 := enters_of Try.func4 (by kernel_rfl) rfl
instance : En Try.prog 4 := ⟨en4⟩
theorem en5 : Enters Try.prog 5 := enters_of Try.func5 (by kernel_rfl) rfl
instance : En Try.prog 5 := ⟨en5⟩
theorem en6 : Enters Try.prog 6 := enters_of Try.func6 (by kernel_rfl) rfl
instance : En Try.prog 6 := ⟨en6⟩
theorem en7 : Enters Try.prog 7 := enters_of Try.func7 (by kernel_rfl) rfl
instance : En Try.prog 7 := ⟨en7⟩
theorem en8 : Enters Try.prog 8 := enters_of Try.func8 (by kernel_rfl) rfl
instance : En Try.prog 8 := ⟨en8⟩
theorem en9 : Enters Try.prog 9 := enters_of Try.func9 (by kernel_rfl) rfl
instance : En Try.prog 9 := ⟨en9⟩
theorem en10 : Enters Try.prog 10 := enters_of Try.func10 (by kernel_rfl) rfl
instance : En Try.prog 10 := ⟨en10⟩
theorem en11 : Enters Try.prog 11 := enters_of Try.func11 (by kernel_rfl) rfl
instance : En Try.prog 11 := ⟨en11⟩
theorem en12 : Enters Try.prog 12 := enters_of Try.func12 (by kernel_rfl) rfl
instance : En Try.prog 12 := ⟨en12⟩
theorem en13 : Enters Try.prog 13 := enters_of Try.func13 (by kernel_rfl) rfl
instance : En Try.prog 13 := ⟨en13⟩
theorem en14 : Enters Try.prog 14 := enters_of Try.func14 (by kernel_rfl) rfl
instance : En Try.prog 14 := ⟨en14⟩
theorem en15 : Enters Try.prog 15 := enters_of Try.func15 (by kernel_rfl) rfl
instance : En Try.prog 15 := ⟨en15⟩
theorem en16 : Enters Try.prog 16 := enters_of Try.func16 (by kernel_rfl) rfl
instance : En Try.prog 16 := ⟨en16⟩
theorem en17 : Enters Try.prog 17 := enters_of Try.func17 (by kernel_rfl) rfl
instance : En Try.prog 17 := ⟨en17⟩
theorem en18 : Enters Try.prog 18 := enters_of Try.func18 (by kernel_rfl) rfl
instance : En Try.prog 18 := ⟨en18⟩
theorem en19 : Enters Try.prog 19 := enters_of Try.func19 (by kernel_rfl) rfl
instance : En Try.prog 19 := ⟨en19⟩
theorem en20 : Enters Try.prog 20 := enters_of Try.func20 (by kernel_rfl) rfl
instance : En Try.prog 20 := ⟨en20⟩
theorem en21 : Enters Try.prog 21 := enters_of Try.func21 (by kernel_rfl) rfl
instance : En Try.prog 21 := ⟨en21⟩
theorem en22 : Enters Try.prog 22 := enters_of Try.func22 (by kernel_rfl) rfl
instance : En Try.prog 22 := ⟨en22⟩
theorem en23 : Enters Try.prog 23 := enters_of Try.func23 (by kernel_rfl) rfl
instance : En Try.prog 23 := ⟨en23⟩
theorem en24 : Enters Try.prog 24 := enters_of Try.func24 (by kernel_rfl) rfl
instance : En Try.prog 24 := ⟨en24⟩
theorem en25 : Enters Try.prog 25 := enters_of Try.func25 (by kernel_rfl) rfl
instance : En Try.prog 25 := ⟨en25⟩
theorem en26 : Enters Try.prog 26 := enters_of Try.func26 (by kernel_rfl) rfl
instance : En Try.prog 26 := ⟨en26⟩
theorem en27 : Enters Try.prog 27 := enters_of Try.func27 (by kernel_rfl) rfl
instance : En Try.prog 27 := ⟨en27⟩
theorem en28 : Enters Try.prog 28 := enters_of Try.func28 (by kernel_rfl) rfl
instance : En Try.prog 28 := ⟨en28⟩
theorem en29 : Enters Try.prog 29 := enters_of Try.func29 (by kernel_rfl) rfl
instance : En Try.prog 29 := ⟨en29⟩
theorem en30 : Enters Try.prog 30 := enters_of Try.func30 (by kernel_rfl) rfl
instance : En Try.prog 30 := ⟨en30⟩
theorem en31 : Enters Try.prog 31 := enters_of Try.func31 (by kernel_rfl) rfl
instance : En Try.prog 31 := ⟨en31⟩
theorem en32 : Enters Try.prog 32 := enters_of Try.func32 (by kernel_rfl) rfl
instance : En Try.prog 32 := ⟨en32⟩
theorem en33 : Enters Try.prog 33 := enters_of Try.func33 (by kernel_rfl) rfl
instance : En Try.prog 33 := ⟨en33⟩
theorem en34 : Enters Try.prog 34 := enters_of Try.func34 (by kernel_rfl) rfl
instance : En Try.prog 34 := ⟨en34⟩
theorem en35 : Enters Try.prog 35 := enters_of Try.func35 (by kernel_rfl) rfl
instance : En Try.prog 35 := ⟨en35⟩
theorem en36 : Enters Try.prog 36 := enters_of Try.func36 (by kernel_rfl) rfl
instance : En Try.prog 36 := ⟨en36⟩
theorem en37 : Enters Try.prog 37 := enters_of Try.func37 (by kernel_rfl) rfl
instance : En Try.prog 37 := ⟨en37⟩
theorem en38 : Enters Try.prog 38 := enters_of Try.func38 (by kernel_rfl) rfl
instance : En Try.prog 38 := ⟨en38⟩
theorem en39 : Enters Try.prog 39 := enters_of Try.func39 (by kernel_rfl) rfl
instance : En Try.prog 39 := ⟨en39⟩
theorem en40 : Enters Try.prog 40 := enters_of Try.func40 (by kernel_rfl) rfl
instance : En Try.prog 40 := ⟨en40⟩
theorem en41 : Enters Try.prog 41 := enters_of Try.func41 (by kernel_rfl) rfl
instance : En Try.prog 41 := ⟨en41⟩
theorem en42 : Enters Try.prog 42 := enters_of Try.func42 (by kernel_rfl) rfl
instance : En Try.prog 42 := ⟨en42⟩
theorem en43 : Enters Try.prog 43 := enters_of Try.func43 (by kernel_rfl) rfl
instance : En Try.prog 43 := ⟨en43⟩
theorem en44 : Enters Try.prog 44 := enters_of Try.func44 (by kernel_rfl) rfl
instance : En Try.prog 44 := ⟨en44⟩
theorem en45 : Enters Try.prog 45 := enters_of Try.func45 (by kernel_rfl) rfl
instance : En Try.prog 45 := ⟨en45⟩
theorem en46 : Enters Try.prog 46 := enters_of Try.func46 (by kernel_rfl) rfl
instance : En Try.prog 46 := ⟨en46⟩
theorem en47 : Enters Try.prog 47 := enters_of Try.func47 (by kernel_rfl) rfl
instance : En Try.prog 47 := ⟨en47⟩
theorem en48 : Enters Try.prog 48 := enters_of Try.func48 (by kernel_rfl) rfl
instance : En Try.prog 48 := ⟨en48⟩
theorem en49 : Enters Try.prog 49 := enters_of Try.func49 (by kernel_rfl) rfl
instance : En Try.prog 49 := ⟨en49⟩
theorem en50 : Enters Try.prog 50 := enters_of Try.func50 (by kernel_rfl) rfl
instance : En Try.prog 50 := ⟨en50⟩
theorem en51 : Enters Try.prog 51 := enters_of Try.func51 (by kernel_rfl) rfl
instance : En Try.prog 51 := ⟨en51⟩
theorem en52 : Enters Try.prog 52 := enters_of Try.func52 (by kernel_rfl) rfl
instance : En Try.prog 52 := ⟨en52⟩
theorem en53 : Enters Try.prog 53 := enters_of Try.func53 (by kernel_rfl) rfl
instance : En Try.prog 53 := ⟨en53⟩
theorem en54 : Enters Try.prog 54 := enters_of Try.func54 (by kernel_rfl) rfl
instance : En Try.prog 54 := ⟨en54⟩
theorem en55 : Enters Try.prog 55 := enters_of Try.func55 (by kernel_rfl) rfl
instance : En Try.prog 55 := ⟨en55⟩
theorem en56 : Enters Try.prog 56 := enters_of Try.func56 (by kernel_rfl) rfl
instance : En Try.prog 56 := ⟨en56⟩
theorem en57 : Enters Try.prog 57 := enters_of Try.func57 (by kernel_rfl) rfl
instance : En Try.prog 57 := ⟨en57⟩
theorem en58 : Enters Try.prog 58 := enters_of Try.func58 (by kernel_rfl) rfl
instance : En Try.prog 58 := ⟨en58⟩
theorem en59 : Enters Try.prog 59 := enters_of Try.func59 (by kernel_rfl) rfl
instance : En Try.prog 59 := ⟨en59⟩
theorem en60 : Enters Try.prog 60 := enters_of Try.func60 (by kernel_rfl) rfl
instance : En Try.prog 60 := ⟨en60⟩
theorem en61 : Enters Try.prog 61 := enters_of Try.func61 (by kernel_rfl) rfl
instance : En Try.prog 61 := ⟨en61⟩
theorem en62 : Enters Try.prog 62 := enters_of Try.func62 (by kernel_rfl) rfl
instance : En Try.prog 62 := ⟨en62⟩
theorem en63 : Enters Try.prog 63 := enters_of Try.func63 (by kernel_rfl) rfl
instance : En Try.prog 63 := ⟨en63⟩
instance : Sz Try.prog 1 (.nilFunc) 1 8 := ⟨by kernel_rfl⟩
instance : ZeroC Try.prog 1 [.nilFunc] := ⟨zeroC_of (z := .nilFunc) (by kernel_rfl) rfl⟩
instance : Scalar Try.prog 1 := ⟨_, Try.underlying1, rfl⟩
instance : Sz Try.prog 2 (.int .i64 0) 1 8 := ⟨by kernel_rfl⟩
instance : ZeroC Try.prog 2 [.int .i64 0] := ⟨zeroC_of (z := .int .i64 0) (by kernel_rfl) rfl⟩
instance : Scalar Try.prog 2 := ⟨_, Try.underlying2, rfl⟩
instance : Sz Try.prog 3 (.int .i64 0) 1 8 := ⟨by kernel_rfl⟩
instance : ZeroC Try.prog 3 [.int .i64 0] := ⟨zeroC_of (z := .int .i64 0) (by kernel_rfl) rfl⟩
instance : Scalar Try.prog 3 := ⟨_, Try.underlying3, rfl⟩
instance : Sz Try.prog 4 (.bool false) 1 1 := ⟨by kernel_rfl⟩
instance : ZeroC Try.prog 4 [.bool false] := ⟨zeroC_of (z := .bool false) (by kernel_rfl) rfl⟩
instance : Scalar Try.prog 4 := ⟨_, Try.underlying4, rfl⟩
instance : BoolT Try.prog 4 := ⟨Try.underlying4⟩
instance : Sz Try.prog 5 (.int .u8 0) 1 1 := ⟨by kernel_rfl⟩
instance : ZeroC Try.prog 5 [.int .u8 0] := ⟨zeroC_of (z := .int .u8 0) (by kernel_rfl) rfl⟩
instance : Scalar Try.prog 5 := ⟨_, Try.underlying5, rfl⟩
instance : Sz Try.prog 6 (.int .u8 0) 1 1 := ⟨by kernel_rfl⟩
instance : ZeroC Try.prog 6 [.int .u8 0] := ⟨zeroC_of (z := .int .u8 0) (by kernel_rfl) rfl⟩
instance : Scalar Try.prog 6 := ⟨_, Try.underlying6, rfl⟩
instance : Sz Try.prog 7 (.agg #[.int .i64 0, .int .i64 0, .bool false, .int .u8 0]) 4 24 := ⟨by kernel_rfl⟩
instance : ZeroC Try.prog 7 [.int .i64 0, .int .i64 0, .bool false, .int .u8 0] := ⟨zeroC_of (z := .agg #[.int .i64 0, .int .i64 0, .bool false, .int .u8 0]) (by kernel_rfl) rfl⟩
instance : Parts Try.prog 7 [(0, 1), (1, 1), (2, 1), (3, 1)] := ⟨.inl ⟨_, Try.underlying7, by kernel_rfl, by kernel_rfl⟩⟩
instance : Aggr Try.prog 7 4 := ⟨⟨_, Try.underlying7, rfl⟩, by kernel_rfl⟩
instance : Fld Try.prog 7 0 0 := ⟨fld_of (by kernel_rfl)⟩
instance : Fld Try.prog 7 1 1 := ⟨fld_of (by kernel_rfl)⟩
instance : Fld Try.prog 7 2 2 := ⟨fld_of (by kernel_rfl)⟩
instance : Fld Try.prog 7 3 3 := ⟨fld_of (by kernel_rfl)⟩
instance : Sz Try.prog 8 (.agg #[.int .i64 0, .int .i64 0, .bool false, .int .u8 0]) 4 24 := ⟨by kernel_rfl⟩
instance : ZeroC Try.prog 8 [.int .i64 0, .int .i64 0, .bool false, .int .u8 0] := ⟨zeroC_of (z := .agg #[.int .i64 0, .int .i64 0, .bool false, .int .u8 0]) (by kernel_rfl) rfl⟩
instance : Parts Try.prog 8 [(0, 1), (1, 1), (2, 1), (3, 1)] := ⟨.inl ⟨_, Try.underlying8, by kernel_rfl, by kernel_rfl⟩⟩
instance : Aggr Try.prog 8 4 := ⟨⟨_, Try.underlying8, rfl⟩, by kernel_rfl⟩
instance : Fld Try.prog 8 0 0 := ⟨fld_of (by kernel_rfl)⟩
instance : Fld Try.prog 8 1 1 := ⟨fld_of (by kernel_rfl)⟩
instance : Fld Try.prog 8 2 2 := ⟨fld_of (by kernel_rfl)⟩
instance : Fld Try.prog 8 3 3 := ⟨fld_of (by kernel_rfl)⟩
instance : Sz Try.prog 9 (.string ⟨#[]⟩) 1 16 := ⟨by kernel_rfl⟩
instance : ZeroC Try.prog 9 [.string ⟨#[]⟩] := ⟨zeroC_of (z := .string ⟨#[]⟩) (by kernel_rfl) rfl⟩
instance : Scalar Try.prog 9 := ⟨_, Try.underlying9, rfl⟩
instance : StrT Try.prog 9 := ⟨Try.underlying9⟩
instance : Sz Try.prog 10 (.string ⟨#[]⟩) 1 16 := ⟨by kernel_rfl⟩
instance : ZeroC Try.prog 10 [.string ⟨#[]⟩] := ⟨zeroC_of (z := .string ⟨#[]⟩) (by kernel_rfl) rfl⟩
instance : Scalar Try.prog 10 := ⟨_, Try.underlying10, rfl⟩
instance : StrT Try.prog 10 := ⟨Try.underlying10⟩
instance : Sz Try.prog 11 (.string ⟨#[]⟩) 1 16 := ⟨by kernel_rfl⟩
instance : ZeroC Try.prog 11 [.string ⟨#[]⟩] := ⟨zeroC_of (z := .string ⟨#[]⟩) (by kernel_rfl) rfl⟩
instance : Scalar Try.prog 11 := ⟨_, Try.underlying11, rfl⟩
instance : StrT Try.prog 11 := ⟨Try.underlying11⟩
instance : Sz Try.prog 12 (.int .u64 0) 1 8 := ⟨by kernel_rfl⟩
instance : ZeroC Try.prog 12 [.int .u64 0] := ⟨zeroC_of (z := .int .u64 0) (by kernel_rfl) rfl⟩
instance : Scalar Try.prog 12 := ⟨_, Try.underlying12, rfl⟩
instance : Sz Try.prog 13 (.agg #[.string ⟨#[]⟩, .int .u64 0]) 2 24 := ⟨by kernel_rfl⟩
instance : ZeroC Try.prog 13 [.string ⟨#[]⟩, .int .u64 0] := ⟨zeroC_of (z := .agg #[.string ⟨#[]⟩, .int .u64 0]) (by kernel_rfl) rfl⟩
instance : Parts Try.prog 13 [(0, 1), (1, 1)] := ⟨.inl ⟨_, Try.underlying13, by kernel_rfl, by kernel_rfl⟩⟩
instance : Aggr Try.prog 13 2 := ⟨⟨_, Try.underlying13, rfl⟩, by kernel_rfl⟩
instance : Fld Try.prog 13 0 0 := ⟨fld_of (by kernel_rfl)⟩
instance : Fld Try.prog 13 1 1 := ⟨fld_of (by kernel_rfl)⟩
instance : Sz Try.prog 16 (.pointer none) 1 8 := ⟨by kernel_rfl⟩
instance : ZeroC Try.prog 16 [.pointer none] := ⟨zeroC_of (z := .pointer none) (by kernel_rfl) rfl⟩
instance : Scalar Try.prog 16 := ⟨_, Try.underlying16, rfl⟩
instance : Sz Try.prog 17 (.pointer none) 1 8 := ⟨by kernel_rfl⟩
instance : ZeroC Try.prog 17 [.pointer none] := ⟨zeroC_of (z := .pointer none) (by kernel_rfl) rfl⟩
instance : Scalar Try.prog 17 := ⟨_, Try.underlying17, rfl⟩
instance : Sz Try.prog 21 (.int .i32 0) 1 4 := ⟨by kernel_rfl⟩
instance : ZeroC Try.prog 21 [.int .i32 0] := ⟨zeroC_of (z := .int .i32 0) (by kernel_rfl) rfl⟩
instance : Scalar Try.prog 21 := ⟨_, Try.underlying21, rfl⟩
instance : Sz Try.prog 22 (.slice none 0 0) 1 24 := ⟨by kernel_rfl⟩
instance : ZeroC Try.prog 22 [.slice none 0 0] := ⟨zeroC_of (z := .slice none 0 0) (by kernel_rfl) rfl⟩
instance : Scalar Try.prog 22 := ⟨_, Try.underlying22, rfl⟩
instance : SliceT Try.prog 22 5 := ⟨Try.underlying22⟩
instance : Sz Try.prog 23 (.slice none 0 0) 1 24 := ⟨by kernel_rfl⟩
instance : ZeroC Try.prog 23 [.slice none 0 0] := ⟨zeroC_of (z := .slice none 0 0) (by kernel_rfl) rfl⟩
instance : Scalar Try.prog 23 := ⟨_, Try.underlying23, rfl⟩
instance : SliceT Try.prog 23 46 := ⟨Try.underlying23⟩
instance : Sz Try.prog 24 (.slice none 0 0) 1 24 := ⟨by kernel_rfl⟩
instance : ZeroC Try.prog 24 [.slice none 0 0] := ⟨zeroC_of (z := .slice none 0 0) (by kernel_rfl) rfl⟩
instance : Scalar Try.prog 24 := ⟨_, Try.underlying24, rfl⟩
instance : SliceT Try.prog 24 33 := ⟨Try.underlying24⟩
instance : Sz Try.prog 25 (.agg #[.slice none 0 0, .slice none 0 0]) 2 48 := ⟨by kernel_rfl⟩
instance : ZeroC Try.prog 25 [.slice none 0 0, .slice none 0 0] := ⟨zeroC_of (z := .agg #[.slice none 0 0, .slice none 0 0]) (by kernel_rfl) rfl⟩
instance : Parts Try.prog 25 [(0, 1), (1, 1)] := ⟨.inl ⟨_, Try.underlying25, by kernel_rfl, by kernel_rfl⟩⟩
instance : Aggr Try.prog 25 2 := ⟨⟨_, Try.underlying25, rfl⟩, by kernel_rfl⟩
instance : Fld Try.prog 25 0 0 := ⟨fld_of (by kernel_rfl)⟩
instance : Fld Try.prog 25 1 1 := ⟨fld_of (by kernel_rfl)⟩
instance : Sz Try.prog 26 (.agg #[.slice none 0 0, .slice none 0 0]) 2 48 := ⟨by kernel_rfl⟩
instance : ZeroC Try.prog 26 [.slice none 0 0, .slice none 0 0] := ⟨zeroC_of (z := .agg #[.slice none 0 0, .slice none 0 0]) (by kernel_rfl) rfl⟩
instance : Parts Try.prog 26 [(0, 1), (1, 1)] := ⟨.inl ⟨_, Try.underlying26, by kernel_rfl, by kernel_rfl⟩⟩
instance : Aggr Try.prog 26 2 := ⟨⟨_, Try.underlying26, rfl⟩, by kernel_rfl⟩
instance : Fld Try.prog 26 0 0 := ⟨fld_of (by kernel_rfl)⟩
instance : Fld Try.prog 26 1 1 := ⟨fld_of (by kernel_rfl)⟩
instance : Sz Try.prog 30 (.nilFunc) 1 8 := ⟨by kernel_rfl⟩
instance : ZeroC Try.prog 30 [.nilFunc] := ⟨zeroC_of (z := .nilFunc) (by kernel_rfl) rfl⟩
instance : Scalar Try.prog 30 := ⟨_, Try.underlying30, rfl⟩
instance : Sz Try.prog 32 (.agg #[.string ⟨#[]⟩, .int .i64 0]) 2 24 := ⟨by kernel_rfl⟩
instance : ZeroC Try.prog 32 [.string ⟨#[]⟩, .int .i64 0] := ⟨zeroC_of (z := .agg #[.string ⟨#[]⟩, .int .i64 0]) (by kernel_rfl) rfl⟩
instance : Parts Try.prog 32 [(0, 1), (1, 1)] := ⟨.inl ⟨_, Try.underlying32, by kernel_rfl, by kernel_rfl⟩⟩
instance : Aggr Try.prog 32 2 := ⟨⟨_, Try.underlying32, rfl⟩, by kernel_rfl⟩
instance : Fld Try.prog 32 0 0 := ⟨fld_of (by kernel_rfl)⟩
instance : Fld Try.prog 32 1 1 := ⟨fld_of (by kernel_rfl)⟩
instance : Sz Try.prog 33 (.agg #[.string ⟨#[]⟩, .int .i64 0]) 2 24 := ⟨by kernel_rfl⟩
instance : ZeroC Try.prog 33 [.string ⟨#[]⟩, .int .i64 0] := ⟨zeroC_of (z := .agg #[.string ⟨#[]⟩, .int .i64 0]) (by kernel_rfl) rfl⟩
instance : Parts Try.prog 33 [(0, 1), (1, 1)] := ⟨.inl ⟨_, Try.underlying33, by kernel_rfl, by kernel_rfl⟩⟩
instance : Aggr Try.prog 33 2 := ⟨⟨_, Try.underlying33, rfl⟩, by kernel_rfl⟩
instance : Fld Try.prog 33 0 0 := ⟨fld_of (by kernel_rfl)⟩
instance : Fld Try.prog 33 1 1 := ⟨fld_of (by kernel_rfl)⟩
instance : Sz Try.prog 38 (.pointer none) 1 8 := ⟨by kernel_rfl⟩
instance : ZeroC Try.prog 38 [.pointer none] := ⟨zeroC_of (z := .pointer none) (by kernel_rfl) rfl⟩
instance : Scalar Try.prog 38 := ⟨_, Try.underlying38, rfl⟩
instance : Sz Try.prog 40 (.nilFunc) 1 8 := ⟨by kernel_rfl⟩
instance : ZeroC Try.prog 40 [.nilFunc] := ⟨zeroC_of (z := .nilFunc) (by kernel_rfl) rfl⟩
instance : Scalar Try.prog 40 := ⟨_, Try.underlying40, rfl⟩
instance : Sz Try.prog 41 (.map none) 1 8 := ⟨by kernel_rfl⟩
instance : ZeroC Try.prog 41 [.map none] := ⟨zeroC_of (z := .map none) (by kernel_rfl) rfl⟩
instance : Scalar Try.prog 41 := ⟨_, Try.underlying41, rfl⟩
instance : Sz Try.prog 42 (.nilFunc) 1 8 := ⟨by kernel_rfl⟩
instance : ZeroC Try.prog 42 [.nilFunc] := ⟨zeroC_of (z := .nilFunc) (by kernel_rfl) rfl⟩
instance : Scalar Try.prog 42 := ⟨_, Try.underlying42, rfl⟩
instance : Sz Try.prog 43 (.slice none 0 0) 1 24 := ⟨by kernel_rfl⟩
instance : ZeroC Try.prog 43 [.slice none 0 0] := ⟨zeroC_of (z := .slice none 0 0) (by kernel_rfl) rfl⟩
instance : Scalar Try.prog 43 := ⟨_, Try.underlying43, rfl⟩
instance : SliceT Try.prog 43 3 := ⟨Try.underlying43⟩
instance : Sz Try.prog 44 (.nilFunc) 1 8 := ⟨by kernel_rfl⟩
instance : ZeroC Try.prog 44 [.nilFunc] := ⟨zeroC_of (z := .nilFunc) (by kernel_rfl) rfl⟩
instance : Scalar Try.prog 44 := ⟨_, Try.underlying44, rfl⟩
instance : Sz Try.prog 45 (.agg #[.int .i64 0, .string ⟨#[]⟩, .int .i64 0, .slice none 0 0]) 4 56 := ⟨by kernel_rfl⟩
instance : ZeroC Try.prog 45 [.int .i64 0, .string ⟨#[]⟩, .int .i64 0, .slice none 0 0] := ⟨zeroC_of (z := .agg #[.int .i64 0, .string ⟨#[]⟩, .int .i64 0, .slice none 0 0]) (by kernel_rfl) rfl⟩
instance : Parts Try.prog 45 [(0, 1), (1, 1), (2, 1), (3, 1)] := ⟨.inl ⟨_, Try.underlying45, by kernel_rfl, by kernel_rfl⟩⟩
instance : Aggr Try.prog 45 4 := ⟨⟨_, Try.underlying45, rfl⟩, by kernel_rfl⟩
instance : Fld Try.prog 45 0 0 := ⟨fld_of (by kernel_rfl)⟩
instance : Fld Try.prog 45 1 1 := ⟨fld_of (by kernel_rfl)⟩
instance : Fld Try.prog 45 2 2 := ⟨fld_of (by kernel_rfl)⟩
instance : Fld Try.prog 45 3 3 := ⟨fld_of (by kernel_rfl)⟩
instance : Sz Try.prog 46 (.agg #[.int .i64 0, .string ⟨#[]⟩, .int .i64 0, .slice none 0 0]) 4 56 := ⟨by kernel_rfl⟩
instance : ZeroC Try.prog 46 [.int .i64 0, .string ⟨#[]⟩, .int .i64 0, .slice none 0 0] := ⟨zeroC_of (z := .agg #[.int .i64 0, .string ⟨#[]⟩, .int .i64 0, .slice none 0 0]) (by kernel_rfl) rfl⟩
instance : Parts Try.prog 46 [(0, 1), (1, 1), (2, 1), (3, 1)] := ⟨.inl ⟨_, Try.underlying46, by kernel_rfl, by kernel_rfl⟩⟩
instance : Aggr Try.prog 46 4 := ⟨⟨_, Try.underlying46, rfl⟩, by kernel_rfl⟩
instance : Fld Try.prog 46 0 0 := ⟨fld_of (by kernel_rfl)⟩
instance : Fld Try.prog 46 1 1 := ⟨fld_of (by kernel_rfl)⟩
instance : Fld Try.prog 46 2 2 := ⟨fld_of (by kernel_rfl)⟩
instance : Fld Try.prog 46 3 3 := ⟨fld_of (by kernel_rfl)⟩
instance : Sz Try.prog 47 (.nilFunc) 1 8 := ⟨by kernel_rfl⟩
instance : ZeroC Try.prog 47 [.nilFunc] := ⟨zeroC_of (z := .nilFunc) (by kernel_rfl) rfl⟩
instance : Scalar Try.prog 47 := ⟨_, Try.underlying47, rfl⟩
instance : Sz Try.prog 48 (.nilIface) 1 16 := ⟨by kernel_rfl⟩
instance : ZeroC Try.prog 48 [.nilIface] := ⟨zeroC_of (z := .nilIface) (by kernel_rfl) rfl⟩
instance : Scalar Try.prog 48 := ⟨_, Try.underlying48, rfl⟩
instance : Sz Try.prog 49 (.nilIface) 1 16 := ⟨by kernel_rfl⟩
instance : ZeroC Try.prog 49 [.nilIface] := ⟨zeroC_of (z := .nilIface) (by kernel_rfl) rfl⟩
instance : Scalar Try.prog 49 := ⟨_, Try.underlying49, rfl⟩
instance : Sz Try.prog 50 (.nilFunc) 1 8 := ⟨by kernel_rfl⟩
instance : ZeroC Try.prog 50 [.nilFunc] := ⟨zeroC_of (z := .nilFunc) (by kernel_rfl) rfl⟩
instance : Scalar Try.prog 50 := ⟨_, Try.underlying50, rfl⟩
instance : Sz Try.prog 55 (.slice none 0 0) 1 24 := ⟨by kernel_rfl⟩
instance : ZeroC Try.prog 55 [.slice none 0 0] := ⟨zeroC_of (z := .slice none 0 0) (by kernel_rfl) rfl⟩
instance : Scalar Try.prog 55 := ⟨_, Try.underlying55, rfl⟩
instance : SliceT Try.prog 55 4 := ⟨Try.underlying55⟩
instance : Sz Try.prog 57 (.slice none 0 0) 1 24 := ⟨by kernel_rfl⟩
instance : ZeroC Try.prog 57 [.slice none 0 0] := ⟨zeroC_of (z := .slice none 0 0) (by kernel_rfl) rfl⟩
instance : Scalar Try.prog 57 := ⟨_, Try.underlying57, rfl⟩
instance : SliceT Try.prog 57 9 := ⟨Try.underlying57⟩
instance : Sz Try.prog 59 (.nilFunc) 1 8 := ⟨by kernel_rfl⟩
instance : ZeroC Try.prog 59 [.nilFunc] := ⟨zeroC_of (z := .nilFunc) (by kernel_rfl) rfl⟩
instance : Scalar Try.prog 59 := ⟨_, Try.underlying59, rfl⟩
instance : Sz Try.prog 61 (.agg #[.slice none 0 0, .int .i64 0, .int .i64 0]) 3 40 := ⟨by kernel_rfl⟩
instance : ZeroC Try.prog 61 [.slice none 0 0, .int .i64 0, .int .i64 0] := ⟨zeroC_of (z := .agg #[.slice none 0 0, .int .i64 0, .int .i64 0]) (by kernel_rfl) rfl⟩
instance : Parts Try.prog 61 [(0, 1), (1, 1), (2, 1)] := ⟨.inl ⟨_, Try.underlying61, by kernel_rfl, by kernel_rfl⟩⟩
instance : Aggr Try.prog 61 3 := ⟨⟨_, Try.underlying61, rfl⟩, by kernel_rfl⟩
instance : Fld Try.prog 61 0 0 := ⟨fld_of (by kernel_rfl)⟩
instance : Fld Try.prog 61 1 1 := ⟨fld_of (by kernel_rfl)⟩
instance : Fld Try.prog 61 2 2 := ⟨fld_of (by kernel_rfl)⟩
instance : Sz Try.prog 62 (.agg #[.slice none 0 0, .int .i64 0, .int .i64 0]) 3 40 := ⟨by kernel_rfl⟩
instance : ZeroC Try.prog 62 [.slice none 0 0, .int .i64 0, .int .i64 0] := ⟨zeroC_of (z := .agg #[.slice none 0 0, .int .i64 0, .int .i64 0]) (by kernel_rfl) rfl⟩
instance : Parts Try.prog 62 [(0, 1), (1, 1), (2, 1)] := ⟨.inl ⟨_, Try.underlying62, by kernel_rfl, by kernel_rfl⟩⟩
instance : Aggr Try.prog 62 3 := ⟨⟨_, Try.underlying62, rfl⟩, by kernel_rfl⟩
instance : Fld Try.prog 62 0 0 := ⟨fld_of (by kernel_rfl)⟩
instance : Fld Try.prog 62 1 1 := ⟨fld_of (by kernel_rfl)⟩
instance : Fld Try.prog 62 2 2 := ⟨fld_of (by kernel_rfl)⟩
instance : Sz Try.prog 66 (.nilFunc) 1 8 := ⟨by kernel_rfl⟩
instance : ZeroC Try.prog 66 [.nilFunc] := ⟨zeroC_of (z := .nilFunc) (by kernel_rfl) rfl⟩
instance : Scalar Try.prog 66 := ⟨_, Try.underlying66, rfl⟩
instance : Sz Try.prog 67 (.nilFunc) 1 8 := ⟨by kernel_rfl⟩
instance : ZeroC Try.prog 67 [.nilFunc] := ⟨zeroC_of (z := .nilFunc) (by kernel_rfl) rfl⟩
instance : Scalar Try.prog 67 := ⟨_, Try.underlying67, rfl⟩
instance : Sz Try.prog 68 (.agg #[.int .i64 0, .string ⟨#[]⟩, .int .i64 0, .slice none 0 0]) 4 56 := ⟨by kernel_rfl⟩
instance : ZeroC Try.prog 68 [.int .i64 0, .string ⟨#[]⟩, .int .i64 0, .slice none 0 0] := ⟨zeroC_of (z := .agg #[.int .i64 0, .string ⟨#[]⟩, .int .i64 0, .slice none 0 0]) (by kernel_rfl) rfl⟩
instance : Parts Try.prog 68 [(0, 4)] := ⟨.inl ⟨_, Try.underlying68, by kernel_rfl, by kernel_rfl⟩⟩
instance : Aggr Try.prog 68 4 := ⟨⟨_, Try.underlying68, rfl⟩, by kernel_rfl⟩
instance : Fld Try.prog 68 0 0 := ⟨fld_of (by kernel_rfl)⟩
instance : Sz Try.prog 69 (.agg #[.int .i64 0, .string ⟨#[]⟩, .int .i64 0, .slice none 0 0]) 4 56 := ⟨by kernel_rfl⟩
instance : ZeroC Try.prog 69 [.int .i64 0, .string ⟨#[]⟩, .int .i64 0, .slice none 0 0] := ⟨zeroC_of (z := .agg #[.int .i64 0, .string ⟨#[]⟩, .int .i64 0, .slice none 0 0]) (by kernel_rfl) rfl⟩
instance : Parts Try.prog 69 [(0, 4)] := ⟨.inl ⟨_, Try.underlying69, by kernel_rfl, by kernel_rfl⟩⟩
instance : Aggr Try.prog 69 4 := ⟨⟨_, Try.underlying69, rfl⟩, by kernel_rfl⟩
instance : Fld Try.prog 69 0 0 := ⟨fld_of (by kernel_rfl)⟩
instance : Sz Try.prog 70 (.agg #[.int .i64 0, .string ⟨#[]⟩, .int .i64 0, .slice none 0 0]) 4 56 := ⟨by kernel_rfl⟩
instance : ZeroC Try.prog 70 [.int .i64 0, .string ⟨#[]⟩, .int .i64 0, .slice none 0 0] := ⟨zeroC_of (z := .agg #[.int .i64 0, .string ⟨#[]⟩, .int .i64 0, .slice none 0 0]) (by kernel_rfl) rfl⟩
instance : Parts Try.prog 70 [(0, 4)] := ⟨.inl ⟨_, Try.underlying70, by kernel_rfl, by kernel_rfl⟩⟩
instance : Aggr Try.prog 70 4 := ⟨⟨_, Try.underlying70, rfl⟩, by kernel_rfl⟩
instance : Fld Try.prog 70 0 0 := ⟨fld_of (by kernel_rfl)⟩
instance : Sz Try.prog 72 (.agg #[.int .i64 0, .string ⟨#[]⟩, .int .i64 0, .slice none 0 0]) 4 56 := ⟨by kernel_rfl⟩
instance : ZeroC Try.prog 72 [.int .i64 0, .string ⟨#[]⟩, .int .i64 0, .slice none 0 0] := ⟨zeroC_of (z := .agg #[.int .i64 0, .string ⟨#[]⟩, .int .i64 0, .slice none 0 0]) (by kernel_rfl) rfl⟩
instance : Parts Try.prog 72 [(0, 4)] := ⟨.inl ⟨_, Try.underlying72, by kernel_rfl, by kernel_rfl⟩⟩
instance : Aggr Try.prog 72 4 := ⟨⟨_, Try.underlying72, rfl⟩, by kernel_rfl⟩
instance : Fld Try.prog 72 0 0 := ⟨fld_of (by kernel_rfl)⟩
instance : Sz Try.prog 74 (.slice none 0 0) 1 24 := ⟨by kernel_rfl⟩
instance : ZeroC Try.prog 74 [.slice none 0 0] := ⟨zeroC_of (z := .slice none 0 0) (by kernel_rfl) rfl⟩
instance : Scalar Try.prog 74 := ⟨_, Try.underlying74, rfl⟩
instance : SliceT Try.prog 74 81 := ⟨Try.underlying74⟩
instance : Sz Try.prog 77 (.pointer none) 1 8 := ⟨by kernel_rfl⟩
instance : ZeroC Try.prog 77 [.pointer none] := ⟨zeroC_of (z := .pointer none) (by kernel_rfl) rfl⟩
instance : Scalar Try.prog 77 := ⟨_, Try.underlying77, rfl⟩
instance : Sz Try.prog 78 (.agg #[.slice none 0 0, .int .i64 0, .slice none 0 0, .slice none 0 0, .int .i64 0]) 5 88 := ⟨by kernel_rfl⟩
instance : ZeroC Try.prog 78 [.slice none 0 0, .int .i64 0, .slice none 0 0, .slice none 0 0, .int .i64 0] := ⟨zeroC_of (z := .agg #[.slice none 0 0, .int .i64 0, .slice none 0 0, .slice none 0 0, .int .i64 0]) (by kernel_rfl) rfl⟩
instance : Parts Try.prog 78 [(0, 1), (1, 1), (2, 2), (4, 1)] := ⟨.inl ⟨_, Try.underlying78, by kernel_rfl, by kernel_rfl⟩⟩
instance : Aggr Try.prog 78 5 := ⟨⟨_, Try.underlying78, rfl⟩, by kernel_rfl⟩
instance : Fld Try.prog 78 0 0 := ⟨fld_of (by kernel_rfl)⟩
instance : Fld Try.prog 78 1 1 := ⟨fld_of (by kernel_rfl)⟩
instance : Fld Try.prog 78 2 2 := ⟨fld_of (by kernel_rfl)⟩
instance : Fld Try.prog 78 3 4 := ⟨fld_of (by kernel_rfl)⟩
instance : Sz Try.prog 79 (.agg #[.slice none 0 0, .int .i64 0, .slice none 0 0, .slice none 0 0, .int .i64 0]) 5 88 := ⟨by kernel_rfl⟩
instance : ZeroC Try.prog 79 [.slice none 0 0, .int .i64 0, .slice none 0 0, .slice none 0 0, .int .i64 0] := ⟨zeroC_of (z := .agg #[.slice none 0 0, .int .i64 0, .slice none 0 0, .slice none 0 0, .int .i64 0]) (by kernel_rfl) rfl⟩
instance : Parts Try.prog 79 [(0, 1), (1, 1), (2, 2), (4, 1)] := ⟨.inl ⟨_, Try.underlying79, by kernel_rfl, by kernel_rfl⟩⟩
instance : Aggr Try.prog 79 5 := ⟨⟨_, Try.underlying79, rfl⟩, by kernel_rfl⟩
instance : Fld Try.prog 79 0 0 := ⟨fld_of (by kernel_rfl)⟩
instance : Fld Try.prog 79 1 1 := ⟨fld_of (by kernel_rfl)⟩
instance : Fld Try.prog 79 2 2 := ⟨fld_of (by kernel_rfl)⟩
instance : Fld Try.prog 79 3 4 := ⟨fld_of (by kernel_rfl)⟩
instance : Sz Try.prog 80 (.agg #[.int .i64 0, .string ⟨#[]⟩, .int .i64 0, .int .i64 0]) 4 40 := ⟨by kernel_rfl⟩
instance : ZeroC Try.prog 80 [.int .i64 0, .string ⟨#[]⟩, .int .i64 0, .int .i64 0] := ⟨zeroC_of (z := .agg #[.int .i64 0, .string ⟨#[]⟩, .int .i64 0, .int .i64 0]) (by kernel_rfl) rfl⟩
instance : Parts Try.prog 80 [(0, 1), (1, 1), (2, 1), (3, 1)] := ⟨.inl ⟨_, Try.underlying80, by kernel_rfl, by kernel_rfl⟩⟩
instance : Aggr Try.prog 80 4 := ⟨⟨_, Try.underlying80, rfl⟩, by kernel_rfl⟩
instance : Fld Try.prog 80 0 0 := ⟨fld_of (by kernel_rfl)⟩
instance : Fld Try.prog 80 1 1 := ⟨fld_of (by kernel_rfl)⟩
instance : Fld Try.prog 80 2 2 := ⟨fld_of (by kernel_rfl)⟩
instance : Fld Try.prog 80 3 3 := ⟨fld_of (by kernel_rfl)⟩
instance : Sz Try.prog 81 (.agg #[.int .i64 0, .string ⟨#[]⟩, .int .i64 0, .int .i64 0]) 4 40 := ⟨by kernel_rfl⟩
instance : ZeroC Try.prog 81 [.int .i64 0, .string ⟨#[]⟩, .int .i64 0, .int .i64 0] := ⟨zeroC_of (z := .agg #[.int .i64 0, .string ⟨#[]⟩, .int .i64 0, .int .i64 0]) (by kernel_rfl) rfl⟩
instance : Parts Try.prog 81 [(0, 1), (1, 1), (2, 1), (3, 1)] := ⟨.inl ⟨_, Try.underlying81, by kernel_rfl, by kernel_rfl⟩⟩
instance : Aggr Try.prog 81 4 := ⟨⟨_, Try.underlying81, rfl⟩, by kernel_rfl⟩
instance : Fld Try.prog 81 0 0 := ⟨fld_of (by kernel_rfl)⟩
instance : Fld Try.prog 81 1 1 := ⟨fld_of (by kernel_rfl)⟩
instance : Fld Try.prog 81 2 2 := ⟨fld_of (by kernel_rfl)⟩
instance : Fld Try.prog 81 3 3 := ⟨fld_of (by kernel_rfl)⟩
instance : Sz Try.prog 98 (.nilFunc) 1 8 := ⟨by kernel_rfl⟩
instance : ZeroC Try.prog 98 [.nilFunc] := ⟨zeroC_of (z := .nilFunc) (by kernel_rfl) rfl⟩
instance : Scalar Try.prog 98 := ⟨_, Try.underlying98, rfl⟩
instance : Sz Try.prog 99 (.nilFunc) 1 8 := ⟨by kernel_rfl⟩
instance : ZeroC Try.prog 99 [.nilFunc] := ⟨zeroC_of (z := .nilFunc) (by kernel_rfl) rfl⟩
instance : Scalar Try.prog 99 := ⟨_, Try.underlying99, rfl⟩
instance : Sz Try.prog 100 (.nilFunc) 1 8 := ⟨by kernel_rfl⟩
instance : ZeroC Try.prog 100 [.nilFunc] := ⟨zeroC_of (z := .nilFunc) (by kernel_rfl) rfl⟩
instance : Scalar Try.prog 100 := ⟨_, Try.underlying100, rfl⟩
instance : Sz Try.prog 101 (.nilFunc) 1 8 := ⟨by kernel_rfl⟩
instance : ZeroC Try.prog 101 [.nilFunc] := ⟨zeroC_of (z := .nilFunc) (by kernel_rfl) rfl⟩
instance : Scalar Try.prog 101 := ⟨_, Try.underlying101, rfl⟩
instance : Sz Try.prog 102 (.int .u64 0) 1 8 := ⟨by kernel_rfl⟩
instance : ZeroC Try.prog 102 [.int .u64 0] := ⟨zeroC_of (z := .int .u64 0) (by kernel_rfl) rfl⟩
instance : Scalar Try.prog 102 := ⟨_, Try.underlying102, rfl⟩
instance : Sz Try.prog 103 (.nilFunc) 1 8 := ⟨by kernel_rfl⟩
instance : ZeroC Try.prog 103 [.nilFunc] := ⟨zeroC_of (z := .nilFunc) (by kernel_rfl) rfl⟩
instance : Scalar Try.prog 103 := ⟨_, Try.underlying103, rfl⟩
instance : Sz Try.prog 104 (.nilFunc) 1 8 := ⟨by kernel_rfl⟩
instance : ZeroC Try.prog 104 [.nilFunc] := ⟨zeroC_of (z := .nilFunc) (by kernel_rfl) rfl⟩
instance : Scalar Try.prog 104 := ⟨_, Try.underlying104, rfl⟩
instance : Sz Try.prog 105 (.agg #[.pointer none, .pointer none, .pointer none, .string ⟨#[]⟩]) 4 40 := ⟨by kernel_rfl⟩
instance : ZeroC Try.prog 105 [.pointer none, .pointer none, .pointer none, .string ⟨#[]⟩] := ⟨zeroC_of (z := .agg #[.pointer none, .pointer none, .pointer none, .string ⟨#[]⟩]) (by kernel_rfl) rfl⟩
instance : Parts Try.prog 105 [(0, 1), (1, 1), (2, 1), (3, 1)] := ⟨.inl ⟨_, Try.underlying105, by kernel_rfl, by kernel_rfl⟩⟩
instance : Aggr Try.prog 105 4 := ⟨⟨_, Try.underlying105, rfl⟩, by kernel_rfl⟩
instance : Fld Try.prog 105 0 0 := ⟨fld_of (by kernel_rfl)⟩
instance : Fld Try.prog 105 1 1 := ⟨fld_of (by kernel_rfl)⟩
instance : Fld Try.prog 105 2 2 := ⟨fld_of (by kernel_rfl)⟩
instance : Fld Try.prog 105 3 3 := ⟨fld_of (by kernel_rfl)⟩
instance : Sz Try.prog 107 (.agg #[]) 0 0 := ⟨by kernel_rfl⟩
instance : ZeroC Try.prog 107 [] := ⟨zeroC_of (z := .agg #[]) (by kernel_rfl) rfl⟩
instance : Parts Try.prog 107 [] := ⟨.inr ⟨_, _, Try.underlying107, by kernel_rfl, by kernel_rfl⟩⟩
instance : Aggr Try.prog 107 0 := ⟨⟨_, Try.underlying107, rfl⟩, by kernel_rfl⟩
instance : ArrT Try.prog 107 0 16 := ⟨Try.underlying107⟩
instance : Sz Try.prog 108 (.agg #[]) 0 0 := ⟨by kernel_rfl⟩
instance : ZeroC Try.prog 108 [] := ⟨zeroC_of (z := .agg #[]) (by kernel_rfl) rfl⟩
instance : Parts Try.prog 108 [(0, 0)] := ⟨.inl ⟨_, Try.underlying108, by kernel_rfl, by kernel_rfl⟩⟩
instance : Aggr Try.prog 108 0 := ⟨⟨_, Try.underlying108, rfl⟩, by kernel_rfl⟩
instance : Sz Try.prog 109 (.agg #[]) 0 0 := ⟨by kernel_rfl⟩
instance : ZeroC Try.prog 109 [] := ⟨zeroC_of (z := .agg #[]) (by kernel_rfl) rfl⟩
instance : Parts Try.prog 109 [(0, 0)] := ⟨.inl ⟨_, Try.underlying109, by kernel_rfl, by kernel_rfl⟩⟩
instance : Aggr Try.prog 109 0 := ⟨⟨_, Try.underlying109, rfl⟩, by kernel_rfl⟩
instance : Sz Try.prog 110 (.nilFunc) 1 8 := ⟨by kernel_rfl⟩
instance : ZeroC Try.prog 110 [.nilFunc] := ⟨zeroC_of (z := .nilFunc) (by kernel_rfl) rfl⟩
instance : Scalar Try.prog 110 := ⟨_, Try.underlying110, rfl⟩
instance : Sz Try.prog 111 (.int .u32 0) 1 4 := ⟨by kernel_rfl⟩
instance : ZeroC Try.prog 111 [.int .u32 0] := ⟨zeroC_of (z := .int .u32 0) (by kernel_rfl) rfl⟩
instance : Scalar Try.prog 111 := ⟨_, Try.underlying111, rfl⟩
instance : Sz Try.prog 112 (.int .u8 0) 1 1 := ⟨by kernel_rfl⟩
instance : ZeroC Try.prog 112 [.int .u8 0] := ⟨zeroC_of (z := .int .u8 0) (by kernel_rfl) rfl⟩
instance : Scalar Try.prog 112 := ⟨_, Try.underlying112, rfl⟩
instance : Sz Try.prog 113 (.int .u8 0) 1 1 := ⟨by kernel_rfl⟩
instance : ZeroC Try.prog 113 [.int .u8 0] := ⟨zeroC_of (z := .int .u8 0) (by kernel_rfl) rfl⟩
instance : Scalar Try.prog 113 := ⟨_, Try.underlying113, rfl⟩
instance : Sz Try.prog 114 (.nilFunc) 1 8 := ⟨by kernel_rfl⟩
instance : ZeroC Try.prog 114 [.nilFunc] := ⟨zeroC_of (z := .nilFunc) (by kernel_rfl) rfl⟩
instance : Scalar Try.prog 114 := ⟨_, Try.underlying114, rfl⟩
instance : Sz Try.prog 115 (.pointer none) 1 8 := ⟨by kernel_rfl⟩
instance : ZeroC Try.prog 115 [.pointer none] := ⟨zeroC_of (z := .pointer none) (by kernel_rfl) rfl⟩
instance : Scalar Try.prog 115 := ⟨_, Try.underlying115, rfl⟩
instance : Sz Try.prog 116 (.int .i32 0) 1 4 := ⟨by kernel_rfl⟩
instance : ZeroC Try.prog 116 [.int .i32 0] := ⟨zeroC_of (z := .int .i32 0) (by kernel_rfl) rfl⟩
instance : Scalar Try.prog 116 := ⟨_, Try.underlying116, rfl⟩
instance : Sz Try.prog 117 (.int .i32 0) 1 4 := ⟨by kernel_rfl⟩
instance : ZeroC Try.prog 117 [.int .i32 0] := ⟨zeroC_of (z := .int .i32 0) (by kernel_rfl) rfl⟩
instance : Scalar Try.prog 117 := ⟨_, Try.underlying117, rfl⟩
instance : Sz Try.prog 118 (.agg #[.int .u64 0, .int .u64 0, .int .u32 0, .int .u8 0, .int .u8 0, .int .u8 0, .int .u8 0, .nilFunc, .pointer none, .int .i32 0, .int .i32 0]) 11 48 := ⟨by kernel_rfl⟩
instance : ZeroC Try.prog 118 [.int .u64 0, .int .u64 0, .int .u32 0, .int .u8 0, .int .u8 0, .int .u8 0, .int .u8 0, .nilFunc, .pointer none, .int .i32 0, .int .i32 0] := ⟨zeroC_of (z := .agg #[.int .u64 0, .int .u64 0, .int .u32 0, .int .u8 0, .int .u8 0, .int .u8 0, .int .u8 0, .nilFunc, .pointer none, .int .i32 0, .int .i32 0]) (by kernel_rfl) rfl⟩
instance : Parts Try.prog 118 [(0, 1), (1, 1), (2, 1), (3, 1), (4, 1), (5, 1), (6, 1), (7, 1), (8, 1), (9, 1), (10, 1)] := ⟨.inl ⟨_, Try.underlying118, by kernel_rfl, by kernel_rfl⟩⟩
instance : Aggr Try.prog 118 11 := ⟨⟨_, Try.underlying118, rfl⟩, by kernel_rfl⟩
instance : Fld Try.prog 118 0 0 := ⟨fld_of (by kernel_rfl)⟩
instance : Fld Try.prog 118 1 1 := ⟨fld_of (by kernel_rfl)⟩
instance : Fld Try.prog 118 2 2 := ⟨fld_of (by kernel_rfl)⟩
instance : Fld Try.prog 118 3 3 := ⟨fld_of (by kernel_rfl)⟩
instance : Fld Try.prog 118 4 4 := ⟨fld_of (by kernel_rfl)⟩
instance : Fld Try.prog 118 5 5 := ⟨fld_of (by kernel_rfl)⟩
instance : Fld Try.prog 118 6 6 := ⟨fld_of (by kernel_rfl)⟩
instance : Fld Try.prog 118 7 7 := ⟨fld_of (by kernel_rfl)⟩
instance : Fld Try.prog 118 8 8 := ⟨fld_of (by kernel_rfl)⟩
instance : Fld Try.prog 118 9 9 := ⟨fld_of (by kernel_rfl)⟩
instance : Fld Try.prog 118 10 10 := ⟨fld_of (by kernel_rfl)⟩
instance : Sz Try.prog 119 (.agg #[.int .u64 0, .int .u64 0, .int .u32 0, .int .u8 0, .int .u8 0, .int .u8 0, .int .u8 0, .nilFunc, .pointer none, .int .i32 0, .int .i32 0]) 11 48 := ⟨by kernel_rfl⟩
instance : ZeroC Try.prog 119 [.int .u64 0, .int .u64 0, .int .u32 0, .int .u8 0, .int .u8 0, .int .u8 0, .int .u8 0, .nilFunc, .pointer none, .int .i32 0, .int .i32 0] := ⟨zeroC_of (z := .agg #[.int .u64 0, .int .u64 0, .int .u32 0, .int .u8 0, .int .u8 0, .int .u8 0, .int .u8 0, .nilFunc, .pointer none, .int .i32 0, .int .i32 0]) (by kernel_rfl) rfl⟩
instance : Parts Try.prog 119 [(0, 1), (1, 1), (2, 1), (3, 1), (4, 1), (5, 1), (6, 1), (7, 1), (8, 1), (9, 1), (10, 1)] := ⟨.inl ⟨_, Try.underlying119, by kernel_rfl, by kernel_rfl⟩⟩
instance : Aggr Try.prog 119 11 := ⟨⟨_, Try.underlying119, rfl⟩, by kernel_rfl⟩
instance : Fld Try.prog 119 0 0 := ⟨fld_of (by kernel_rfl)⟩
instance : Fld Try.prog 119 1 1 := ⟨fld_of (by kernel_rfl)⟩
instance : Fld Try.prog 119 2 2 := ⟨fld_of (by kernel_rfl)⟩
instance : Fld Try.prog 119 3 3 := ⟨fld_of (by kernel_rfl)⟩
instance : Fld Try.prog 119 4 4 := ⟨fld_of (by kernel_rfl)⟩
instance : Fld Try.prog 119 5 5 := ⟨fld_of (by kernel_rfl)⟩
instance : Fld Try.prog 119 6 6 := ⟨fld_of (by kernel_rfl)⟩
instance : Fld Try.prog 119 7 7 := ⟨fld_of (by kernel_rfl)⟩
instance : Fld Try.prog 119 8 8 := ⟨fld_of (by kernel_rfl)⟩
instance : Fld Try.prog 119 9 9 := ⟨fld_of (by kernel_rfl)⟩
instance : Fld Try.prog 119 10 10 := ⟨fld_of (by kernel_rfl)⟩
instance : Sz Try.prog 120 (.nilFunc) 1 8 := ⟨by kernel_rfl⟩
instance : ZeroC Try.prog 120 [.nilFunc] := ⟨zeroC_of (z := .nilFunc) (by kernel_rfl) rfl⟩
instance : Scalar Try.prog 120 := ⟨_, Try.underlying120, rfl⟩
instance : Sz Try.prog 121 (.pointer none) 1 8 := ⟨by kernel_rfl⟩
instance : ZeroC Try.prog 121 [.pointer none] := ⟨zeroC_of (z := .pointer none) (by kernel_rfl) rfl⟩
instance : Scalar Try.prog 121 := ⟨_, Try.underlying121, rfl⟩
end Go.Proofs.Ytnclbllhflinfaa.St
