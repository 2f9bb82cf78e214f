/-
  A call of each function of the program that has a body enters it.
-/
import Derived.Test.YtffjfkolhpcldaaStDraw
import Derived.Test.YtffjfkolhpcldaaRows
namespace Go.Proofs.Ytffjfkolhpcldaa.St
theorem mixed : Try.prog.follows .mixedOrders = true := by kernel_rfl
theorem en3 : Enters Try.prog 3 := enters_of Try.func3 (by kernel_rfl) rfl
instance : En Try.prog 3 := ⟨en3⟩
theorem en4 : Enters Try.prog 4 := enters_of Try.func4 (by kernel_rfl) rfl
instance : En Try.prog 4 := ⟨en4⟩
theorem en5 : Enters Try.prog 5 := enters_of Try.func5 (by kernel_rfl) rfl
instance : En Try.prog 5 := ⟨en5⟩
theorem en6 : Enters Try.prog 6 := enters_of Try.func6 (by kernel_rfl) rfl
instance : En Try.prog 6 := ⟨en6⟩
theorem en7 : Enters Try.prog 7 := enters_of Try.func7 (by kernel_rfl) rfl
instance : En Try.prog 7 := ⟨en7⟩
theorem en8 : Enters Try.prog 8 := enters_of Try.func8 (by kernel_rfl) rfl
instance : En Try.prog 8 := ⟨en8⟩
theorem en9 : Enters Try.prog 9 := enters_of Try.func9 (by kernel_rfl) rfl
instance : En Try.prog 9 := ⟨en9⟩
theorem en10 : Enters Try.prog 10 := enters_of Try.func10 (by kernel_rfl) rfl
instance : En Try.prog 10 := ⟨en10⟩
theorem en11 : Enters Try.prog 11 := enters_of Try.func11 (by kernel_rfl) rfl
instance : En Try.prog 11 := ⟨en11⟩
theorem en12 : Enters Try.prog 12 := enters_of Try.func12 (by kernel_rfl) rfl
instance : En Try.prog 12 := ⟨en12⟩
theorem en13 : Enters Try.prog 13 := enters_of Try.func13 (by kernel_rfl) rfl
instance : En Try.prog 13 := ⟨en13⟩
theorem en14 : Enters Try.prog 14 := enters_of Try.func14 (by kernel_rfl) rfl
instance : En Try.prog 14 := ⟨en14⟩
theorem en15 : Enters Try.prog 15 := enters_of Try.func15 (by kernel_rfl) rfl
instance : En Try.prog 15 := ⟨en15⟩
theorem en16 : Enters Try.prog 16 := enters_of Try.func16 (by kernel_rfl) rfl
instance : En Try.prog 16 := ⟨en16⟩
theorem en17 : Enters Try.prog 17 := enters_of Try.func17 (by kernel_rfl) rfl
instance : En Try.prog 17 := ⟨en17⟩
theorem en18 : Enters Try.prog 18 := enters_of Try.func18 (by kernel_rfl) rfl
instance : En Try.prog 18 := ⟨en18⟩
theorem en19 : Enters Try.prog 19 := enters_of Try.func19 (by kernel_rfl) rfl
instance : En Try.prog 19 := ⟨en19⟩
theorem en20 : Enters Try.prog 20 := enters_of Try.func20 (by kernel_rfl) rfl
instance : En Try.prog 20 := ⟨en20⟩
theorem en21 : Enters Try.prog 21 := enters_of Try.func21 (by kernel_rfl) rfl
instance : En Try.prog 21 := ⟨en21⟩
theorem en22 : Enters Try.prog 22 := enters_of Try.func22 (by kernel_rfl) rfl
instance : En Try.prog 22 := ⟨en22⟩
theorem en23 : Enters Try.prog 23 := enters_of Try.func23 (by kernel_rfl) rfl
instance : En Try.prog 23 := ⟨en23⟩
theorem en24 : Enters Try.prog 24 := enters_of Try.func24 (by kernel_rfl) rfl
instance : En Try.prog 24 := ⟨en24⟩
theorem en25 : Enters Try.prog 25 := enters_of Try.func25 (by kernel_rfl) rfl
instance : En Try.prog 25 := ⟨en25⟩
theorem en26 : Enters Try.prog 26 := enters_of Try.func26 (by kernel_rfl) rfl
instance : En Try.prog 26 := ⟨en26⟩
theorem en27 : Enters Try.prog 27 := enters_of Try.func27 (by kernel_rfl) rfl
instance : En Try.prog 27 := ⟨en27⟩
theorem en28 : Enters Try.prog 28 := enters_of Try.func28 (by kernel_rfl) rfl
instance : En Try.prog 28 := ⟨en28⟩
theorem en29 : Enters Try.prog 29 := enters_of Try.func29 (by kernel_rfl) rfl
instance : En Try.prog 29 := ⟨en29⟩
theorem en30 : Enters Try.prog 30 := enters_of Try.func30 (by kernel_rfl) rfl
instance : En Try.prog 30 := ⟨en30⟩
theorem en31 : Enters Try.prog 31 := enters_of Try.func31 (by kernel_rfl) rfl
instance : En Try.prog 31 := ⟨en31⟩
theorem en32 : Enters Try.prog 32 := enters_of Try.func32 (by kernel_rfl) rfl
instance : En Try.prog 32 := ⟨en32⟩
theorem en33 : Enters Try.prog 33 := enters_of Try.func33 (by kernel_rfl) rfl
instance : En Try.prog 33 := ⟨en33⟩
theorem en34 : Enters Try.prog 34 := enters_of Try.func34 (by kernel_rfl) rfl
instance : En Try.prog 34 := ⟨en34⟩
theorem en35 : Enters Try.prog 35 := enters_of Try.func35 (by kernel_rfl) rfl
instance : En Try.prog 35 := ⟨en35⟩
theorem en36 : Enters Try.prog 36 := enters_of Try.func36 (by kernel_rfl) rfl
instance : En Try.prog 36 := ⟨en36⟩
theorem en37 : Enters Try.prog 37 := enters_of Try.func37 (by kernel_rfl) rfl
instance : En Try.prog 37 := ⟨en37⟩
theorem en38 : Enters Try.prog 38 := enters_of Try.func38 (by kernel_rfl) rfl
instance : En Try.prog 38 := ⟨en38⟩
theorem en39 : Enters Try.prog 39 := enters_of Try.func39 (by kernel_rfl) rfl
instance : En Try.prog 39 := ⟨en39⟩
theorem en40 : Enters Try.prog 40 := enters_of Try.func40 (by kernel_rfl) rfl
instance : En Try.prog 40 := ⟨en40⟩
theorem en41 : Enters Try.prog 41 := enters_of Try.func41 (by kernel_rfl) rfl
instance : En Try.prog 41 := ⟨en41⟩
theorem en42 : Enters Try.prog 42 := enters_of Try.func42 (by kernel_rfl) rfl
instance : En Try.prog 42 := ⟨en42⟩
theorem en43 : Enters Try.prog 43 := enters_of Try.func43 (by kernel_rfl) rfl
instance : En Try.prog 43 := ⟨en43⟩
theorem en44 : Enters Try.prog 44 := enters_of Try.func44 (by kernel_rfl) rfl
instance : En Try.prog 44 := ⟨en44⟩
theorem en45 : Enters Try.prog 45 := enters_of Try.func45 (by kernel_rfl) rfl
instance : En Try.prog 45 := ⟨en45⟩
theorem en46 : Enters Try.prog 46 := enters_of Try.func46 (by kernel_rfl) rfl
instance : En Try.prog 46 := ⟨en46⟩
theorem en47 : Enters Try.prog 47 := enters_of Try.func47 (by kernel_rfl) rfl
instance : En Try.prog 47 := ⟨en47⟩
theorem en48 : Enters Try.prog 48 := enters_of Try.func48 (by kernel_rfl) rfl
instance : En Try.prog 48 := ⟨en48⟩
theorem en49 : Enters Try.prog 49 := enters_of Try.func49 (by kernel_rfl) rfl
instance : En Try.prog 49 := ⟨en49⟩
theorem en50 : Enters Try.prog 50 := enters_of Try.func50 (by kernel_rfl) rfl
instance : En Try.prog 50 := ⟨en50⟩
theorem en51 : Enters Try.prog 51 := enters_of Try.func51 (by kernel_rfl) rfl
instance : En Try.prog 51 := ⟨en51⟩
theorem en52 : Enters Try.prog 52 := enters_of Try.func52 (by kernel_rfl) rfl
instance : En Try.prog 52 := ⟨en52⟩
theorem en53 : Enters Try.prog 53 := enters_of Try.func53 (by kernel_rfl) rfl
instance : En Try.prog 53 := ⟨en53⟩
theorem en54 : Enters Try.prog 54 := enters_of Try.func54 (by kernel_rfl) rfl
instance : En Try.prog 54 := ⟨en54⟩
theorem en55 : Enters Try.prog 55 := enters_of Try.func55 (by kernel_rfl) rfl
instance : En Try.prog 55 := ⟨en55⟩
theorem en56 : Enters Try.prog 56 := enters_of Try.func56 (by kernel_rfl) rfl
instance : En Try.prog 56 := ⟨en56⟩
theorem en57 : Enters Try.prog 57 := enters_of Try.func57 (by kernel_rfl) rfl
instance : En Try.prog 57 := ⟨en57⟩
instance : Sz Try.prog 1 (.nilFunc) 1 8 := ⟨by kernel_rfl⟩
instance : ZeroC Try.prog 1 [.nilFunc] := ⟨zeroC_of (z := .nilFunc) (by kernel_rfl) rfl⟩
instance : Scalar Try.prog 1 := ⟨_, Try.underlying1, rfl⟩
instance : Sz Try.prog 2 (.int .i64 0) 1 8 := ⟨by kernel_rfl⟩
instance : ZeroC Try.prog 2 [.int .i64 0] := ⟨zeroC_of (z := .int .i64 0) (by kernel_rfl) rfl⟩
instance : Scalar Try.prog 2 := ⟨_, Try.underlying2, rfl⟩
instance : Sz Try.prog 3 (.int .i64 0) 1 8 := ⟨by kernel_rfl⟩
instance : ZeroC Try.prog 3 [.int .i64 0] := ⟨zeroC_of (z := .int .i64 0) (by kernel_rfl) rfl⟩
instance : Scalar Try.prog 3 := ⟨_, Try.underlying3, rfl⟩
instance : Sz Try.prog 4 (.bool false) 1 1 := ⟨by kernel_rfl⟩
instance : ZeroC Try.prog 4 [.bool false] := ⟨zeroC_of (z := .bool false) (by kernel_rfl) rfl⟩
instance : Scalar Try.prog 4 := ⟨_, Try.underlying4, rfl⟩
instance : BoolT Try.prog 4 := ⟨Try.underlying4⟩
instance : Sz Try.prog 5 (.int .u8 0) 1 1 := ⟨by kernel_rfl⟩
instance : ZeroC Try.prog 5 [.int .u8 0] := ⟨zeroC_of (z := .int .u8 0) (by kernel_rfl) rfl⟩
instance : Scalar Try.prog 5 := ⟨_, Try.underlying5, rfl⟩
instance : Sz Try.prog 6 (.int .u8 0) 1 1 := ⟨by kernel_rfl⟩
instance : ZeroC Try.prog 6 [.int .u8 0] := ⟨zeroC_of (z := .int .u8 0) (by kernel_rfl) rfl⟩
instance : Scalar Try.prog 6 := ⟨_, Try.underlying6, rfl⟩
instance : Sz Try.prog 7 (.agg #[.int .i64 0, .int .i64 0, .bool false, .int .u8 0]) 4 24 := ⟨by kernel_rfl⟩
instance : ZeroC Try.prog 7 [.int .i64 0, .int .i64 0, .bool false, .int .u8 0] := ⟨zeroC_of (z := .agg #[.int .i64 0, .int .i64 0, .bool false, .int .u8 0]) (by kernel_rfl) rfl⟩
instance : Parts Try.prog 7 [(0, 1), (1, 1), (2, 1), (3, 1)] := ⟨.inl ⟨_, Try.underlying7, by kernel_rfl, by kernel_rfl⟩⟩
instance : Aggr Try.prog 7 4 := ⟨⟨_, Try.underlying7, rfl⟩, by kernel_rfl⟩
instance : Fld Try.prog 7 0 0 := ⟨fld_of (by kernel_rfl)⟩
instance : Fld Try.prog 7 1 1 := ⟨fld_of (by kernel_rfl)⟩
instance : Fld Try.prog 7 2 2 := ⟨fld_of (by kernel_rfl)⟩
instance : Fld Try.prog 7 3 3 := ⟨fld_of (by kernel_rfl)⟩
instance : Sz Try.prog 8 (.agg #[.int .i64 0, .int .i64 0, .bool false, .int .u8 0]) 4 24 := ⟨by kernel_rfl⟩
instance : ZeroC Try.prog 8 [.int .i64 0, .int .i64 0, .bool false, .int .u8 0] := ⟨zeroC_of (z := .agg #[.int .i64 0, .int .i64 0, .bool false, .int .u8 0]) (by kernel_rfl) rfl⟩
instance : Parts Try.prog 8 [(0, 1), (1, 1), (2, 1), (3, 1)] := ⟨.inl ⟨_, Try.underlying8, by kernel_rfl, by kernel_rfl⟩⟩
instance : Aggr Try.prog 8 4 := ⟨⟨_, Try.underlying8, rfl⟩, by kernel_rfl⟩
instance : Fld Try.prog 8 0 0 := ⟨fld_of (by kernel_rfl)⟩
instance : Fld Try.prog 8 1 1 := ⟨fld_of (by kernel_rfl)⟩
instance : Fld Try.prog 8 2 2 := ⟨fld_of (by kernel_rfl)⟩
instance : Fld Try.prog 8 3 3 := ⟨fld_of (by kernel_rfl)⟩
instance : Sz Try.prog 9 (.string ⟨#[]⟩) 1 16 := ⟨by kernel_rfl⟩
instance : ZeroC Try.prog 9 [.string ⟨#[]⟩] := ⟨zeroC_of (z := .string ⟨#[]⟩) (by kernel_rfl) rfl⟩
instance : Scalar Try.prog 9 := ⟨_, Try.underlying9, rfl⟩
instance : StrT Try.prog 9 := ⟨Try.underlying9⟩
instance : Sz Try.prog 10 (.string ⟨#[]⟩) 1 16 := ⟨by kernel_rfl⟩
instance : ZeroC Try.prog 10 [.string ⟨#[]⟩] := ⟨zeroC_of (z := .string ⟨#[]⟩) (by kernel_rfl) rfl⟩
instance : Scalar Try.prog 10 := ⟨_, Try.underlying10, rfl⟩
instance : StrT Try.prog 10 := ⟨Try.underlying10⟩
instance : Sz Try.prog 11 (.string ⟨#[]⟩) 1 16 := ⟨by kernel_rfl⟩
instance : ZeroC Try.prog 11 [.string ⟨#[]⟩] := ⟨zeroC_of (z := .string ⟨#[]⟩) (by kernel_rfl) rfl⟩
instance : Scalar Try.prog 11 := ⟨_, Try.underlying11, rfl⟩
instance : StrT Try.prog 11 := ⟨Try.underlying11⟩
instance : Sz Try.prog 12 (.int .u64 0) 1 8 := ⟨by kernel_rfl⟩
instance : ZeroC Try.prog 12 [.int .u64 0] := ⟨zeroC_of (z := .int .u64 0) (by kernel_rfl) rfl⟩
instance : Scalar Try.prog 12 := ⟨_, Try.underlying12, rfl⟩
instance : Sz Try.prog 13 (.agg #[.string ⟨#[]⟩, .int .u64 0]) 2 24 := ⟨by kernel_rfl⟩
instance : ZeroC Try.prog 13 [.string ⟨#[]⟩, .int .u64 0] := ⟨zeroC_of (z := .agg #[.string ⟨#[]⟩, .int .u64 0]) (by kernel_rfl) rfl⟩
instance : Parts Try.prog 13 [(0, 1), (1, 1)] := ⟨.inl ⟨_, Try.underlying13, by kernel_rfl, by kernel_rfl⟩⟩
instance : Aggr Try.prog 13 2 := ⟨⟨_, Try.underlying13, rfl⟩, by kernel_rfl⟩
instance : Fld Try.prog 13 0 0 := ⟨fld_of (by kernel_rfl)⟩
instance : Fld Try.prog 13 1 1 := ⟨fld_of (by kernel_rfl)⟩
instance : Sz Try.prog 14 (.agg #[.string ⟨#[]⟩, .int .u64 0]) 2 24 := ⟨by kernel_rfl⟩
instance : ZeroC Try.prog 14 [.string ⟨#[]⟩, .int .u64 0] := ⟨zeroC_of (z := .agg #[.string ⟨#[]⟩, .int .u64 0]) (by kernel_rfl) rfl⟩
instance : Parts Try.prog 14 [(0, 1), (1, 1)] := ⟨.inl ⟨_, Try.underlying14, by kernel_rfl, by kernel_rfl⟩⟩
instance : Aggr Try.prog 14 2 := ⟨⟨_, Try.underlying14, rfl⟩, by kernel_rfl⟩
instance : Fld Try.prog 14 0 0 := ⟨fld_of (by kernel_rfl)⟩
instance : Fld Try.prog 14 1 1 := ⟨fld_of (by kernel_rfl)⟩
instance : Sz Try.prog 15 (.pointer none) 1 8 := ⟨by kernel_rfl⟩
instance : ZeroC Try.prog 15 [.pointer none] := ⟨zeroC_of (z := .pointer none) (by kernel_rfl) rfl⟩
instance : Scalar Try.prog 15 := ⟨_, Try.underlying15, rfl⟩
instance : Sz Try.prog 16 (.pointer none) 1 8 := ⟨by kernel_rfl⟩
instance : ZeroC Try.prog 16 [.pointer none] := ⟨zeroC_of (z := .pointer none) (by kernel_rfl) rfl⟩
instance : Scalar Try.prog 16 := ⟨_, Try.underlying16, rfl⟩
instance : Sz Try.prog 17 (.pointer none) 1 8 := ⟨by kernel_rfl⟩
instance : ZeroC Try.prog 17 [.pointer none] := ⟨zeroC_of (z := .pointer none) (by kernel_rfl) rfl⟩
instance : Scalar Try.prog 17 := ⟨_, Try.underlying17, rfl⟩
instance : Sz Try.prog 18 (.agg #[.pointer none]) 1 8 := ⟨by kernel_rfl⟩
instance : ZeroC Try.prog 18 [.pointer none] := ⟨zeroC_of (z := .agg #[.pointer none]) (by kernel_rfl) rfl⟩
instance : Parts Try.prog 18 [(0, 1)] := ⟨.inl ⟨_, Try.underlying18, by kernel_rfl, by kernel_rfl⟩⟩
instance : Aggr Try.prog 18 1 := ⟨⟨_, Try.underlying18, rfl⟩, by kernel_rfl⟩
instance : Fld Try.prog 18 0 0 := ⟨fld_of (by kernel_rfl)⟩
instance : Sz Try.prog 19 (.agg #[.pointer none]) 1 8 := ⟨by kernel_rfl⟩
instance : ZeroC Try.prog 19 [.pointer none] := ⟨zeroC_of (z := .agg #[.pointer none]) (by kernel_rfl) rfl⟩
instance : Parts Try.prog 19 [(0, 1)] := ⟨.inl ⟨_, Try.underlying19, by kernel_rfl, by kernel_rfl⟩⟩
instance : Aggr Try.prog 19 1 := ⟨⟨_, Try.underlying19, rfl⟩, by kernel_rfl⟩
instance : Fld Try.prog 19 0 0 := ⟨fld_of (by kernel_rfl)⟩
instance : Sz Try.prog 20 (.nilIface) 1 16 := ⟨by kernel_rfl⟩
instance : ZeroC Try.prog 20 [.nilIface] := ⟨zeroC_of (z := .nilIface) (by kernel_rfl) rfl⟩
instance : Scalar Try.prog 20 := ⟨_, Try.underlying20, rfl⟩
instance : Sz Try.prog 21 (.int .i32 0) 1 4 := ⟨by kernel_rfl⟩
instance : ZeroC Try.prog 21 [.int .i32 0] := ⟨zeroC_of (z := .int .i32 0) (by kernel_rfl) rfl⟩
instance : Scalar Try.prog 21 := ⟨_, Try.underlying21, rfl⟩
instance : Sz Try.prog 22 (.nilFunc) 1 8 := ⟨by kernel_rfl⟩
instance : ZeroC Try.prog 22 [.nilFunc] := ⟨zeroC_of (z := .nilFunc) (by kernel_rfl) rfl⟩
instance : Scalar Try.prog 22 := ⟨_, Try.underlying22, rfl⟩
instance : Sz Try.prog 23 (.nilFunc) 1 8 := ⟨by kernel_rfl⟩
instance : ZeroC Try.prog 23 [.nilFunc] := ⟨zeroC_of (z := .nilFunc) (by kernel_rfl) rfl⟩
instance : Scalar Try.prog 23 := ⟨_, Try.underlying23, rfl⟩
instance : Sz Try.prog 24 (.slice none 0 0) 1 24 := ⟨by kernel_rfl⟩
instance : ZeroC Try.prog 24 [.slice none 0 0] := ⟨zeroC_of (z := .slice none 0 0) (by kernel_rfl) rfl⟩
instance : Scalar Try.prog 24 := ⟨_, Try.underlying24, rfl⟩
instance : SliceT Try.prog 24 3 := ⟨Try.underlying24⟩
instance : Sz Try.prog 25 (.nilFunc) 1 8 := ⟨by kernel_rfl⟩
instance : ZeroC Try.prog 25 [.nilFunc] := ⟨zeroC_of (z := .nilFunc) (by kernel_rfl) rfl⟩
instance : Scalar Try.prog 25 := ⟨_, Try.underlying25, rfl⟩
instance : Sz Try.prog 26 (.nilFunc) 1 8 := ⟨by kernel_rfl⟩
instance : ZeroC Try.prog 26 [.nilFunc] := ⟨zeroC_of (z := .nilFunc) (by kernel_rfl) rfl⟩
instance : Scalar Try.prog 26 := ⟨_, Try.underlying26, rfl⟩
instance : Sz Try.prog 27 (.nilFunc) 1 8 := ⟨by kernel_rfl⟩
instance : ZeroC Try.prog 27 [.nilFunc] := ⟨zeroC_of (z := .nilFunc) (by kernel_rfl) rfl⟩
instance : Scalar Try.prog 27 := ⟨_, Try.underlying27, rfl⟩
instance : Sz Try.prog 28 (.nilFunc) 1 8 := ⟨by kernel_rfl⟩
instance : ZeroC Try.prog 28 [.nilFunc] := ⟨zeroC_of (z := .nilFunc) (by kernel_rfl) rfl⟩
instance : Scalar Try.prog 28 := ⟨_, Try.underlying28, rfl⟩
instance : Sz Try.prog 29 (.agg #[.int .i64 0, .int .i64 0, .int .i64 0, .int .i64 0, .bool false, .int .i64 0, .int .i64 0]) 7 56 := ⟨by kernel_rfl⟩
instance : ZeroC Try.prog 29 [.int .i64 0, .int .i64 0, .int .i64 0, .int .i64 0, .bool false, .int .i64 0, .int .i64 0] := ⟨zeroC_of (z := .agg #[.int .i64 0, .int .i64 0, .int .i64 0, .int .i64 0, .bool false, .int .i64 0, .int .i64 0]) (by kernel_rfl) rfl⟩
instance : Parts Try.prog 29 [(0, 1), (1, 1), (2, 1), (3, 1), (4, 1), (5, 1), (6, 1)] := ⟨.inl ⟨_, Try.underlying29, by kernel_rfl, by kernel_rfl⟩⟩
instance : Aggr Try.prog 29 7 := ⟨⟨_, Try.underlying29, rfl⟩, by kernel_rfl⟩
instance : Fld Try.prog 29 0 0 := ⟨fld_of (by kernel_rfl)⟩
instance : Fld Try.prog 29 1 1 := ⟨fld_of (by kernel_rfl)⟩
instance : Fld Try.prog 29 2 2 := ⟨fld_of (by kernel_rfl)⟩
instance : Fld Try.prog 29 3 3 := ⟨fld_of (by kernel_rfl)⟩
instance : Fld Try.prog 29 4 4 := ⟨fld_of (by kernel_rfl)⟩
instance : Fld Try.prog 29 5 5 := ⟨fld_of (by kernel_rfl)⟩
instance : Fld Try.prog 29 6 6 := ⟨fld_of (by kernel_rfl)⟩
instance : Sz Try.prog 30 (.agg #[.int .i64 0, .int .i64 0, .int .i64 0, .int .i64 0, .bool false, .int .i64 0, .int .i64 0]) 7 56 := ⟨by kernel_rfl⟩
instance : ZeroC Try.prog 30 [.int .i64 0, .int .i64 0, .int .i64 0, .int .i64 0, .bool false, .int .i64 0, .int .i64 0] := ⟨zeroC_of (z := .agg #[.int .i64 0, .int .i64 0, .int .i64 0, .int .i64 0, .bool false, .int .i64 0, .int .i64 0]) (by kernel_rfl) rfl⟩
instance : Parts Try.prog 30 [(0, 1), (1, 1), (2, 1), (3, 1), (4, 1), (5, 1), (6, 1)] := ⟨.inl ⟨_, Try.underlying30, by kernel_rfl, by kernel_rfl⟩⟩
instance : Aggr Try.prog 30 7 := ⟨⟨_, Try.underlying30, rfl⟩, by kernel_rfl⟩
instance : Fld Try.prog 30 0 0 := ⟨fld_of (by kernel_rfl)⟩
instance : Fld Try.prog 30 1 1 := ⟨fld_of (by kernel_rfl)⟩
instance : Fld Try.prog 30 2 2 := ⟨fld_of (by kernel_rfl)⟩
instance : Fld Try.prog 30 3 3 := ⟨fld_of (by kernel_rfl)⟩
instance : Fld Try.prog 30 4 4 := ⟨fld_of (by kernel_rfl)⟩
instance : Fld Try.prog 30 5 5 := ⟨fld_of (by kernel_rfl)⟩
instance : Fld Try.prog 30 6 6 := ⟨fld_of (by kernel_rfl)⟩
instance : Sz Try.prog 31 (.agg #[.int .i64 0, .int .i64 0, .int .i64 0, .int .i64 0]) 4 32 := ⟨by kernel_rfl⟩
instance : ZeroC Try.prog 31 [.int .i64 0, .int .i64 0, .int .i64 0, .int .i64 0] := ⟨zeroC_of (z := .agg #[.int .i64 0, .int .i64 0, .int .i64 0, .int .i64 0]) (by kernel_rfl) rfl⟩
instance : Parts Try.prog 31 [(0, 1), (1, 1), (2, 1), (3, 1)] := ⟨.inl ⟨_, Try.underlying31, by kernel_rfl, by kernel_rfl⟩⟩
instance : Aggr Try.prog 31 4 := ⟨⟨_, Try.underlying31, rfl⟩, by kernel_rfl⟩
instance : Fld Try.prog 31 0 0 := ⟨fld_of (by kernel_rfl)⟩
instance : Fld Try.prog 31 1 1 := ⟨fld_of (by kernel_rfl)⟩
instance : Fld Try.prog 31 2 2 := ⟨fld_of (by kernel_rfl)⟩
instance : Fld Try.prog 31 3 3 := ⟨fld_of (by kernel_rfl)⟩
instance : Sz Try.prog 32 (.agg #[.int .i64 0, .int .i64 0, .int .i64 0, .int .i64 0]) 4 32 := ⟨by kernel_rfl⟩
instance : ZeroC Try.prog 32 [.int .i64 0, .int .i64 0, .int .i64 0, .int .i64 0] := ⟨zeroC_of (z := .agg #[.int .i64 0, .int .i64 0, .int .i64 0, .int .i64 0]) (by kernel_rfl) rfl⟩
instance : Parts Try.prog 32 [(0, 1), (1, 1), (2, 1), (3, 1)] := ⟨.inl ⟨_, Try.underlying32, by kernel_rfl, by kernel_rfl⟩⟩
instance : Aggr Try.prog 32 4 := ⟨⟨_, Try.underlying32, rfl⟩, by kernel_rfl⟩
instance : Fld Try.prog 32 0 0 := ⟨fld_of (by kernel_rfl)⟩
instance : Fld Try.prog 32 1 1 := ⟨fld_of (by kernel_rfl)⟩
instance : Fld Try.prog 32 2 2 := ⟨fld_of (by kernel_rfl)⟩
instance : Fld Try.prog 32 3 3 := ⟨fld_of (by kernel_rfl)⟩
instance : Sz Try.prog 33 (.nilFunc) 1 8 := ⟨by kernel_rfl⟩
instance : ZeroC Try.prog 33 [.nilFunc] := ⟨zeroC_of (z := .nilFunc) (by kernel_rfl) rfl⟩
instance : Scalar Try.prog 33 := ⟨_, Try.underlying33, rfl⟩
instance : Sz Try.prog 34 (.agg #[.int .i64 0, .int .i64 0, .int .i64 0, .int .i64 0, .bool false, .int .i64 0, .int .i64 0]) 7 56 := ⟨by kernel_rfl⟩
instance : ZeroC Try.prog 34 [.int .i64 0, .int .i64 0, .int .i64 0, .int .i64 0, .bool false, .int .i64 0, .int .i64 0] := ⟨zeroC_of (z := .agg #[.int .i64 0, .int .i64 0, .int .i64 0, .int .i64 0, .bool false, .int .i64 0, .int .i64 0]) (by kernel_rfl) rfl⟩
instance : Parts Try.prog 34 [(0, 1), (1, 1), (2, 1), (3, 1), (4, 1), (5, 1), (6, 1)] := ⟨.inl ⟨_, Try.underlying34, by kernel_rfl, by kernel_rfl⟩⟩
instance : Aggr Try.prog 34 7 := ⟨⟨_, Try.underlying34, rfl⟩, by kernel_rfl⟩
instance : Fld Try.prog 34 0 0 := ⟨fld_of (by kernel_rfl)⟩
instance : Fld Try.prog 34 1 1 := ⟨fld_of (by kernel_rfl)⟩
instance : Fld Try.prog 34 2 2 := ⟨fld_of (by kernel_rfl)⟩
instance : Fld Try.prog 34 3 3 := ⟨fld_of (by kernel_rfl)⟩
instance : Fld Try.prog 34 4 4 := ⟨fld_of (by kernel_rfl)⟩
instance : Fld Try.prog 34 5 5 := ⟨fld_of (by kernel_rfl)⟩
instance : Fld Try.prog 34 6 6 := ⟨fld_of (by kernel_rfl)⟩
instance : Sz Try.prog 35 (.nilFunc) 1 8 := ⟨by kernel_rfl⟩
instance : ZeroC Try.prog 35 [.nilFunc] := ⟨zeroC_of (z := .nilFunc) (by kernel_rfl) rfl⟩
instance : Scalar Try.prog 35 := ⟨_, Try.underlying35, rfl⟩
instance : Sz Try.prog 36 (.agg #[.int .i64 0, .int .i64 0, .int .i64 0, .int .i64 0]) 4 32 := ⟨by kernel_rfl⟩
instance : ZeroC Try.prog 36 [.int .i64 0, .int .i64 0, .int .i64 0, .int .i64 0] := ⟨zeroC_of (z := .agg #[.int .i64 0, .int .i64 0, .int .i64 0, .int .i64 0]) (by kernel_rfl) rfl⟩
instance : Parts Try.prog 36 [(0, 1), (1, 1), (2, 1), (3, 1)] := ⟨.inl ⟨_, Try.underlying36, by kernel_rfl, by kernel_rfl⟩⟩
instance : Aggr Try.prog 36 4 := ⟨⟨_, Try.underlying36, rfl⟩, by kernel_rfl⟩
instance : Fld Try.prog 36 0 0 := ⟨fld_of (by kernel_rfl)⟩
instance : Fld Try.prog 36 1 1 := ⟨fld_of (by kernel_rfl)⟩
instance : Fld Try.prog 36 2 2 := ⟨fld_of (by kernel_rfl)⟩
instance : Fld Try.prog 36 3 3 := ⟨fld_of (by kernel_rfl)⟩
instance : Sz Try.prog 37 (.nilFunc) 1 8 := ⟨by kernel_rfl⟩
instance : ZeroC Try.prog 37 [.nilFunc] := ⟨zeroC_of (z := .nilFunc) (by kernel_rfl) rfl⟩
instance : Scalar Try.prog 37 := ⟨_, Try.underlying37, rfl⟩
instance : Sz Try.prog 38 (.nilFunc) 1 8 := ⟨by kernel_rfl⟩
instance : ZeroC Try.prog 38 [.nilFunc] := ⟨zeroC_of (z := .nilFunc) (by kernel_rfl) rfl⟩
instance : Scalar Try.prog 38 := ⟨_, Try.underlying38, rfl⟩
instance : Sz Try.prog 39 (.agg #[.int .i64 0, .int .i64 0, .int .i64 0, .int .i64 0, .int .i64 0]) 5 40 := ⟨by kernel_rfl⟩
instance : ZeroC Try.prog 39 [.int .i64 0, .int .i64 0, .int .i64 0, .int .i64 0, .int .i64 0] := ⟨zeroC_of (z := .agg #[.int .i64 0, .int .i64 0, .int .i64 0, .int .i64 0, .int .i64 0]) (by kernel_rfl) rfl⟩
instance : Parts Try.prog 39 [(0, 1), (1, 1), (2, 1), (3, 1), (4, 1)] := ⟨.inl ⟨_, Try.underlying39, by kernel_rfl, by kernel_rfl⟩⟩
instance : Aggr Try.prog 39 5 := ⟨⟨_, Try.underlying39, rfl⟩, by kernel_rfl⟩
instance : Fld Try.prog 39 0 0 := ⟨fld_of (by kernel_rfl)⟩
instance : Fld Try.prog 39 1 1 := ⟨fld_of (by kernel_rfl)⟩
instance : Fld Try.prog 39 2 2 := ⟨fld_of (by kernel_rfl)⟩
instance : Fld Try.prog 39 3 3 := ⟨fld_of (by kernel_rfl)⟩
instance : Fld Try.prog 39 4 4 := ⟨fld_of (by kernel_rfl)⟩
instance : Sz Try.prog 40 (.agg #[.int .i64 0, .int .i64 0, .int .i64 0, .int .i64 0, .int .i64 0]) 5 40 := ⟨by kernel_rfl⟩
instance : ZeroC Try.prog 40 [.int .i64 0, .int .i64 0, .int .i64 0, .int .i64 0, .int .i64 0] := ⟨zeroC_of (z := .agg #[.int .i64 0, .int .i64 0, .int .i64 0, .int .i64 0, .int .i64 0]) (by kernel_rfl) rfl⟩
instance : Parts Try.prog 40 [(0, 1), (1, 1), (2, 1), (3, 1), (4, 1)] := ⟨.inl ⟨_, Try.underlying40, by kernel_rfl, by kernel_rfl⟩⟩
instance : Aggr Try.prog 40 5 := ⟨⟨_, Try.underlying40, rfl⟩, by kernel_rfl⟩
instance : Fld Try.prog 40 0 0 := ⟨fld_of (by kernel_rfl)⟩
instance : Fld Try.prog 40 1 1 := ⟨fld_of (by kernel_rfl)⟩
instance : Fld Try.prog 40 2 2 := ⟨fld_of (by kernel_rfl)⟩
instance : Fld Try.prog 40 3 3 := ⟨fld_of (by kernel_rfl)⟩
instance : Fld Try.prog 40 4 4 := ⟨fld_of (by kernel_rfl)⟩
instance : Sz Try.prog 41 (.nilFunc) 1 8 := ⟨by kernel_rfl⟩
instance : ZeroC Try.prog 41 [.nilFunc] := ⟨zeroC_of (z := .nilFunc) (by kernel_rfl) rfl⟩
instance : Scalar Try.prog 41 := ⟨_, Try.underlying41, rfl⟩
instance : Sz Try.prog 42 (.agg #[.int .i64 0, .int .i64 0, .int .i64 0, .int .i64 0, .int .i64 0]) 5 40 := ⟨by kernel_rfl⟩
instance : ZeroC Try.prog 42 [.int .i64 0, .int .i64 0, .int .i64 0, .int .i64 0, .int .i64 0] := ⟨zeroC_of (z := .agg #[.int .i64 0, .int .i64 0, .int .i64 0, .int .i64 0, .int .i64 0]) (by kernel_rfl) rfl⟩
instance : Parts Try.prog 42 [(0, 1), (1, 1), (2, 1), (3, 1), (4, 1)] := ⟨.inl ⟨_, Try.underlying42, by kernel_rfl, by kernel_rfl⟩⟩
instance : Aggr Try.prog 42 5 := ⟨⟨_, Try.underlying42, rfl⟩, by kernel_rfl⟩
instance : Fld Try.prog 42 0 0 := ⟨fld_of (by kernel_rfl)⟩
instance : Fld Try.prog 42 1 1 := ⟨fld_of (by kernel_rfl)⟩
instance : Fld Try.prog 42 2 2 := ⟨fld_of (by kernel_rfl)⟩
instance : Fld Try.prog 42 3 3 := ⟨fld_of (by kernel_rfl)⟩
instance : Fld Try.prog 42 4 4 := ⟨fld_of (by kernel_rfl)⟩
instance : Sz Try.prog 43 (.nilFunc) 1 8 := ⟨by kernel_rfl⟩
instance : ZeroC Try.prog 43 [.nilFunc] := ⟨zeroC_of (z := .nilFunc) (by kernel_rfl) rfl⟩
instance : Scalar Try.prog 43 := ⟨_, Try.underlying43, rfl⟩
instance : Sz Try.prog 44 (.nilFunc) 1 8 := ⟨by kernel_rfl⟩
instance : ZeroC Try.prog 44 [.nilFunc] := ⟨zeroC_of (z := .nilFunc) (by kernel_rfl) rfl⟩
instance : Scalar Try.prog 44 := ⟨_, Try.underlying44, rfl⟩
instance : Sz Try.prog 45 (.slice none 0 0) 1 24 := ⟨by kernel_rfl⟩
instance : ZeroC Try.prog 45 [.slice none 0 0] := ⟨zeroC_of (z := .slice none 0 0) (by kernel_rfl) rfl⟩
instance : Scalar Try.prog 45 := ⟨_, Try.underlying45, rfl⟩
instance : SliceT Try.prog 45 5 := ⟨Try.underlying45⟩
instance : Sz Try.prog 46 (.nilFunc) 1 8 := ⟨by kernel_rfl⟩
instance : ZeroC Try.prog 46 [.nilFunc] := ⟨zeroC_of (z := .nilFunc) (by kernel_rfl) rfl⟩
instance : Scalar Try.prog 46 := ⟨_, Try.underlying46, rfl⟩
instance : Sz Try.prog 47 (.nilFunc) 1 8 := ⟨by kernel_rfl⟩
instance : ZeroC Try.prog 47 [.nilFunc] := ⟨zeroC_of (z := .nilFunc) (by kernel_rfl) rfl⟩
instance : Scalar Try.prog 47 := ⟨_, Try.underlying47, rfl⟩
instance : Sz Try.prog 48 (.nilFunc) 1 8 := ⟨by kernel_rfl⟩
instance : ZeroC Try.prog 48 [.nilFunc] := ⟨zeroC_of (z := .nilFunc) (by kernel_rfl) rfl⟩
instance : Scalar Try.prog 48 := ⟨_, Try.underlying48, rfl⟩
instance : Sz Try.prog 49 (.agg #[.int .i64 0, .int .i64 0, .int .i64 0]) 3 24 := ⟨by kernel_rfl⟩
instance : ZeroC Try.prog 49 [.int .i64 0, .int .i64 0, .int .i64 0] := ⟨zeroC_of (z := .agg #[.int .i64 0, .int .i64 0, .int .i64 0]) (by kernel_rfl) rfl⟩
instance : Parts Try.prog 49 [(0, 1), (1, 1), (2, 1)] := ⟨.inl ⟨_, Try.underlying49, by kernel_rfl, by kernel_rfl⟩⟩
instance : Aggr Try.prog 49 3 := ⟨⟨_, Try.underlying49, rfl⟩, by kernel_rfl⟩
instance : Fld Try.prog 49 0 0 := ⟨fld_of (by kernel_rfl)⟩
instance : Fld Try.prog 49 1 1 := ⟨fld_of (by kernel_rfl)⟩
instance : Fld Try.prog 49 2 2 := ⟨fld_of (by kernel_rfl)⟩
instance : Sz Try.prog 50 (.agg #[.int .i64 0, .int .i64 0, .int .i64 0]) 3 24 := ⟨by kernel_rfl⟩
instance : ZeroC Try.prog 50 [.int .i64 0, .int .i64 0, .int .i64 0] := ⟨zeroC_of (z := .agg #[.int .i64 0, .int .i64 0, .int .i64 0]) (by kernel_rfl) rfl⟩
instance : Parts Try.prog 50 [(0, 1), (1, 1), (2, 1)] := ⟨.inl ⟨_, Try.underlying50, by kernel_rfl, by kernel_rfl⟩⟩
instance : Aggr Try.prog 50 3 := ⟨⟨_, Try.underlying50, rfl⟩, by kernel_rfl⟩
instance : Fld Try.prog 50 0 0 := ⟨fld_of (by kernel_rfl)⟩
instance : Fld Try.prog 50 1 1 := ⟨fld_of (by kernel_rfl)⟩
instance : Fld Try.prog 50 2 2 := ⟨fld_of (by kernel_rfl)⟩
instance : Sz Try.prog 51 (.agg #[.int .i64 0, .int .i64 0, .int .i64 0, .int .i64 0, .int .i64 0, .int .i64 0, .int .i64 0, .int .i64 0, .int .i64 0]) 9 72 := ⟨by kernel_rfl⟩
instance : ZeroC Try.prog 51 [.int .i64 0, .int .i64 0, .int .i64 0, .int .i64 0, .int .i64 0, .int .i64 0, .int .i64 0, .int .i64 0, .int .i64 0] := ⟨zeroC_of (z := .agg #[.int .i64 0, .int .i64 0, .int .i64 0, .int .i64 0, .int .i64 0, .int .i64 0, .int .i64 0, .int .i64 0, .int .i64 0]) (by kernel_rfl) rfl⟩
instance : Parts Try.prog 51 [(0, 3), (3, 3), (6, 3)] := ⟨.inr ⟨_, _, Try.underlying51, by kernel_rfl, by kernel_rfl⟩⟩
instance : Aggr Try.prog 51 9 := ⟨⟨_, Try.underlying51, rfl⟩, by kernel_rfl⟩
instance : ArrT Try.prog 51 3 50 := ⟨Try.underlying51⟩
instance : Sz Try.prog 52 (.agg #[.int .i64 0, .int .i64 0, .int .i64 0, .int .i64 0, .int .i64 0, .int .i64 0, .int .i64 0, .int .i64 0, .int .i64 0]) 9 72 := ⟨by kernel_rfl⟩
instance : ZeroC Try.prog 52 [.int .i64 0, .int .i64 0, .int .i64 0, .int .i64 0, .int .i64 0, .int .i64 0, .int .i64 0, .int .i64 0, .int .i64 0] := ⟨zeroC_of (z := .agg #[.int .i64 0, .int .i64 0, .int .i64 0, .int .i64 0, .int .i64 0, .int .i64 0, .int .i64 0, .int .i64 0, .int .i64 0]) (by kernel_rfl) rfl⟩
instance : Parts Try.prog 52 [(0, 9)] := ⟨.inl ⟨_, Try.underlying52, by kernel_rfl, by kernel_rfl⟩⟩
instance : Aggr Try.prog 52 9 := ⟨⟨_, Try.underlying52, rfl⟩, by kernel_rfl⟩
instance : Fld Try.prog 52 0 0 := ⟨fld_of (by kernel_rfl)⟩
instance : Sz Try.prog 53 (.agg #[.int .i64 0, .int .i64 0, .int .i64 0, .int .i64 0, .int .i64 0, .int .i64 0, .int .i64 0, .int .i64 0, .int .i64 0]) 9 72 := ⟨by kernel_rfl⟩
instance : ZeroC Try.prog 53 [.int .i64 0, .int .i64 0, .int .i64 0, .int .i64 0, .int .i64 0, .int .i64 0, .int .i64 0, .int .i64 0, .int .i64 0] := ⟨zeroC_of (z := .agg #[.int .i64 0, .int .i64 0, .int .i64 0, .int .i64 0, .int .i64 0, .int .i64 0, .int .i64 0, .int .i64 0, .int .i64 0]) (by kernel_rfl) rfl⟩
instance : Parts Try.prog 53 [(0, 9)] := ⟨.inl ⟨_, Try.underlying53, by kernel_rfl, by kernel_rfl⟩⟩
instance : Aggr Try.prog 53 9 := ⟨⟨_, Try.underlying53, rfl⟩, by kernel_rfl⟩
instance : Fld Try.prog 53 0 0 := ⟨fld_of (by kernel_rfl)⟩
instance : Sz Try.prog 54 (.nilFunc) 1 8 := ⟨by kernel_rfl⟩
instance : ZeroC Try.prog 54 [.nilFunc] := ⟨zeroC_of (z := .nilFunc) (by kernel_rfl) rfl⟩
instance : Scalar Try.prog 54 := ⟨_, Try.underlying54, rfl⟩
instance : Sz Try.prog 55 (.agg #[.int .i64 0, .int .i64 0, .int .i64 0]) 3 24 := ⟨by kernel_rfl⟩
instance : ZeroC Try.prog 55 [.int .i64 0, .int .i64 0, .int .i64 0] := ⟨zeroC_of (z := .agg #[.int .i64 0, .int .i64 0, .int .i64 0]) (by kernel_rfl) rfl⟩
instance : Parts Try.prog 55 [(0, 1), (1, 1), (2, 1)] := ⟨.inl ⟨_, Try.underlying55, by kernel_rfl, by kernel_rfl⟩⟩
instance : Aggr Try.prog 55 3 := ⟨⟨_, Try.underlying55, rfl⟩, by kernel_rfl⟩
instance : Fld Try.prog 55 0 0 := ⟨fld_of (by kernel_rfl)⟩
instance : Fld Try.prog 55 1 1 := ⟨fld_of (by kernel_rfl)⟩
instance : Fld Try.prog 55 2 2 := ⟨fld_of (by kernel_rfl)⟩
instance : Sz Try.prog 56 (.agg #[.int .i64 0, .int .i64 0, .int .i64 0, .int .i64 0, .int .i64 0, .int .i64 0, .int .i64 0, .int .i64 0, .int .i64 0]) 9 72 := ⟨by kernel_rfl⟩
instance : ZeroC Try.prog 56 [.int .i64 0, .int .i64 0, .int .i64 0, .int .i64 0, .int .i64 0, .int .i64 0, .int .i64 0, .int .i64 0, .int .i64 0] := ⟨zeroC_of (z := .agg #[.int .i64 0, .int .i64 0, .int .i64 0, .int .i64 0, .int .i64 0, .int .i64 0, .int .i64 0, .int .i64 0, .int .i64 0]) (by kernel_rfl) rfl⟩
instance : Parts Try.prog 56 [(0, 3), (3, 3), (6, 3)] := ⟨.inr ⟨_, _, Try.underlying56, by kernel_rfl, by kernel_rfl⟩⟩
instance : Aggr Try.prog 56 9 := ⟨⟨_, Try.underlying56, rfl⟩, by kernel_rfl⟩
instance : ArrT Try.prog 56 3 55 := ⟨Try.underlying56⟩
instance : Sz Try.prog 57 (.agg #[.int .i64 0, .int .i64 0, .int .i64 0, .int .i64 0, .int .i64 0, .int .i64 0, .int .i64 0, .int .i64 0, .int .i64 0]) 9 72 := ⟨by kernel_rfl⟩
instance : ZeroC Try.prog 57 [.int .i64 0, .int .i64 0, .int .i64 0, .int .i64 0, .int .i64 0, .int .i64 0, .int .i64 0, .int .i64 0, .int .i64 0] := ⟨zeroC_of (z := .agg #[.int .i64 0, .int .i64 0, .int .i64 0, .int .i64 0, .int .i64 0, .int .i64 0, .int .i64 0, .int .i64 0, .int .i64 0]) (by kernel_rfl) rfl⟩
instance : Parts Try.prog 57 [(0, 9)] := ⟨.inl ⟨_, Try.underlying57, by kernel_rfl, by kernel_rfl⟩⟩
instance : Aggr Try.prog 57 9 := ⟨⟨_, Try.underlying57, rfl⟩, by kernel_rfl⟩
instance : Fld Try.prog 57 0 0 := ⟨fld_of (by kernel_rfl)⟩
instance : Sz Try.prog 58 (.agg #[.int .i64 0, .int .i64 0, .int .i64 0, .int .i64 0, .int .i64 0, .int .i64 0, .int .i64 0, .int .i64 0, .int .i64 0]) 9 72 := ⟨by kernel_rfl⟩
instance : ZeroC Try.prog 58 [.int .i64 0, .int .i64 0, .int .i64 0, .int .i64 0, .int .i64 0, .int .i64 0, .int .i64 0, .int .i64 0, .int .i64 0] := ⟨zeroC_of (z := .agg #[.int .i64 0, .int .i64 0, .int .i64 0, .int .i64 0, .int .i64 0, .int .i64 0, .int .i64 0, .int .i64 0, .int .i64 0]) (by kernel_rfl) rfl⟩
instance : Parts Try.prog 58 [(0, 9)] := ⟨.inl ⟨_, Try.underlying58, by kernel_rfl, by kernel_rfl⟩⟩
instance : Aggr Try.prog 58 9 := ⟨⟨_, Try.underlying58, rfl⟩, by kernel_rfl⟩
instance : Fld Try.prog 58 0 0 := ⟨fld_of (by kernel_rfl)⟩
instance : Sz Try.prog 59 (.nilFunc) 1 8 := ⟨by kernel_rfl⟩
instance : ZeroC Try.prog 59 [.nilFunc] := ⟨zeroC_of (z := .nilFunc) (by kernel_rfl) rfl⟩
instance : Scalar Try.prog 59 := ⟨_, Try.underlying59, rfl⟩
instance : Sz Try.prog 60 (.nilFunc) 1 8 := ⟨by kernel_rfl⟩
instance : ZeroC Try.prog 60 [.nilFunc] := ⟨zeroC_of (z := .nilFunc) (by kernel_rfl) rfl⟩
instance : Scalar Try.prog 60 := ⟨_, Try.underlying60, rfl⟩
instance : Sz Try.prog 61 (.nilFunc) 1 8 := ⟨by kernel_rfl⟩
instance : ZeroC Try.prog 61 [.nilFunc] := ⟨zeroC_of (z := .nilFunc) (by kernel_rfl) rfl⟩
instance : Scalar Try.prog 61 := ⟨_, Try.underlying61, rfl⟩
instance : Sz Try.prog 62 (.nilFunc) 1 8 := ⟨by kernel_rfl⟩
instance : ZeroC Try.prog 62 [.nilFunc] := ⟨zeroC_of (z := .nilFunc) (by kernel_rfl) rfl⟩
instance : Scalar Try.prog 62 := ⟨_, Try.underlying62, rfl⟩
instance : Sz Try.prog 63 (.nilFunc) 1 8 := ⟨by kernel_rfl⟩
instance : ZeroC Try.prog 63 [.nilFunc] := ⟨zeroC_of (z := .nilFunc) (by kernel_rfl) rfl⟩
instance : Scalar Try.prog 63 := ⟨_, Try.underlying63, rfl⟩
instance : Sz Try.prog 64 (.nilFunc) 1 8 := ⟨by kernel_rfl⟩
instance : ZeroC Try.prog 64 [.nilFunc] := ⟨zeroC_of (z := .nilFunc) (by kernel_rfl) rfl⟩
instance : Scalar Try.prog 64 := ⟨_, Try.underlying64, rfl⟩
instance : Sz Try.prog 65 (.nilFunc) 1 8 := ⟨by kernel_rfl⟩
instance : ZeroC Try.prog 65 [.nilFunc] := ⟨zeroC_of (z := .nilFunc) (by kernel_rfl) rfl⟩
instance : Scalar Try.prog 65 := ⟨_, Try.underlying65, rfl⟩
instance : Sz Try.prog 66 (.nilFunc) 1 8 := ⟨by kernel_rfl⟩
instance : ZeroC Try.prog 66 [.nilFunc] := ⟨zeroC_of (z := .nilFunc) (by kernel_rfl) rfl⟩
instance : Scalar Try.prog 66 := ⟨_, Try.underlying66, rfl⟩
instance : Sz Try.prog 67 (.pointer none) 1 8 := ⟨by kernel_rfl⟩
instance : ZeroC Try.prog 67 [.pointer none] := ⟨zeroC_of (z := .pointer none) (by kernel_rfl) rfl⟩
instance : Scalar Try.prog 67 := ⟨_, Try.underlying67, rfl⟩
instance : Sz Try.prog 68 (.nilFunc) 1 8 := ⟨by kernel_rfl⟩
instance : ZeroC Try.prog 68 [.nilFunc] := ⟨zeroC_of (z := .nilFunc) (by kernel_rfl) rfl⟩
instance : Scalar Try.prog 68 := ⟨_, Try.underlying68, rfl⟩
instance : Sz Try.prog 69 (.nilFunc) 1 8 := ⟨by kernel_rfl⟩
instance : ZeroC Try.prog 69 [.nilFunc] := ⟨zeroC_of (z := .nilFunc) (by kernel_rfl) rfl⟩
instance : Scalar Try.prog 69 := ⟨_, Try.underlying69, rfl⟩
instance : Sz Try.prog 70 (.nilFunc) 1 8 := ⟨by kernel_rfl⟩
instance : ZeroC Try.prog 70 [.nilFunc] := ⟨zeroC_of (z := .nilFunc) (by kernel_rfl) rfl⟩
instance : Scalar Try.prog 70 := ⟨_, Try.underlying70, rfl⟩
instance : Sz Try.prog 71 (.nilFunc) 1 8 := ⟨by kernel_rfl⟩
instance : ZeroC Try.prog 71 [.nilFunc] := ⟨zeroC_of (z := .nilFunc) (by kernel_rfl) rfl⟩
instance : Scalar Try.prog 71 := ⟨_, Try.underlying71, rfl⟩
instance : Sz Try.prog 72 (.nilFunc) 1 8 := ⟨by kernel_rfl⟩
instance : ZeroC Try.prog 72 [.nilFunc] := ⟨zeroC_of (z := .nilFunc) (by kernel_rfl) rfl⟩
instance : Scalar Try.prog 72 := ⟨_, Try.underlying72, rfl⟩
instance : Sz Try.prog 73 (.nilFunc) 1 8 := ⟨by kernel_rfl⟩
instance : ZeroC Try.prog 73 [.nilFunc] := ⟨zeroC_of (z := .nilFunc) (by kernel_rfl) rfl⟩
instance : Scalar Try.prog 73 := ⟨_, Try.underlying73, rfl⟩
instance : Sz Try.prog 74 (.nilFunc) 1 8 := ⟨by kernel_rfl⟩
instance : ZeroC Try.prog 74 [.nilFunc] := ⟨zeroC_of (z := .nilFunc) (by kernel_rfl) rfl⟩
instance : Scalar Try.prog 74 := ⟨_, Try.underlying74, rfl⟩
instance : Sz Try.prog 75 (.nilFunc) 1 8 := ⟨by kernel_rfl⟩
instance : ZeroC Try.prog 75 [.nilFunc] := ⟨zeroC_of (z := .nilFunc) (by kernel_rfl) rfl⟩
instance : Scalar Try.prog 75 := ⟨_, Try.underlying75, rfl⟩
instance : Sz Try.prog 76 (.nilFunc) 1 8 := ⟨by kernel_rfl⟩
instance : ZeroC Try.prog 76 [.nilFunc] := ⟨zeroC_of (z := .nilFunc) (by kernel_rfl) rfl⟩
instance : Scalar Try.prog 76 := ⟨_, Try.underlying76, rfl⟩
instance : Sz Try.prog 77 (.nilFunc) 1 8 := ⟨by kernel_rfl⟩
instance : ZeroC Try.prog 77 [.nilFunc] := ⟨zeroC_of (z := .nilFunc) (by kernel_rfl) rfl⟩
instance : Scalar Try.prog 77 := ⟨_, Try.underlying77, rfl⟩
instance : Sz Try.prog 78 (.nilFunc) 1 8 := ⟨by kernel_rfl⟩
instance : ZeroC Try.prog 78 [.nilFunc] := ⟨zeroC_of (z := .nilFunc) (by kernel_rfl) rfl⟩
instance : Scalar Try.prog 78 := ⟨_, Try.underlying78, rfl⟩
instance : Sz Try.prog 79 (.agg #[.slice none 0 0, .int .i64 0, .int .i64 0]) 3 40 := ⟨by kernel_rfl⟩
instance : ZeroC Try.prog 79 [.slice none 0 0, .int .i64 0, .int .i64 0] := ⟨zeroC_of (z := .agg #[.slice none 0 0, .int .i64 0, .int .i64 0]) (by kernel_rfl) rfl⟩
instance : Parts Try.prog 79 [(0, 1), (1, 1), (2, 1)] := ⟨.inl ⟨_, Try.underlying79, by kernel_rfl, by kernel_rfl⟩⟩
instance : Aggr Try.prog 79 3 := ⟨⟨_, Try.underlying79, rfl⟩, by kernel_rfl⟩
instance : Fld Try.prog 79 0 0 := ⟨fld_of (by kernel_rfl)⟩
instance : Fld Try.prog 79 1 1 := ⟨fld_of (by kernel_rfl)⟩
instance : Fld Try.prog 79 2 2 := ⟨fld_of (by kernel_rfl)⟩
instance : Sz Try.prog 80 (.agg #[.slice none 0 0, .int .i64 0, .int .i64 0]) 3 40 := ⟨by kernel_rfl⟩
instance : ZeroC Try.prog 80 [.slice none 0 0, .int .i64 0, .int .i64 0] := ⟨zeroC_of (z := .agg #[.slice none 0 0, .int .i64 0, .int .i64 0]) (by kernel_rfl) rfl⟩
instance : Parts Try.prog 80 [(0, 1), (1, 1), (2, 1)] := ⟨.inl ⟨_, Try.underlying80, by kernel_rfl, by kernel_rfl⟩⟩
instance : Aggr Try.prog 80 3 := ⟨⟨_, Try.underlying80, rfl⟩, by kernel_rfl⟩
instance : Fld Try.prog 80 0 0 := ⟨fld_of (by kernel_rfl)⟩
instance : Fld Try.prog 80 1 1 := ⟨fld_of (by kernel_rfl)⟩
instance : Fld Try.prog 80 2 2 := ⟨fld_of (by kernel_rfl)⟩
instance : Sz Try.prog 81 (.int .u64 0) 1 8 := ⟨by kernel_rfl⟩
instance : ZeroC Try.prog 81 [.int .u64 0] := ⟨zeroC_of (z := .int .u64 0) (by kernel_rfl) rfl⟩
instance : Scalar Try.prog 81 := ⟨_, Try.underlying81, rfl⟩
instance : Sz Try.prog 82 (.nilFunc) 1 8 := ⟨by kernel_rfl⟩
instance : ZeroC Try.prog 82 [.nilFunc] := ⟨zeroC_of (z := .nilFunc) (by kernel_rfl) rfl⟩
instance : Scalar Try.prog 82 := ⟨_, Try.underlying82, rfl⟩
instance : Sz Try.prog 83 (.nilFunc) 1 8 := ⟨by kernel_rfl⟩
instance : ZeroC Try.prog 83 [.nilFunc] := ⟨zeroC_of (z := .nilFunc) (by kernel_rfl) rfl⟩
instance : Scalar Try.prog 83 := ⟨_, Try.underlying83, rfl⟩
instance : Sz Try.prog 84 (.nilFunc) 1 8 := ⟨by kernel_rfl⟩
instance : ZeroC Try.prog 84 [.nilFunc] := ⟨zeroC_of (z := .nilFunc) (by kernel_rfl) rfl⟩
instance : Scalar Try.prog 84 := ⟨_, Try.underlying84, rfl⟩
instance : Sz Try.prog 85 (.nilFunc) 1 8 := ⟨by kernel_rfl⟩
instance : ZeroC Try.prog 85 [.nilFunc] := ⟨zeroC_of (z := .nilFunc) (by kernel_rfl) rfl⟩
instance : Scalar Try.prog 85 := ⟨_, Try.underlying85, rfl⟩
instance : Sz Try.prog 86 (.nilFunc) 1 8 := ⟨by kernel_rfl⟩
instance : ZeroC Try.prog 86 [.nilFunc] := ⟨zeroC_of (z := .nilFunc) (by kernel_rfl) rfl⟩
instance : Scalar Try.prog 86 := ⟨_, Try.underlying86, rfl⟩
instance : Sz Try.prog 87 (.nilFunc) 1 8 := ⟨by kernel_rfl⟩
instance : ZeroC Try.prog 87 [.nilFunc] := ⟨zeroC_of (z := .nilFunc) (by kernel_rfl) rfl⟩
instance : Scalar Try.prog 87 := ⟨_, Try.underlying87, rfl⟩
instance : Sz Try.prog 88 (.nilFunc) 1 8 := ⟨by kernel_rfl⟩
instance : ZeroC Try.prog 88 [.nilFunc] := ⟨zeroC_of (z := .nilFunc) (by kernel_rfl) rfl⟩
instance : Scalar Try.prog 88 := ⟨_, Try.underlying88, rfl⟩
instance : Sz Try.prog 89 (.agg #[.pointer none, .pointer none, .pointer none, .string ⟨#[]⟩]) 4 40 := ⟨by kernel_rfl⟩
instance : ZeroC Try.prog 89 [.pointer none, .pointer none, .pointer none, .string ⟨#[]⟩] := ⟨zeroC_of (z := .agg #[.pointer none, .pointer none, .pointer none, .string ⟨#[]⟩]) (by kernel_rfl) rfl⟩
instance : Parts Try.prog 89 [(0, 1), (1, 1), (2, 1), (3, 1)] := ⟨.inl ⟨_, Try.underlying89, by kernel_rfl, by kernel_rfl⟩⟩
instance : Aggr Try.prog 89 4 := ⟨⟨_, Try.underlying89, rfl⟩, by kernel_rfl⟩
instance : Fld Try.prog 89 0 0 := ⟨fld_of (by kernel_rfl)⟩
instance : Fld Try.prog 89 1 1 := ⟨fld_of (by kernel_rfl)⟩
instance : Fld Try.prog 89 2 2 := ⟨fld_of (by kernel_rfl)⟩
instance : Fld Try.prog 89 3 3 := ⟨fld_of (by kernel_rfl)⟩
instance : Sz Try.prog 90 (.agg #[.pointer none, .pointer none, .pointer none, .string ⟨#[]⟩]) 4 40 := ⟨by kernel_rfl⟩
instance : ZeroC Try.prog 90 [.pointer none, .pointer none, .pointer none, .string ⟨#[]⟩] := ⟨zeroC_of (z := .agg #[.pointer none, .pointer none, .pointer none, .string ⟨#[]⟩]) (by kernel_rfl) rfl⟩
instance : Parts Try.prog 90 [(0, 1), (1, 1), (2, 1), (3, 1)] := ⟨.inl ⟨_, Try.underlying90, by kernel_rfl, by kernel_rfl⟩⟩
instance : Aggr Try.prog 90 4 := ⟨⟨_, Try.underlying90, rfl⟩, by kernel_rfl⟩
instance : Fld Try.prog 90 0 0 := ⟨fld_of (by kernel_rfl)⟩
instance : Fld Try.prog 90 1 1 := ⟨fld_of (by kernel_rfl)⟩
instance : Fld Try.prog 90 2 2 := ⟨fld_of (by kernel_rfl)⟩
instance : Fld Try.prog 90 3 3 := ⟨fld_of (by kernel_rfl)⟩
instance : Sz Try.prog 91 (.agg #[]) 0 0 := ⟨by kernel_rfl⟩
instance : ZeroC Try.prog 91 [] := ⟨zeroC_of (z := .agg #[]) (by kernel_rfl) rfl⟩
instance : Parts Try.prog 91 [] := ⟨.inr ⟨_, _, Try.underlying91, by kernel_rfl, by kernel_rfl⟩⟩
instance : Aggr Try.prog 91 0 := ⟨⟨_, Try.underlying91, rfl⟩, by kernel_rfl⟩
instance : ArrT Try.prog 91 0 16 := ⟨Try.underlying91⟩
instance : Sz Try.prog 92 (.agg #[]) 0 0 := ⟨by kernel_rfl⟩
instance : ZeroC Try.prog 92 [] := ⟨zeroC_of (z := .agg #[]) (by kernel_rfl) rfl⟩
instance : Parts Try.prog 92 [(0, 0)] := ⟨.inl ⟨_, Try.underlying92, by kernel_rfl, by kernel_rfl⟩⟩
instance : Aggr Try.prog 92 0 := ⟨⟨_, Try.underlying92, rfl⟩, by kernel_rfl⟩
instance : Sz Try.prog 93 (.agg #[]) 0 0 := ⟨by kernel_rfl⟩
instance : ZeroC Try.prog 93 [] := ⟨zeroC_of (z := .agg #[]) (by kernel_rfl) rfl⟩
instance : Parts Try.prog 93 [(0, 0)] := ⟨.inl ⟨_, Try.underlying93, by kernel_rfl, by kernel_rfl⟩⟩
instance : Aggr Try.prog 93 0 := ⟨⟨_, Try.underlying93, rfl⟩, by kernel_rfl⟩
instance : Sz Try.prog 94 (.int .u32 0) 1 4 := ⟨by kernel_rfl⟩
instance : ZeroC Try.prog 94 [.int .u32 0] := ⟨zeroC_of (z := .int .u32 0) (by kernel_rfl) rfl⟩
instance : Scalar Try.prog 94 := ⟨_, Try.underlying94, rfl⟩
instance : Sz Try.prog 95 (.int .u8 0) 1 1 := ⟨by kernel_rfl⟩
instance : ZeroC Try.prog 95 [.int .u8 0] := ⟨zeroC_of (z := .int .u8 0) (by kernel_rfl) rfl⟩
instance : Scalar Try.prog 95 := ⟨_, Try.underlying95, rfl⟩
instance : Sz Try.prog 96 (.int .u8 0) 1 1 := ⟨by kernel_rfl⟩
instance : ZeroC Try.prog 96 [.int .u8 0] := ⟨zeroC_of (z := .int .u8 0) (by kernel_rfl) rfl⟩
instance : Scalar Try.prog 96 := ⟨_, Try.underlying96, rfl⟩
instance : Sz Try.prog 97 (.nilFunc) 1 8 := ⟨by kernel_rfl⟩
instance : ZeroC Try.prog 97 [.nilFunc] := ⟨zeroC_of (z := .nilFunc) (by kernel_rfl) rfl⟩
instance : Scalar Try.prog 97 := ⟨_, Try.underlying97, rfl⟩
instance : Sz Try.prog 98 (.pointer none) 1 8 := ⟨by kernel_rfl⟩
instance : ZeroC Try.prog 98 [.pointer none] := ⟨zeroC_of (z := .pointer none) (by kernel_rfl) rfl⟩
instance : Scalar Try.prog 98 := ⟨_, Try.underlying98, rfl⟩
instance : Sz Try.prog 99 (.int .i32 0) 1 4 := ⟨by kernel_rfl⟩
instance : ZeroC Try.prog 99 [.int .i32 0] := ⟨zeroC_of (z := .int .i32 0) (by kernel_rfl) rfl⟩
instance : Scalar Try.prog 99 := ⟨_, Try.underlying99, rfl⟩
instance : Sz Try.prog 100 (.int .i32 0) 1 4 := ⟨by kernel_rfl⟩
instance : ZeroC Try.prog 100 [.int .i32 0] := ⟨zeroC_of (z := .int .i32 0) (by kernel_rfl) rfl⟩
instance : Scalar Try.prog 100 := ⟨_, Try.underlying100, rfl⟩
instance : Sz Try.prog 101 (.agg #[.int .u64 0, .int .u64 0, .int .u32 0, .int .u8 0, .int .u8 0, .int .u8 0, .int .u8 0, .nilFunc, .pointer none, .int .i32 0, .int .i32 0]) 11 48 := ⟨by kernel_rfl⟩
instance : ZeroC Try.prog 101 [.int .u64 0, .int .u64 0, .int .u32 0, .int .u8 0, .int .u8 0, .int .u8 0, .int .u8 0, .nilFunc, .pointer none, .int .i32 0, .int .i32 0] := ⟨zeroC_of (z := .agg #[.int .u64 0, .int .u64 0, .int .u32 0, .int .u8 0, .int .u8 0, .int .u8 0, .int .u8 0, .nilFunc, .pointer none, .int .i32 0, .int .i32 0]) (by kernel_rfl) rfl⟩
instance : Parts Try.prog 101 [(0, 1), (1, 1), (2, 1), (3, 1), (4, 1), (5, 1), (6, 1), (7, 1), (8, 1), (9, 1), (10, 1)] := ⟨.inl ⟨_, Try.underlying101, by kernel_rfl, by kernel_rfl⟩⟩
instance : Aggr Try.prog 101 11 := ⟨⟨_, Try.underlying101, rfl⟩, by kernel_rfl⟩
instance : Fld Try.prog 101 0 0 := ⟨fld_of (by kernel_rfl)⟩
instance : Fld Try.prog 101 1 1 := ⟨fld_of (by kernel_rfl)⟩
instance : Fld Try.prog 101 2 2 := ⟨fld_of (by kernel_rfl)⟩
instance : Fld Try.prog 101 3 3 := ⟨fld_of (by kernel_rfl)⟩
instance : Fld Try.prog 101 4 4 := ⟨fld_of (by kernel_rfl)⟩
instance : Fld Try.prog 101 5 5 := ⟨fld_of (by kernel_rfl)⟩
instance : Fld Try.prog 101 6 6 := ⟨fld_of (by kernel_rfl)⟩
instance : Fld Try.prog 101 7 7 := ⟨fld_of (by kernel_rfl)⟩
instance : Fld Try.prog 101 8 8 := ⟨fld_of (by kernel_rfl)⟩
instance : Fld Try.prog 101 9 9 := ⟨fld_of (by kernel_rfl)⟩
instance : Fld Try.prog 101 10 10 := ⟨fld_of (by kernel_rfl)⟩
instance : Sz Try.prog 102 (.agg #[.int .u64 0, .int .u64 0, .int .u32 0, .int .u8 0, .int .u8 0, .int .u8 0, .int .u8 0, .nilFunc, .pointer none, .int .i32 0, .int .i32 0]) 11 48 := ⟨by kernel_rfl⟩
instance : ZeroC Try.prog 102 [.int .u64 0, .int .u64 0, .int .u32 0, .int .u8 0, .int .u8 0, .int .u8 0, .int .u8 0, .nilFunc, .pointer none, .int .i32 0, .int .i32 0] := ⟨zeroC_of (z := .agg #[.int .u64 0, .int .u64 0, .int .u32 0, .int .u8 0, .int .u8 0, .int .u8 0, .int .u8 0, .nilFunc, .pointer none, .int .i32 0, .int .i32 0]) (by kernel_rfl) rfl⟩
instance : Parts Try.prog 102 [(0, 1), (1, 1), (2, 1), (3, 1), (4, 1), (5, 1), (6, 1), (7, 1), (8, 1), (9, 1), (10, 1)] := ⟨.inl ⟨_, Try.underlying102, by kernel_rfl, by kernel_rfl⟩⟩
instance : Aggr Try.prog 102 11 := ⟨⟨_, Try.underlying102, rfl⟩, by kernel_rfl⟩
instance : Fld Try.prog 102 0 0 := ⟨fld_of (by kernel_rfl)⟩
instance : Fld Try.prog 102 1 1 := ⟨fld_of (by kernel_rfl)⟩
instance : Fld Try.prog 102 2 2 := ⟨fld_of (by kernel_rfl)⟩
instance : Fld Try.prog 102 3 3 := ⟨fld_of (by kernel_rfl)⟩
instance : Fld Try.prog 102 4 4 := ⟨fld_of (by kernel_rfl)⟩
instance : Fld Try.prog 102 5 5 := ⟨fld_of (by kernel_rfl)⟩
instance : Fld Try.prog 102 6 6 := ⟨fld_of (by kernel_rfl)⟩
instance : Fld Try.prog 102 7 7 := ⟨fld_of (by kernel_rfl)⟩
instance : Fld Try.prog 102 8 8 := ⟨fld_of (by kernel_rfl)⟩
instance : Fld Try.prog 102 9 9 := ⟨fld_of (by kernel_rfl)⟩
instance : Fld Try.prog 102 10 10 := ⟨fld_of (by kernel_rfl)⟩
instance : Sz Try.prog 103 (.pointer none) 1 8 := ⟨by kernel_rfl⟩
instance : ZeroC Try.prog 103 [.pointer none] := ⟨zeroC_of (z := .pointer none) (by kernel_rfl) rfl⟩
instance : Scalar Try.prog 103 := ⟨_, Try.underlying103, rfl⟩
end Go.Proofs.Ytffjfkolhpcldaa.St
