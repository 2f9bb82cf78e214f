/-
  A call of each function of the program that has a body enters it.
-/
import Derived.Test.YtaiiiendfcglmaaStDraw
import Derived.Test.YtaiiiendfcglmaaRows
set_option linter.unusedSimpArgs false
set_option linter.unusedVariables false
namespace Go.Proofs.Ytaiiiendfcglmaa.St
theorem mixed : Try.prog.follows .mixedOrders = true := by kernel_rfl
theorem en3 : Enters Try.prog 3 := enters_of Try.func3 (by kernel_rfl) rfl
instance : En Try.prog 3 := ⟨en3⟩
theorem en4 : Enters Try.prog 4 := enters_of Try.func4 (by kernel_rfl) rfl
instance : En Try.prog 4 := ⟨en4⟩
theorem en5 : Enters Try.prog 5 := enters_of Try.func5 (by kernel_rfl) rfl
instance : En Try.prog 5 := ⟨en5⟩
theorem en6 : Enters Try.prog 6 := enters_of Try.func6 (by kernel_rfl) rfl
instance : En Try.prog 6 := ⟨en6⟩
theorem en7 : Enters Try.prog 7 := enters_of Try.func7 (by kernel_rfl) rfl
instance : En Try.prog 7 := ⟨en7⟩
theorem en8 : Enters Try.prog 8 := enters_of Try.func8 (by kernel_rfl) rfl
instance : En Try.prog 8 := ⟨en8⟩
theorem en9 : Enters Try.prog 9 := enters_of Try.func9 (by kernel_rfl) rfl
instance : En Try.prog 9 := ⟨en9⟩
theorem en10 : Enters Try.prog 10 := enters_of Try.func10 (by kernel_rfl) rfl
instance : En Try.prog 10 := ⟨en10⟩
theorem en11 : Enters Try.prog 11 := enters_of Try.func11 (by kernel_rfl) rfl
instance : En Try.prog 11 := ⟨en11⟩
theorem en12 : Enters Try.prog 12 := enters_of Try.func12 (by kernel_rfl) rfl
instance : En Try.prog 12 := ⟨en12⟩
theorem en13 : Enters Try.prog 13 := enters_of Try.func13 (by kernel_rfl) rfl
instance : En Try.prog 13 := ⟨en13⟩
theorem en14 : Enters Try.prog 14 := enters_of Try.func14 (by kernel_rfl) rfl
instance : En Try.prog 14 := ⟨en14⟩
theorem en15 : Enters Try.prog 15 := enters_of Try.func15 (by kernel_rfl) rfl
instance : En Try.prog 15 := ⟨en15⟩
theorem en16 : Enters Try.prog 16 := enters_of Try.func16 (by kernel_rfl) rfl
instance : En Try.prog 16 := ⟨en16⟩
theorem en17 : Enters Try.prog 17 := enters_of Try.func17 (by kernel_rfl) rfl
instance : En Try.prog 17 := ⟨en17⟩
theorem en18 : Enters Try.prog 18 := enters_of Try.func18 (by kernel_rfl) rfl
instance : En Try.prog 18 := ⟨en18⟩
theorem en19 : Enters Try.prog 19 := enters_of Try.func19 (by kernel_rfl) rfl
instance : En Try.prog 19 := ⟨en19⟩
theorem en20 : Enters Try.prog 20 := enters_of Try.func20 (by kernel_rfl) rfl
instance : En Try.prog 20 := ⟨en20⟩
theorem en21 : Enters Try.prog 21 := enters_of Try.func21 (by kernel_rfl) rfl
instance : En Try.prog 21 := ⟨en21⟩
theorem en22 : Enters Try.prog 22 := enters_of Try.func22 (by kernel_rfl) rfl
instance : En Try.prog 22 := ⟨en22⟩
theorem en23 : Enters Try.prog 23 := enters_of Try.func23 (by kernel_rfl) rfl
instance : En Try.prog 23 := ⟨en23⟩
theorem en24 : Enters Try.prog 24 := enters_of Try.func24 (by kernel_rfl) rfl
instance : En Try.prog 24 := ⟨en24⟩
theorem en25 : Enters Try.prog 25 := enters_of Try.func25 (by kernel_rfl) rfl
instance : En Try.prog 25 := ⟨en25⟩
theorem en26 : Enters Try.prog 26 := enters_of Try.func26 (by kernel_rfl) rfl
instance : En Try.prog 26 := ⟨en26⟩
theorem en27 : Enters Try.prog 27 := enters_of Try.func27 (by kernel_rfl) rfl
instance : En Try.prog 27 := ⟨en27⟩
theorem en28 : Enters Try.prog 28 := enters_of Try.func28 (by kernel_rfl) rfl
instance : En Try.prog 28 := ⟨en28⟩
theorem en29 : Enters Try.prog 29 := enters_of Try.func29 (by kernel_rfl) rfl
instance : En Try.prog 29 := ⟨en29⟩
theorem en30 : Enters Try.prog 30 := enters_of Try.func30 (by kernel_rfl) rfl
instance : En Try.prog 30 := ⟨en30⟩
theorem en31 : Enters Try.prog 31 := enters_of Try.func31 (by kernel_rfl) rfl
instance : En Try.prog 31 := ⟨en31⟩
theorem en32 : Enters Try.prog 32 := enters_of Try.func32 (by kernel_rfl) rfl
instance : En Try.prog 32 := ⟨en32⟩
theorem en33 : Enters Try.prog 33 := enters_of Try.func33 (by kernel_rfl) rfl
instance : En Try.prog 33 := ⟨en33⟩
theorem en34 : Enters Try.prog 34 := enters_of Try.func34 (by kernel_rfl) rfl
instance : En Try.prog 34 := ⟨en34⟩
theorem en35 : Enters Try.prog 35 := enters_of Try.func35 (by kernel_rfl) rfl
instance : En Try.prog 35 := ⟨en35⟩
theorem en36 : Enters Try.prog 36 := enters_of Try.func36 (by kernel_rfl) rfl
instance : En Try.prog 36 := ⟨en36⟩
theorem en37 : Enters Try.prog 37 := enters_of Try.func37 (by kernel_rfl) rfl
instance : En Try.prog 37 := ⟨en37⟩
theorem en38 : Enters Try.prog 38 := enters_of Try.func38 (by kernel_rfl) rfl
instance : En Try.prog 38 := ⟨en38⟩
theorem en39 : Enters Try.prog 39 := enters_of Try.func39 (by kernel_rfl) rfl
instance : En Try.prog 39 := ⟨en39⟩
theorem en40 : Enters Try.prog 40 := enters_of Try.func40 (by kernel_rfl) rfl
instance : En Try.prog 40 := ⟨en40⟩
theorem en41 : Enters Try.prog 41 := enters_of Try.func41 (by kernel_rfl) rfl
instance : En Try.prog 41 := ⟨en41⟩
theorem en42 : Enters Try.prog 42 := enters_of Try.func42 (by kernel_rfl) rfl
instance : En Try.prog 42 := ⟨en42⟩
theorem en43 : Enters Try.prog 43 := enters_of Try.func43 (by kernel_rfl) rfl
instance : En Try.prog 43 := ⟨en43⟩
theorem en44 : Enters Try.prog 44 := enters_of Try.func44 (by kernel_rfl) rfl
instance : En Try.prog 44 := ⟨en44⟩
theorem en45 : Enters Try.prog 45 := enters_of Try.func45 (by kernel_rfl) rfl
instance : En Try.prog 45 := ⟨en45⟩
theorem en46 : Enters Try.prog 46 := enters_of Try.func46 (by kernel_rfl) rfl
instance : En Try.prog 46 := ⟨en46⟩
theorem en47 : Enters Try.prog 47 := enters_of Try.func47 (by kernel_rfl) rfl
instance : En Try.prog 47 := ⟨en47⟩
theorem en48 : Enters Try.prog 48 := enters_of Try.func48 (by kernel_rfl) rfl
instance : En Try.prog 48 := ⟨en48⟩
theorem en49 : Enters Try.prog 49 := enters_of Try.func49 (by kernel_rfl) rfl
instance : En Try.prog 49 := ⟨en49⟩
theorem en50 : Enters Try.prog 50 := enters_of Try.func50 (by kernel_rfl) rfl
instance : En Try.prog 50 := ⟨en50⟩
theorem en51 : Enters Try.prog 51 := enters_of Try.func51 (by kernel_rfl) rfl
instance : En Try.prog 51 := ⟨en51⟩
theorem en52 : Enters Try.prog 52 := enters_of Try.func52 (by kernel_rfl) rfl
instance : En Try.prog 52 := ⟨en52⟩
theorem en53 : Enters Try.prog 53 := enters_of Try.func53 (by kernel_rfl) rfl
instance : En Try.prog 53 := ⟨en53⟩
theorem en54 : Enters Try.prog 54 := enters_of Try.func54 (by kernel_rfl) rfl
instance : En Try.prog 54 := ⟨en54⟩
theorem en55 : Enters Try.prog 55 := enters_of Try.func55 (by kernel_rfl) rfl
instance : En Try.prog 55 := ⟨en55⟩
theorem en56 : Enters Try.prog 56 := enters_of Try.func56 (by kernel_rfl) rfl
instance : En Try.prog 56 := ⟨en56⟩
theorem en57 : Enters Try.prog 57 := enters_of Try.func57 (by kernel_rfl) rfl
instance : En Try.prog 57 := ⟨en57⟩
theorem en58 : Enters Try.prog 58 := enters_of Try.func58 (by kernel_rfl) rfl
instance : En Try.prog 58 := ⟨en58⟩
theorem en59 : Enters Try.prog 59 := enters_of Try.func59 (by kernel_rfl) rfl
instance : En Try.prog 59 := ⟨en59⟩
theorem en60 : Enters Try.prog 60 := enters_of Try.func60 (by kernel_rfl) rfl
instance : En Try.prog 60 := ⟨en60⟩
theorem en61 : Enters Try.prog 61 := enters_of Try.func61 (by kernel_rfl) rfl
instance : En Try.prog 61 := ⟨en61⟩
theorem en62 : Enters Try.prog 62 := enters_of Try.func62 (by kernel_rfl) rfl
instance : En Try.prog 62 := ⟨en62⟩
theorem en63 : Enters Try.prog 63 := enters_of Try.func63 (by kernel_rfl) rfl
instance : En Try.prog 63 := ⟨en63⟩
theorem en64 : Enters Try.prog 64 := enters_of Try.func64 (by kernel_rfl) rfl
instance : En Try.prog 64 := ⟨en64⟩
theorem en65 : Enters Try.prog 65 := enters_of Try.func65 (by kernel_rfl) rfl
instance : En Try.prog 65 := ⟨en65⟩
theorem en66 : Enters Try.prog 66 := enters_of Try.func66 (by kernel_rfl) rfl
instance : En Try.prog 66 := ⟨en66⟩
theorem en67 : Enters Try.prog 67 := enters_of Try.func67 (by kernel_rfl) rfl
instance : En Try.prog 67 := ⟨en67⟩
theorem en68 : Enters Try.prog 68 := enters_of Try.func68 (by kernel_rfl) rfl
instance : En Try.prog 68 := ⟨en68⟩
theorem en69 : Enters Try.prog 69 := enters_of Try.func69 (by kernel_rfl) rfl
instance : En Try.prog 69 := ⟨en69⟩
theorem en70 : Enters Try.prog 70 := enters_of Try.func70 (by kernel_rfl) rfl
instance : En Try.prog 70 := ⟨en70⟩
theorem en71 : Enters Try.prog 71 := enters_of Try.func71 (by kernel_rfl) rfl
instance : En Try.prog 71 := ⟨en71⟩
theorem en72 : Enters Try.prog 72 := enters_of Try.func72 (by kernel_rfl) rfl
instance : En Try.prog 72 := ⟨en72⟩
theorem en73 : Enters Try.prog 73 := enters_of Try.func73 (by kernel_rfl) rfl
instance : En Try.prog 73 := ⟨en73⟩
theorem en74 : Enters Try.prog 74 := enters_of Try.func74 (by kernel_rfl) rfl
instance : En Try.prog 74 := ⟨en74⟩
theorem en75 : Enters Try.prog 75 := enters_of Try.func75 (by kernel_rfl) rfl
instance : En Try.prog 75 := ⟨en75⟩
theorem en76 : Enters Try.prog 76 := enters_of Try.func76 (by kernel_rfl) rfl
instance : En Try.prog 76 := ⟨en76⟩
theorem en77 : Enters Try.prog 77 := enters_of Try.func77 (by kernel_rfl) rfl
instance : En Try.prog 77 := ⟨en77⟩
theorem en78 : Enters Try.prog 78 := enters_of Try.func78 (by kernel_rfl) rfl
instance : En Try.prog 78 := ⟨en78⟩
theorem en79 : Enters Try.prog 79 := enters_of Try.func79 (by kernel_rfl) rfl
instance : En Try.prog 79 := ⟨en79⟩
theorem en80 : Enters Try.prog 80 := enters_of Try.func80 (by kernel_rfl) rfl
instance : En Try.prog 80 := ⟨en80⟩
theorem en81 : Enters Try.prog 81 := enters_of Try.func81 (by kernel_rfl) rfl
instance : En Try.prog 81 := ⟨en81⟩
theorem en82 : Enters Try.prog 82 := enters_of Try.func82 (by kernel_rfl) rfl
instance : En Try.prog 82 := ⟨en82⟩
theorem en83 : Enters Try.prog 83 := enters_of Try.func83 (by kernel_rfl) rfl
instance : En Try.prog 83 := ⟨en83⟩
theorem en84 : Enters Try.prog 84 := enters_of Try.func84 (by kernel_rfl) rfl
instance : En Try.prog 84 := ⟨en84⟩
theorem en85 : Enters Try.prog 85 := enters_of Try.func85 (by kernel_rfl) rfl
instance : En Try.prog 85 := ⟨en85⟩
theorem en86 : Enters Try.prog 86 := enters_of Try.func86 (by kernel_rfl) rfl
instance : En Try.prog 86 := ⟨en86⟩
theorem en87 : Enters Try.prog 87 := enters_of Try.func87 (by kernel_rfl) rfl
instance : En Try.prog 87 := ⟨en87⟩
theorem en88 : Enters Try.prog 88 := enters_of Try.func88 (by kernel_rfl) rfl
instance : En Try.prog 88 := ⟨en88⟩
theorem en89 : Enters Try.prog 89 := enters_of Try.func89 (by kernel_rfl) rfl
instance : En Try.prog 89 := ⟨en89⟩
theorem en90 : Enters Try.prog 90 := enters_of Try.func90 (by kernel_rfl) rfl
instance : En Try.prog 90 := ⟨en90⟩
theorem en91 : Enters Try.prog 91 := enters_of Try.func91 (by kernel_rfl) rfl
instance : En Try.prog 91 := ⟨en91⟩
theorem en92 : Enters Try.prog 92 := enters_of Try.func92 (by kernel_rfl) rfl
instance : En Try.prog 92 := ⟨en92⟩
theorem en93 : Enters Try.prog 93 := enters_of Try.func93 (by kernel_rfl) rfl
instance : En Try.prog 93 := ⟨en93⟩
theorem en94 : Enters Try.prog 94 := enters_of Try.func94 (by kernel_rfl) rfl
instance : En Try.prog 94 := ⟨en94⟩
theorem en95 : Enters Try.prog 95 := enters_of Try.func95 (by kernel_rfl) rfl
instance : En Try.prog 95 := ⟨en95⟩
instance : Sz Try.prog 1 (.nilFunc) 1 8 := ⟨by kernel_rfl⟩
instance : ZeroC Try.prog 1 [.nilFunc] := ⟨zeroC_of (z := .nilFunc) (by kernel_rfl) rfl⟩
instance : Scalar Try.prog 1 := ⟨_, Try.underlying1, rfl⟩
instance : Sz Try.prog 2 (.int .i64 0) 1 8 := ⟨by kernel_rfl⟩
instance : ZeroC Try.prog 2 [.int .i64 0] := ⟨zeroC_of (z := .int .i64 0) (by kernel_rfl) rfl⟩
instance : Scalar Try.prog 2 := ⟨_, Try.underlying2, rfl⟩
instance : Sz Try.prog 3 (.int .i64 0) 1 8 := ⟨by kernel_rfl⟩
instance : ZeroC Try.prog 3 [.int .i64 0] := ⟨zeroC_of (z := .int .i64 0) (by kernel_rfl) rfl⟩
instance : Scalar Try.prog 3 := ⟨_, Try.underlying3, rfl⟩
instance : Sz Try.prog 4 (.bool false) 1 1 := ⟨by kernel_rfl⟩
instance : ZeroC Try.prog 4 [.bool false] := ⟨zeroC_of (z := .bool false) (by kernel_rfl) rfl⟩
instance : Scalar Try.prog 4 := ⟨_, Try.underlying4, rfl⟩
instance : BoolT Try.prog 4 := ⟨Try.underlying4⟩
instance : Sz Try.prog 5 (.int .u8 0) 1 1 := ⟨by kernel_rfl⟩
instance : ZeroC Try.prog 5 [.int .u8 0] := ⟨zeroC_of (z := .int .u8 0) (by kernel_rfl) rfl⟩
instance : Scalar Try.prog 5 := ⟨_, Try.underlying5, rfl⟩
instance : Sz Try.prog 6 (.int .u8 0) 1 1 := ⟨by kernel_rfl⟩
instance : ZeroC Try.prog 6 [.int .u8 0] := ⟨zeroC_of (z := .int .u8 0) (by kernel_rfl) rfl⟩
instance : Scalar Try.prog 6 := ⟨_, Try.underlying6, rfl⟩
instance : Sz Try.prog 7 (.agg #[.int .i64 0, .int .i64 0, .bool false, .int .u8 0]) 4 24 := ⟨by kernel_rfl⟩
instance : ZeroC Try.prog 7 [.int .i64 0, .int .i64 0, .bool false, .int .u8 0] := ⟨zeroC_of (z := .agg #[.int .i64 0, .int .i64 0, .bool false, .int .u8 0]) (by kernel_rfl) rfl⟩
instance : Parts Try.prog 7 [(0, 1), (1, 1), (2, 1), (3, 1)] := ⟨.inl ⟨_, Try.underlying7, by kernel_rfl, by kernel_rfl⟩⟩
instance : Aggr Try.prog 7 4 := ⟨⟨_, Try.underlying7, rfl⟩, by kernel_rfl⟩
instance : Fld Try.prog 7 0 0 := ⟨fld_of (by kernel_rfl)⟩
instance : Fld Try.prog 7 1 1 := ⟨fld_of (by kernel_rfl)⟩
instance : Fld Try.prog 7 2 2 := ⟨fld_of (by kernel_rfl)⟩
instance : Fld Try.prog 7 3 3 := ⟨fld_of (by kernel_rfl)⟩
instance : Sz Try.prog 9 (.string ⟨#[]⟩) 1 16 := ⟨by kernel_rfl⟩
instance : ZeroC Try.prog 9 [.string ⟨#[]⟩] := ⟨zeroC_of (z := .string ⟨#[]⟩) (by kernel_rfl) rfl⟩
instance : Scalar Try.prog 9 := ⟨_, Try.underlying9, rfl⟩
instance : StrT Try.prog 9 := ⟨Try.underlying9⟩
instance : Sz Try.prog 22 (.agg #[.int .i64 0, .int .i64 0, .int .i64 0, .int .i64 0, .bool false, .int .i64 0, .int .i64 0]) 7 56 := ⟨by kernel_rfl⟩
instance : ZeroC Try.prog 22 [.int .i64 0, .int .i64 0, .int .i64 0, .int .i64 0, .bool false, .int .i64 0, .int .i64 0] := ⟨zeroC_of (z := .agg #[.int .i64 0, .int .i64 0, .int .i64 0, .int .i64 0, .bool false, .int .i64 0, .int .i64 0]) (by kernel_rfl) rfl⟩
instance : Parts Try.prog 22 [(0, 1), (1, 1), (2, 1), (3, 1), (4, 1), (5, 1), (6, 1)] := ⟨.inl ⟨_, Try.underlying22, by kernel_rfl, by kernel_rfl⟩⟩
instance : Aggr Try.prog 22 7 := ⟨⟨_, Try.underlying22, rfl⟩, by kernel_rfl⟩
instance : Fld Try.prog 22 0 0 := ⟨fld_of (by kernel_rfl)⟩
instance : Fld Try.prog 22 1 1 := ⟨fld_of (by kernel_rfl)⟩
instance : Fld Try.prog 22 2 2 := ⟨fld_of (by kernel_rfl)⟩
instance : Fld Try.prog 22 3 3 := ⟨fld_of (by kernel_rfl)⟩
instance : Fld Try.prog 22 4 4 := ⟨fld_of (by kernel_rfl)⟩
instance : Fld Try.prog 22 5 5 := ⟨fld_of (by kernel_rfl)⟩
instance : Fld Try.prog 22 6 6 := ⟨fld_of (by kernel_rfl)⟩
instance : Sz Try.prog 23 (.agg #[.int .i64 0, .int .i64 0, .int .i64 0, .int .i64 0, .bool false, .int .i64 0, .int .i64 0]) 7 56 := ⟨by kernel_rfl⟩
instance : ZeroC Try.prog 23 [.int .i64 0, .int .i64 0, .int .i64 0, .int .i64 0, .bool false, .int .i64 0, .int .i64 0] := ⟨zeroC_of (z := .agg #[.int .i64 0, .int .i64 0, .int .i64 0, .int .i64 0, .bool false, .int .i64 0, .int .i64 0]) (by kernel_rfl) rfl⟩
instance : Parts Try.prog 23 [(0, 1), (1, 1), (2, 1), (3, 1), (4, 1), (5, 1), (6, 1)] := ⟨.inl ⟨_, Try.underlying23, by kernel_rfl, by kernel_rfl⟩⟩
instance : Aggr Try.prog 23 7 := ⟨⟨_, Try.underlying23, rfl⟩, by kernel_rfl⟩
instance : Fld Try.prog 23 0 0 := ⟨fld_of (by kernel_rfl)⟩
instance : Fld Try.prog 23 1 1 := ⟨fld_of (by kernel_rfl)⟩
instance : Fld Try.prog 23 2 2 := ⟨fld_of (by kernel_rfl)⟩
instance : Fld Try.prog 23 3 3 := ⟨fld_of (by kernel_rfl)⟩
instance : Fld Try.prog 23 4 4 := ⟨fld_of (by kernel_rfl)⟩
instance : Fld Try.prog 23 5 5 := ⟨fld_of (by kernel_rfl)⟩
instance : Fld Try.prog 23 6 6 := ⟨fld_of (by kernel_rfl)⟩
instance : Sz Try.prog 24 (.slice none 0 0) 1 24 := ⟨by kernel_rfl⟩
instance : ZeroC Try.prog 24 [.slice none 0 0] := ⟨zeroC_of (z := .slice none 0 0) (by kernel_rfl) rfl⟩
instance : Scalar Try.prog 24 := ⟨_, Try.underlying24, rfl⟩
instance : SliceT Try.prog 24 3 := ⟨Try.underlying24⟩
instance : Sz Try.prog 25 (.agg #[.int .i64 0, .slice none 0 0]) 2 32 := ⟨by kernel_rfl⟩
instance : ZeroC Try.prog 25 [.int .i64 0, .slice none 0 0] := ⟨zeroC_of (z := .agg #[.int .i64 0, .slice none 0 0]) (by kernel_rfl) rfl⟩
instance : Parts Try.prog 25 [(0, 1), (1, 1)] := ⟨.inl ⟨_, Try.underlying25, by kernel_rfl, by kernel_rfl⟩⟩
instance : Aggr Try.prog 25 2 := ⟨⟨_, Try.underlying25, rfl⟩, by kernel_rfl⟩
instance : Fld Try.prog 25 0 0 := ⟨fld_of (by kernel_rfl)⟩
instance : Fld Try.prog 25 1 1 := ⟨fld_of (by kernel_rfl)⟩
instance : Sz Try.prog 26 (.agg #[.int .i64 0, .slice none 0 0]) 2 32 := ⟨by kernel_rfl⟩
instance : ZeroC Try.prog 26 [.int .i64 0, .slice none 0 0] := ⟨zeroC_of (z := .agg #[.int .i64 0, .slice none 0 0]) (by kernel_rfl) rfl⟩
instance : Parts Try.prog 26 [(0, 1), (1, 1)] := ⟨.inl ⟨_, Try.underlying26, by kernel_rfl, by kernel_rfl⟩⟩
instance : Aggr Try.prog 26 2 := ⟨⟨_, Try.underlying26, rfl⟩, by kernel_rfl⟩
instance : Fld Try.prog 26 0 0 := ⟨fld_of (by kernel_rfl)⟩
instance : Fld Try.prog 26 1 1 := ⟨fld_of (by kernel_rfl)⟩
instance : Sz Try.prog 27 (.slice none 0 0) 1 24 := ⟨by kernel_rfl⟩
instance : ZeroC Try.prog 27 [.slice none 0 0] := ⟨zeroC_of (z := .slice none 0 0) (by kernel_rfl) rfl⟩
instance : Scalar Try.prog 27 := ⟨_, Try.underlying27, rfl⟩
instance : SliceT Try.prog 27 78 := ⟨Try.underlying27⟩
instance : Sz Try.prog 28 (.slice none 0 0) 1 24 := ⟨by kernel_rfl⟩
instance : ZeroC Try.prog 28 [.slice none 0 0] := ⟨zeroC_of (z := .slice none 0 0) (by kernel_rfl) rfl⟩
instance : Scalar Try.prog 28 := ⟨_, Try.underlying28, rfl⟩
instance : SliceT Try.prog 28 90 := ⟨Try.underlying28⟩
instance : Sz Try.prog 29 (.agg #[.int .i64 0, .int .i64 0, .int .i64 0, .int .i64 0, .bool false, .int .i64 0, .int .i64 0, .int .i64 0, .slice none 0 0, .slice none 0 0, .slice none 0 0, .int .i64 0]) 12 144 := ⟨by kernel_rfl⟩
instance : ZeroC Try.prog 29 [.int .i64 0, .int .i64 0, .int .i64 0, .int .i64 0, .bool false, .int .i64 0, .int .i64 0, .int .i64 0, .slice none 0 0, .slice none 0 0, .slice none 0 0, .int .i64 0] := ⟨zeroC_of (z := .agg #[.int .i64 0, .int .i64 0, .int .i64 0, .int .i64 0, .bool false, .int .i64 0, .int .i64 0, .int .i64 0, .slice none 0 0, .slice none 0 0, .slice none 0 0, .int .i64 0]) (by kernel_rfl) rfl⟩
instance : Parts Try.prog 29 [(0, 7), (7, 2), (9, 1), (10, 1), (11, 1)] := ⟨.inl ⟨_, Try.underlying29, by kernel_rfl, by kernel_rfl⟩⟩
instance : Aggr Try.prog 29 12 := ⟨⟨_, Try.underlying29, rfl⟩, by kernel_rfl⟩
instance : Fld Try.prog 29 0 0 := ⟨fld_of (by kernel_rfl)⟩
instance : Fld Try.prog 29 1 7 := ⟨fld_of (by kernel_rfl)⟩
instance : Fld Try.prog 29 2 9 := ⟨fld_of (by kernel_rfl)⟩
instance : Fld Try.prog 29 3 10 := ⟨fld_of (by kernel_rfl)⟩
instance : Fld Try.prog 29 4 11 := ⟨fld_of (by kernel_rfl)⟩
instance : Sz Try.prog 30 (.agg #[.int .i64 0, .int .i64 0, .int .i64 0, .int .i64 0, .bool false, .int .i64 0, .int .i64 0, .int .i64 0, .slice none 0 0, .slice none 0 0, .slice none 0 0, .int .i64 0]) 12 144 := ⟨by kernel_rfl⟩
instance : ZeroC Try.prog 30 [.int .i64 0, .int .i64 0, .int .i64 0, .int .i64 0, .bool false, .int .i64 0, .int .i64 0, .int .i64 0, .slice none 0 0, .slice none 0 0, .slice none 0 0, .int .i64 0] := ⟨zeroC_of (z := .agg #[.int .i64 0, .int .i64 0, .int .i64 0, .int .i64 0, .bool false, .int .i64 0, .int .i64 0, .int .i64 0, .slice none 0 0, .slice none 0 0, .slice none 0 0, .int .i64 0]) (by kernel_rfl) rfl⟩
instance : Parts Try.prog 30 [(0, 7), (7, 2), (9, 1), (10, 1), (11, 1)] := ⟨.inl ⟨_, Try.underlying30, by kernel_rfl, by kernel_rfl⟩⟩
instance : Aggr Try.prog 30 12 := ⟨⟨_, Try.underlying30, rfl⟩, by kernel_rfl⟩
instance : Fld Try.prog 30 0 0 := ⟨fld_of (by kernel_rfl)⟩
instance : Fld Try.prog 30 1 7 := ⟨fld_of (by kernel_rfl)⟩
instance : Fld Try.prog 30 2 9 := ⟨fld_of (by kernel_rfl)⟩
instance : Fld Try.prog 30 3 10 := ⟨fld_of (by kernel_rfl)⟩
instance : Fld Try.prog 30 4 11 := ⟨fld_of (by kernel_rfl)⟩
instance : Sz Try.prog 33 (.agg #[.int .i64 0, .int .i64 0, .int .i64 0, .int .i64 0, .bool false, .int .i64 0, .int .i64 0]) 7 56 := ⟨by kernel_rfl⟩
instance : ZeroC Try.prog 33 [.int .i64 0, .int .i64 0, .int .i64 0, .int .i64 0, .bool false, .int .i64 0, .int .i64 0] := ⟨zeroC_of (z := .agg #[.int .i64 0, .int .i64 0, .int .i64 0, .int .i64 0, .bool false, .int .i64 0, .int .i64 0]) (by kernel_rfl) rfl⟩
instance : Parts Try.prog 33 [(0, 1), (1, 1), (2, 1), (3, 1), (4, 1), (5, 1), (6, 1)] := ⟨.inl ⟨_, Try.underlying33, by kernel_rfl, by kernel_rfl⟩⟩
instance : Aggr Try.prog 33 7 := ⟨⟨_, Try.underlying33, rfl⟩, by kernel_rfl⟩
instance : Fld Try.prog 33 0 0 := ⟨fld_of (by kernel_rfl)⟩
instance : Fld Try.prog 33 1 1 := ⟨fld_of (by kernel_rfl)⟩
instance : Fld Try.prog 33 2 2 := ⟨fld_of (by kernel_rfl)⟩
instance : Fld Try.prog 33 3 3 := ⟨fld_of (by kernel_rfl)⟩
instance : Fld Try.prog 33 4 4 := ⟨fld_of (by kernel_rfl)⟩
instance : Fld Try.prog 33 5 5 := ⟨fld_of (by kernel_rfl)⟩
instance : Fld Try.prog 33 6 6 := ⟨fld_of (by kernel_rfl)⟩
instance : Sz Try.prog 34 (.agg #[.int .i64 0, .slice none 0 0]) 2 32 := ⟨by kernel_rfl⟩
instance : ZeroC Try.prog 34 [.int .i64 0, .slice none 0 0] := ⟨zeroC_of (z := .agg #[.int .i64 0, .slice none 0 0]) (by kernel_rfl) rfl⟩
instance : Parts Try.prog 34 [(0, 1), (1, 1)] := ⟨.inl ⟨_, Try.underlying34, by kernel_rfl, by kernel_rfl⟩⟩
instance : Aggr Try.prog 34 2 := ⟨⟨_, Try.underlying34, rfl⟩, by kernel_rfl⟩
instance : Fld Try.prog 34 0 0 := ⟨fld_of (by kernel_rfl)⟩
instance : Fld Try.prog 34 1 1 := ⟨fld_of (by kernel_rfl)⟩
instance : Sz Try.prog 35 (.slice none 0 0) 1 24 := ⟨by kernel_rfl⟩
instance : ZeroC Try.prog 35 [.slice none 0 0] := ⟨zeroC_of (z := .slice none 0 0) (by kernel_rfl) rfl⟩
instance : Scalar Try.prog 35 := ⟨_, Try.underlying35, rfl⟩
instance : SliceT Try.prog 35 82 := ⟨Try.underlying35⟩
instance : Sz Try.prog 36 (.slice none 0 0) 1 24 := ⟨by kernel_rfl⟩
instance : ZeroC Try.prog 36 [.slice none 0 0] := ⟨zeroC_of (z := .slice none 0 0) (by kernel_rfl) rfl⟩
instance : Scalar Try.prog 36 := ⟨_, Try.underlying36, rfl⟩
instance : SliceT Try.prog 36 66 := ⟨Try.underlying36⟩
instance : Sz Try.prog 37 (.agg #[.int .i64 0, .int .i64 0, .int .i64 0, .int .i64 0, .bool false, .int .i64 0, .int .i64 0, .int .i64 0, .slice none 0 0, .slice none 0 0, .slice none 0 0, .int .i64 0]) 12 144 := ⟨by kernel_rfl⟩
instance : ZeroC Try.prog 37 [.int .i64 0, .int .i64 0, .int .i64 0, .int .i64 0, .bool false, .int .i64 0, .int .i64 0, .int .i64 0, .slice none 0 0, .slice none 0 0, .slice none 0 0, .int .i64 0] := ⟨zeroC_of (z := .agg #[.int .i64 0, .int .i64 0, .int .i64 0, .int .i64 0, .bool false, .int .i64 0, .int .i64 0, .int .i64 0, .slice none 0 0, .slice none 0 0, .slice none 0 0, .int .i64 0]) (by kernel_rfl) rfl⟩
instance : Parts Try.prog 37 [(0, 7), (7, 2), (9, 1), (10, 1), (11, 1)] := ⟨.inl ⟨_, Try.underlying37, by kernel_rfl, by kernel_rfl⟩⟩
instance : Aggr Try.prog 37 12 := ⟨⟨_, Try.underlying37, rfl⟩, by kernel_rfl⟩
instance : Fld Try.prog 37 0 0 := ⟨fld_of (by kernel_rfl)⟩
instance : Fld Try.prog 37 1 7 := ⟨fld_of (by kernel_rfl)⟩
instance : Fld Try.prog 37 2 9 := ⟨fld_of (by kernel_rfl)⟩
instance : Fld Try.prog 37 3 10 := ⟨fld_of (by kernel_rfl)⟩
instance : Fld Try.prog 37 4 11 := ⟨fld_of (by kernel_rfl)⟩
instance : Sz Try.prog 38 (.agg #[.int .i64 0, .int .i64 0, .int .i64 0, .int .i64 0, .bool false, .int .i64 0, .int .i64 0, .int .i64 0, .slice none 0 0, .slice none 0 0, .slice none 0 0, .int .i64 0]) 12 144 := ⟨by kernel_rfl⟩
instance : ZeroC Try.prog 38 [.int .i64 0, .int .i64 0, .int .i64 0, .int .i64 0, .bool false, .int .i64 0, .int .i64 0, .int .i64 0, .slice none 0 0, .slice none 0 0, .slice none 0 0, .int .i64 0] := ⟨zeroC_of (z := .agg #[.int .i64 0, .int .i64 0, .int .i64 0, .int .i64 0, .bool false, .int .i64 0, .int .i64 0, .int .i64 0, .slice none 0 0, .slice none 0 0, .slice none 0 0, .int .i64 0]) (by kernel_rfl) rfl⟩
instance : Parts Try.prog 38 [(0, 7), (7, 2), (9, 1), (10, 1), (11, 1)] := ⟨.inl ⟨_, Try.underlying38, by kernel_rfl, by kernel_rfl⟩⟩
instance : Aggr Try.prog 38 12 := ⟨⟨_, Try.underlying38, rfl⟩, by kernel_rfl⟩
instance : Fld Try.prog 38 0 0 := ⟨fld_of (by kernel_rfl)⟩
instance : Fld Try.prog 38 1 7 := ⟨fld_of (by kernel_rfl)⟩
instance : Fld Try.prog 38 2 9 := ⟨fld_of (by kernel_rfl)⟩
instance : Fld Try.prog 38 3 10 := ⟨fld_of (by kernel_rfl)⟩
instance : Fld Try.prog 38 4 11 := ⟨fld_of (by kernel_rfl)⟩
instance : Sz Try.prog 48 (.nilFunc) 1 8 := ⟨by kernel_rfl⟩
instance : ZeroC Try.prog 48 [.nilFunc] := ⟨zeroC_of (z := .nilFunc) (by kernel_rfl) rfl⟩
instance : Scalar Try.prog 48 := ⟨_, Try.underlying48, rfl⟩
instance : Sz Try.prog 58 (.nilFunc) 1 8 := ⟨by kernel_rfl⟩
instance : ZeroC Try.prog 58 [.nilFunc] := ⟨zeroC_of (z := .nilFunc) (by kernel_rfl) rfl⟩
instance : Scalar Try.prog 58 := ⟨_, Try.underlying58, rfl⟩
instance : Sz Try.prog 60 (.agg #[.int .i64 0, .int .i64 0, .int .i64 0]) 3 24 := ⟨by kernel_rfl⟩
instance : ZeroC Try.prog 60 [.int .i64 0, .int .i64 0, .int .i64 0] := ⟨zeroC_of (z := .agg #[.int .i64 0, .int .i64 0, .int .i64 0]) (by kernel_rfl) rfl⟩
instance : Parts Try.prog 60 [(0, 1), (1, 1), (2, 1)] := ⟨.inl ⟨_, Try.underlying60, by kernel_rfl, by kernel_rfl⟩⟩
instance : Aggr Try.prog 60 3 := ⟨⟨_, Try.underlying60, rfl⟩, by kernel_rfl⟩
instance : Fld Try.prog 60 0 0 := ⟨fld_of (by kernel_rfl)⟩
instance : Fld Try.prog 60 1 1 := ⟨fld_of (by kernel_rfl)⟩
instance : Fld Try.prog 60 2 2 := ⟨fld_of (by kernel_rfl)⟩
instance : Sz Try.prog 61 (.agg #[.int .i64 0, .int .i64 0, .int .i64 0]) 3 24 := ⟨by kernel_rfl⟩
instance : ZeroC Try.prog 61 [.int .i64 0, .int .i64 0, .int .i64 0] := ⟨zeroC_of (z := .agg #[.int .i64 0, .int .i64 0, .int .i64 0]) (by kernel_rfl) rfl⟩
instance : Parts Try.prog 61 [(0, 1), (1, 1), (2, 1)] := ⟨.inl ⟨_, Try.underlying61, by kernel_rfl, by kernel_rfl⟩⟩
instance : Aggr Try.prog 61 3 := ⟨⟨_, Try.underlying61, rfl⟩, by kernel_rfl⟩
instance : Fld Try.prog 61 0 0 := ⟨fld_of (by kernel_rfl)⟩
instance : Fld Try.prog 61 1 1 := ⟨fld_of (by kernel_rfl)⟩
instance : Fld Try.prog 61 2 2 := ⟨fld_of (by kernel_rfl)⟩
instance : Sz Try.prog 62 (.agg #[.int .i64 0, .int .i64 0, .int .i64 0, .int .i64 0, .int .i64 0, .int .i64 0, .int .i64 0, .int .i64 0, .int .i64 0, .int .i64 0, .int .i64 0, .int .i64 0]) 12 96 := ⟨by kernel_rfl⟩
instance : ZeroC Try.prog 62 [.int .i64 0, .int .i64 0, .int .i64 0, .int .i64 0, .int .i64 0, .int .i64 0, .int .i64 0, .int .i64 0, .int .i64 0, .int .i64 0, .int .i64 0, .int .i64 0] := ⟨zeroC_of (z := .agg #[.int .i64 0, .int .i64 0, .int .i64 0, .int .i64 0, .int .i64 0, .int .i64 0, .int .i64 0, .int .i64 0, .int .i64 0, .int .i64 0, .int .i64 0, .int .i64 0]) (by kernel_rfl) rfl⟩
instance : Parts Try.prog 62 [(0, 3), (3, 3), (6, 3), (9, 3)] := ⟨.inr ⟨_, _, Try.underlying62, by kernel_rfl, by kernel_rfl⟩⟩
instance : Aggr Try.prog 62 12 := ⟨⟨_, Try.underlying62, rfl⟩, by kernel_rfl⟩
instance : ArrT Try.prog 62 4 61 := ⟨Try.underlying62⟩
instance : Sz Try.prog 63 (.agg #[.int .i64 0, .int .i64 0, .int .i64 0, .int .i64 0, .int .i64 0, .int .i64 0, .int .i64 0, .int .i64 0, .int .i64 0, .int .i64 0, .int .i64 0, .int .i64 0]) 12 96 := ⟨by kernel_rfl⟩
instance : ZeroC Try.prog 63 [.int .i64 0, .int .i64 0, .int .i64 0, .int .i64 0, .int .i64 0, .int .i64 0, .int .i64 0, .int .i64 0, .int .i64 0, .int .i64 0, .int .i64 0, .int .i64 0] := ⟨zeroC_of (z := .agg #[.int .i64 0, .int .i64 0, .int .i64 0, .int .i64 0, .int .i64 0, .int .i64 0, .int .i64 0, .int .i64 0, .int .i64 0, .int .i64 0, .int .i64 0, .int .i64 0]) (by kernel_rfl) rfl⟩
instance : Parts Try.prog 63 [(0, 12)] := ⟨.inl ⟨_, Try.underlying63, by kernel_rfl, by kernel_rfl⟩⟩
instance : Aggr Try.prog 63 12 := ⟨⟨_, Try.underlying63, rfl⟩, by kernel_rfl⟩
instance : Fld Try.prog 63 0 0 := ⟨fld_of (by kernel_rfl)⟩
instance : Sz Try.prog 64 (.agg #[.int .i64 0, .int .i64 0, .int .i64 0, .int .i64 0, .int .i64 0, .int .i64 0, .int .i64 0, .int .i64 0, .int .i64 0, .int .i64 0, .int .i64 0, .int .i64 0]) 12 96 := ⟨by kernel_rfl⟩
instance : ZeroC Try.prog 64 [.int .i64 0, .int .i64 0, .int .i64 0, .int .i64 0, .int .i64 0, .int .i64 0, .int .i64 0, .int .i64 0, .int .i64 0, .int .i64 0, .int .i64 0, .int .i64 0] := ⟨zeroC_of (z := .agg #[.int .i64 0, .int .i64 0, .int .i64 0, .int .i64 0, .int .i64 0, .int .i64 0, .int .i64 0, .int .i64 0, .int .i64 0, .int .i64 0, .int .i64 0, .int .i64 0]) (by kernel_rfl) rfl⟩
instance : Parts Try.prog 64 [(0, 12)] := ⟨.inl ⟨_, Try.underlying64, by kernel_rfl, by kernel_rfl⟩⟩
instance : Aggr Try.prog 64 12 := ⟨⟨_, Try.underlying64, rfl⟩, by kernel_rfl⟩
instance : Fld Try.prog 64 0 0 := ⟨fld_of (by kernel_rfl)⟩
instance : Sz Try.prog 65 (.agg #[.int .i64 0, .int .i64 0, .int .i64 0, .int .i64 0, .int .i64 0, .int .i64 0, .int .i64 0, .int .i64 0, .int .i64 0, .int .i64 0, .int .i64 0, .int .i64 0, .int .i64 0, .int .i64 0, .int .i64 0, .int .i64 0, .int .i64 0, .int .i64 0, .int .i64 0, .int .i64 0, .int .i64 0, .int .i64 0, .int .i64 0, .int .i64 0, .int .i64 0, .int .i64 0]) 26 208 := ⟨by kernel_rfl⟩
instance : ZeroC Try.prog 65 [.int .i64 0, .int .i64 0, .int .i64 0, .int .i64 0, .int .i64 0, .int .i64 0, .int .i64 0, .int .i64 0, .int .i64 0, .int .i64 0, .int .i64 0, .int .i64 0, .int .i64 0, .int .i64 0, .int .i64 0, .int .i64 0, .int .i64 0, .int .i64 0, .int .i64 0, .int .i64 0, .int .i64 0, .int .i64 0, .int .i64 0, .int .i64 0, .int .i64 0, .int .i64 0] := ⟨zeroC_of (z := .agg #[.int .i64 0, .int .i64 0, .int .i64 0, .int .i64 0, .int .i64 0, .int .i64 0, .int .i64 0, .int .i64 0, .int .i64 0, .int .i64 0, .int .i64 0, .int .i64 0, .int .i64 0, .int .i64 0, .int .i64 0, .int .i64 0, .int .i64 0, .int .i64 0, .int .i64 0, .int .i64 0, .int .i64 0, .int .i64 0, .int .i64 0, .int .i64 0, .int .i64 0, .int .i64 0]) (by kernel_rfl) rfl⟩
instance : Parts Try.prog 65 [(0, 12), (12, 12), (24, 1), (25, 1)] := ⟨.inl ⟨_, Try.underlying65, by kernel_rfl, by kernel_rfl⟩⟩
instance : Aggr Try.prog 65 26 := ⟨⟨_, Try.underlying65, rfl⟩, by kernel_rfl⟩
instance : Fld Try.prog 65 0 0 := ⟨fld_of (by kernel_rfl)⟩
instance : Fld Try.prog 65 1 12 := ⟨fld_of (by kernel_rfl)⟩
instance : Fld Try.prog 65 2 24 := ⟨fld_of (by kernel_rfl)⟩
instance : Fld Try.prog 65 3 25 := ⟨fld_of (by kernel_rfl)⟩
instance : Sz Try.prog 66 (.agg #[.int .i64 0, .int .i64 0, .int .i64 0, .int .i64 0, .int .i64 0, .int .i64 0, .int .i64 0, .int .i64 0, .int .i64 0, .int .i64 0, .int .i64 0, .int .i64 0, .int .i64 0, .int .i64 0, .int .i64 0, .int .i64 0, .int .i64 0, .int .i64 0, .int .i64 0, .int .i64 0, .int .i64 0, .int .i64 0, .int .i64 0, .int .i64 0, .int .i64 0, .int .i64 0]) 26 208 := ⟨by kernel_rfl⟩
instance : ZeroC Try.prog 66 [.int .i64 0, .int .i64 0, .int .i64 0, .int .i64 0, .int .i64 0, .int .i64 0, .int .i64 0, .int .i64 0, .int .i64 0, .int .i64 0, .int .i64 0, .int .i64 0, .int .i64 0, .int .i64 0, .int .i64 0, .int .i64 0, .int .i64 0, .int .i64 0, .int .i64 0, .int .i64 0, .int .i64 0, .int .i64 0, .int .i64 0, .int .i64 0, .int .i64 0, .int .i64 0] := ⟨zeroC_of (z := .agg #[.int .i64 0, .int .i64 0, .int .i64 0, .int .i64 0, .int .i64 0, .int .i64 0, .int .i64 0, .int .i64 0, .int .i64 0, .int .i64 0, .int .i64 0, .int .i64 0, .int .i64 0, .int .i64 0, .int .i64 0, .int .i64 0, .int .i64 0, .int .i64 0, .int .i64 0, .int .i64 0, .int .i64 0, .int .i64 0, .int .i64 0, .int .i64 0, .int .i64 0, .int .i64 0]) (by kernel_rfl) rfl⟩
instance : Parts Try.prog 66 [(0, 12), (12, 12), (24, 1), (25, 1)] := ⟨.inl ⟨_, Try.underlying66, by kernel_rfl, by kernel_rfl⟩⟩
instance : Aggr Try.prog 66 26 := ⟨⟨_, Try.underlying66, rfl⟩, by kernel_rfl⟩
instance : Fld Try.prog 66 0 0 := ⟨fld_of (by kernel_rfl)⟩
instance : Fld Try.prog 66 1 12 := ⟨fld_of (by kernel_rfl)⟩
instance : Fld Try.prog 66 2 24 := ⟨fld_of (by kernel_rfl)⟩
instance : Fld Try.prog 66 3 25 := ⟨fld_of (by kernel_rfl)⟩
instance : Sz Try.prog 75 (.slice none 0 0) 1 24 := ⟨by kernel_rfl⟩
instance : ZeroC Try.prog 75 [.slice none 0 0] := ⟨zeroC_of (z := .slice none 0 0) (by kernel_rfl) rfl⟩
instance : Scalar Try.prog 75 := ⟨_, Try.underlying75, rfl⟩
instance : SliceT Try.prog 75 118 := ⟨Try.underlying75⟩
instance : Sz Try.prog 76 (.slice none 0 0) 1 24 := ⟨by kernel_rfl⟩
instance : ZeroC Try.prog 76 [.slice none 0 0] := ⟨zeroC_of (z := .slice none 0 0) (by kernel_rfl) rfl⟩
instance : Scalar Try.prog 76 := ⟨_, Try.underlying76, rfl⟩
instance : SliceT Try.prog 76 120 := ⟨Try.underlying76⟩
instance : Sz Try.prog 77 (.agg #[.slice none 0 0, .slice none 0 0]) 2 48 := ⟨by kernel_rfl⟩
instance : ZeroC Try.prog 77 [.slice none 0 0, .slice none 0 0] := ⟨zeroC_of (z := .agg #[.slice none 0 0, .slice none 0 0]) (by kernel_rfl) rfl⟩
instance : Parts Try.prog 77 [(0, 1), (1, 1)] := ⟨.inl ⟨_, Try.underlying77, by kernel_rfl, by kernel_rfl⟩⟩
instance : Aggr Try.prog 77 2 := ⟨⟨_, Try.underlying77, rfl⟩, by kernel_rfl⟩
instance : Fld Try.prog 77 0 0 := ⟨fld_of (by kernel_rfl)⟩
instance : Fld Try.prog 77 1 1 := ⟨fld_of (by kernel_rfl)⟩
instance : Sz Try.prog 78 (.agg #[.slice none 0 0, .slice none 0 0]) 2 48 := ⟨by kernel_rfl⟩
instance : ZeroC Try.prog 78 [.slice none 0 0, .slice none 0 0] := ⟨zeroC_of (z := .agg #[.slice none 0 0, .slice none 0 0]) (by kernel_rfl) rfl⟩
instance : Parts Try.prog 78 [(0, 1), (1, 1)] := ⟨.inl ⟨_, Try.underlying78, by kernel_rfl, by kernel_rfl⟩⟩
instance : Aggr Try.prog 78 2 := ⟨⟨_, Try.underlying78, rfl⟩, by kernel_rfl⟩
instance : Fld Try.prog 78 0 0 := ⟨fld_of (by kernel_rfl)⟩
instance : Fld Try.prog 78 1 1 := ⟨fld_of (by kernel_rfl)⟩
instance : Sz Try.prog 79 (.slice none 0 0) 1 24 := ⟨by kernel_rfl⟩
instance : ZeroC Try.prog 79 [.slice none 0 0] := ⟨zeroC_of (z := .slice none 0 0) (by kernel_rfl) rfl⟩
instance : Scalar Try.prog 79 := ⟨_, Try.underlying79, rfl⟩
instance : SliceT Try.prog 79 113 := ⟨Try.underlying79⟩
instance : Sz Try.prog 80 (.slice none 0 0) 1 24 := ⟨by kernel_rfl⟩
instance : ZeroC Try.prog 80 [.slice none 0 0] := ⟨zeroC_of (z := .slice none 0 0) (by kernel_rfl) rfl⟩
instance : Scalar Try.prog 80 := ⟨_, Try.underlying80, rfl⟩
instance : SliceT Try.prog 80 116 := ⟨Try.underlying80⟩
instance : Sz Try.prog 81 (.agg #[.slice none 0 0, .slice none 0 0]) 2 48 := ⟨by kernel_rfl⟩
instance : ZeroC Try.prog 81 [.slice none 0 0, .slice none 0 0] := ⟨zeroC_of (z := .agg #[.slice none 0 0, .slice none 0 0]) (by kernel_rfl) rfl⟩
instance : Parts Try.prog 81 [(0, 1), (1, 1)] := ⟨.inl ⟨_, Try.underlying81, by kernel_rfl, by kernel_rfl⟩⟩
instance : Aggr Try.prog 81 2 := ⟨⟨_, Try.underlying81, rfl⟩, by kernel_rfl⟩
instance : Fld Try.prog 81 0 0 := ⟨fld_of (by kernel_rfl)⟩
instance : Fld Try.prog 81 1 1 := ⟨fld_of (by kernel_rfl)⟩
instance : Sz Try.prog 82 (.agg #[.slice none 0 0, .slice none 0 0]) 2 48 := ⟨by kernel_rfl⟩
instance : ZeroC Try.prog 82 [.slice none 0 0, .slice none 0 0] := ⟨zeroC_of (z := .agg #[.slice none 0 0, .slice none 0 0]) (by kernel_rfl) rfl⟩
instance : Parts Try.prog 82 [(0, 1), (1, 1)] := ⟨.inl ⟨_, Try.underlying82, by kernel_rfl, by kernel_rfl⟩⟩
instance : Aggr Try.prog 82 2 := ⟨⟨_, Try.underlying82, rfl⟩, by kernel_rfl⟩
instance : Fld Try.prog 82 0 0 := ⟨fld_of (by kernel_rfl)⟩
instance : Fld Try.prog 82 1 1 := ⟨fld_of (by kernel_rfl)⟩
instance : Sz Try.prog 85 (.agg #[.int .i64 0, .int .i64 0, .int .i64 0]) 3 24 := ⟨by kernel_rfl⟩
instance : ZeroC Try.prog 85 [.int .i64 0, .int .i64 0, .int .i64 0] := ⟨zeroC_of (z := .agg #[.int .i64 0, .int .i64 0, .int .i64 0]) (by kernel_rfl) rfl⟩
instance : Parts Try.prog 85 [(0, 1), (1, 1), (2, 1)] := ⟨.inl ⟨_, Try.underlying85, by kernel_rfl, by kernel_rfl⟩⟩
instance : Aggr Try.prog 85 3 := ⟨⟨_, Try.underlying85, rfl⟩, by kernel_rfl⟩
instance : Fld Try.prog 85 0 0 := ⟨fld_of (by kernel_rfl)⟩
instance : Fld Try.prog 85 1 1 := ⟨fld_of (by kernel_rfl)⟩
instance : Fld Try.prog 85 2 2 := ⟨fld_of (by kernel_rfl)⟩
instance : Sz Try.prog 86 (.agg #[.int .i64 0, .int .i64 0, .int .i64 0, .int .i64 0, .int .i64 0, .int .i64 0, .int .i64 0, .int .i64 0, .int .i64 0, .int .i64 0, .int .i64 0, .int .i64 0]) 12 96 := ⟨by kernel_rfl⟩
instance : ZeroC Try.prog 86 [.int .i64 0, .int .i64 0, .int .i64 0, .int .i64 0, .int .i64 0, .int .i64 0, .int .i64 0, .int .i64 0, .int .i64 0, .int .i64 0, .int .i64 0, .int .i64 0] := ⟨zeroC_of (z := .agg #[.int .i64 0, .int .i64 0, .int .i64 0, .int .i64 0, .int .i64 0, .int .i64 0, .int .i64 0, .int .i64 0, .int .i64 0, .int .i64 0, .int .i64 0, .int .i64 0]) (by kernel_rfl) rfl⟩
instance : Parts Try.prog 86 [(0, 3), (3, 3), (6, 3), (9, 3)] := ⟨.inr ⟨_, _, Try.underlying86, by kernel_rfl, by kernel_rfl⟩⟩
instance : Aggr Try.prog 86 12 := ⟨⟨_, Try.underlying86, rfl⟩, by kernel_rfl⟩
instance : ArrT Try.prog 86 4 85 := ⟨Try.underlying86⟩
instance : Sz Try.prog 87 (.agg #[.int .i64 0, .int .i64 0, .int .i64 0, .int .i64 0, .int .i64 0, .int .i64 0, .int .i64 0, .int .i64 0, .int .i64 0, .int .i64 0, .int .i64 0, .int .i64 0]) 12 96 := ⟨by kernel_rfl⟩
instance : ZeroC Try.prog 87 [.int .i64 0, .int .i64 0, .int .i64 0, .int .i64 0, .int .i64 0, .int .i64 0, .int .i64 0, .int .i64 0, .int .i64 0, .int .i64 0, .int .i64 0, .int .i64 0] := ⟨zeroC_of (z := .agg #[.int .i64 0, .int .i64 0, .int .i64 0, .int .i64 0, .int .i64 0, .int .i64 0, .int .i64 0, .int .i64 0, .int .i64 0, .int .i64 0, .int .i64 0, .int .i64 0]) (by kernel_rfl) rfl⟩
instance : Parts Try.prog 87 [(0, 12)] := ⟨.inl ⟨_, Try.underlying87, by kernel_rfl, by kernel_rfl⟩⟩
instance : Aggr Try.prog 87 12 := ⟨⟨_, Try.underlying87, rfl⟩, by kernel_rfl⟩
instance : Fld Try.prog 87 0 0 := ⟨fld_of (by kernel_rfl)⟩
instance : Sz Try.prog 88 (.agg #[.int .i64 0, .int .i64 0, .int .i64 0, .int .i64 0, .int .i64 0, .int .i64 0, .int .i64 0, .int .i64 0, .int .i64 0, .int .i64 0, .int .i64 0, .int .i64 0]) 12 96 := ⟨by kernel_rfl⟩
instance : ZeroC Try.prog 88 [.int .i64 0, .int .i64 0, .int .i64 0, .int .i64 0, .int .i64 0, .int .i64 0, .int .i64 0, .int .i64 0, .int .i64 0, .int .i64 0, .int .i64 0, .int .i64 0] := ⟨zeroC_of (z := .agg #[.int .i64 0, .int .i64 0, .int .i64 0, .int .i64 0, .int .i64 0, .int .i64 0, .int .i64 0, .int .i64 0, .int .i64 0, .int .i64 0, .int .i64 0, .int .i64 0]) (by kernel_rfl) rfl⟩
instance : Parts Try.prog 88 [(0, 12)] := ⟨.inl ⟨_, Try.underlying88, by kernel_rfl, by kernel_rfl⟩⟩
instance : Aggr Try.prog 88 12 := ⟨⟨_, Try.underlying88, rfl⟩, by kernel_rfl⟩
instance : Fld Try.prog 88 0 0 := ⟨fld_of (by kernel_rfl)⟩
instance : Sz Try.prog 89 (.agg #[.int .i64 0, .int .i64 0, .int .i64 0, .int .i64 0, .int .i64 0, .int .i64 0, .int .i64 0, .int .i64 0, .int .i64 0, .int .i64 0, .int .i64 0, .int .i64 0, .int .i64 0, .int .i64 0, .int .i64 0, .int .i64 0, .int .i64 0, .int .i64 0, .int .i64 0, .int .i64 0, .int .i64 0, .int .i64 0, .int .i64 0, .int .i64 0, .int .i64 0, .int .i64 0]) 26 208 := ⟨by kernel_rfl⟩
instance : ZeroC Try.prog 89 [.int .i64 0, .int .i64 0, .int .i64 0, .int .i64 0, .int .i64 0, .int .i64 0, .int .i64 0, .int .i64 0, .int .i64 0, .int .i64 0, .int .i64 0, .int .i64 0, .int .i64 0, .int .i64 0, .int .i64 0, .int .i64 0, .int .i64 0, .int .i64 0, .int .i64 0, .int .i64 0, .int .i64 0, .int .i64 0, .int .i64 0, .int .i64 0, .int .i64 0, .int .i64 0] := ⟨zeroC_of (z := .agg #[.int .i64 0, .int .i64 0, .int .i64 0, .int .i64 0, .int .i64 0, .int .i64 0, .int .i64 0, .int .i64 0, .int .i64 0, .int .i64 0, .int .i64 0, .int .i64 0, .int .i64 0, .int .i64 0, .int .i64 0, .int .i64 0, .int .i64 0, .int .i64 0, .int .i64 0, .int .i64 0, .int .i64 0, .int .i64 0, .int .i64 0, .int .i64 0, .int .i64 0, .int .i64 0]) (by kernel_rfl) rfl⟩
instance : Parts Try.prog 89 [(0, 12), (12, 12), (24, 1), (25, 1)] := ⟨.inl ⟨_, Try.underlying89, by kernel_rfl, by kernel_rfl⟩⟩
instance : Aggr Try.prog 89 26 := ⟨⟨_, Try.underlying89, rfl⟩, by kernel_rfl⟩
instance : Fld Try.prog 89 0 0 := ⟨fld_of (by kernel_rfl)⟩
instance : Fld Try.prog 89 1 12 := ⟨fld_of (by kernel_rfl)⟩
instance : Fld Try.prog 89 2 24 := ⟨fld_of (by kernel_rfl)⟩
instance : Fld Try.prog 89 3 25 := ⟨fld_of (by kernel_rfl)⟩
instance : Sz Try.prog 90 (.agg #[.int .i64 0, .int .i64 0, .int .i64 0, .int .i64 0, .int .i64 0, .int .i64 0, .int .i64 0, .int .i64 0, .int .i64 0, .int .i64 0, .int .i64 0, .int .i64 0, .int .i64 0, .int .i64 0, .int .i64 0, .int .i64 0, .int .i64 0, .int .i64 0, .int .i64 0, .int .i64 0, .int .i64 0, .int .i64 0, .int .i64 0, .int .i64 0, .int .i64 0, .int .i64 0]) 26 208 := ⟨by kernel_rfl⟩
instance : ZeroC Try.prog 90 [.int .i64 0, .int .i64 0, .int .i64 0, .int .i64 0, .int .i64 0, .int .i64 0, .int .i64 0, .int .i64 0, .int .i64 0, .int .i64 0, .int .i64 0, .int .i64 0, .int .i64 0, .int .i64 0, .int .i64 0, .int .i64 0, .int .i64 0, .int .i64 0, .int .i64 0, .int .i64 0, .int .i64 0, .int .i64 0, .int .i64 0, .int .i64 0, .int .i64 0, .int .i64 0] := ⟨zeroC_of (z := .agg #[.int .i64 0, .int .i64 0, .int .i64 0, .int .i64 0, .int .i64 0, .int .i64 0, .int .i64 0, .int .i64 0, .int .i64 0, .int .i64 0, .int .i64 0, .int .i64 0, .int .i64 0, .int .i64 0, .int .i64 0, .int .i64 0, .int .i64 0, .int .i64 0, .int .i64 0, .int .i64 0, .int .i64 0, .int .i64 0, .int .i64 0, .int .i64 0, .int .i64 0, .int .i64 0]) (by kernel_rfl) rfl⟩
instance : Parts Try.prog 90 [(0, 12), (12, 12), (24, 1), (25, 1)] := ⟨.inl ⟨_, Try.underlying90, by kernel_rfl, by kernel_rfl⟩⟩
instance : Aggr Try.prog 90 26 := ⟨⟨_, Try.underlying90, rfl⟩, by kernel_rfl⟩
instance : Fld Try.prog 90 0 0 := ⟨fld_of (by kernel_rfl)⟩
instance : Fld Try.prog 90 1 12 := ⟨fld_of (by kernel_rfl)⟩
instance : Fld Try.prog 90 2 24 := ⟨fld_of (by kernel_rfl)⟩
instance : Fld Try.prog 90 3 25 := ⟨fld_of (by kernel_rfl)⟩
instance : Sz Try.prog 93 (.agg #[.int .i64 0, .int .i64 0, .int .i64 0, .int .i64 0, .int .i64 0, .int .i64 0]) 6 48 := ⟨by kernel_rfl⟩
instance : ZeroC Try.prog 93 [.int .i64 0, .int .i64 0, .int .i64 0, .int .i64 0, .int .i64 0, .int .i64 0] := ⟨zeroC_of (z := .agg #[.int .i64 0, .int .i64 0, .int .i64 0, .int .i64 0, .int .i64 0, .int .i64 0]) (by kernel_rfl) rfl⟩
instance : Parts Try.prog 93 [(0, 3), (3, 3)] := ⟨.inl ⟨_, Try.underlying93, by kernel_rfl, by kernel_rfl⟩⟩
instance : Aggr Try.prog 93 6 := ⟨⟨_, Try.underlying93, rfl⟩, by kernel_rfl⟩
instance : Fld Try.prog 93 0 0 := ⟨fld_of (by kernel_rfl)⟩
instance : Fld Try.prog 93 1 3 := ⟨fld_of (by kernel_rfl)⟩
instance : Sz Try.prog 94 (.agg #[.int .i64 0, .int .i64 0, .int .i64 0, .int .i64 0, .int .i64 0, .int .i64 0]) 6 48 := ⟨by kernel_rfl⟩
instance : ZeroC Try.prog 94 [.int .i64 0, .int .i64 0, .int .i64 0, .int .i64 0, .int .i64 0, .int .i64 0] := ⟨zeroC_of (z := .agg #[.int .i64 0, .int .i64 0, .int .i64 0, .int .i64 0, .int .i64 0, .int .i64 0]) (by kernel_rfl) rfl⟩
instance : Parts Try.prog 94 [(0, 3), (3, 3)] := ⟨.inl ⟨_, Try.underlying94, by kernel_rfl, by kernel_rfl⟩⟩
instance : Aggr Try.prog 94 6 := ⟨⟨_, Try.underlying94, rfl⟩, by kernel_rfl⟩
instance : Fld Try.prog 94 0 0 := ⟨fld_of (by kernel_rfl)⟩
instance : Fld Try.prog 94 1 3 := ⟨fld_of (by kernel_rfl)⟩
instance : Sz Try.prog 109 (.nilFunc) 1 8 := ⟨by kernel_rfl⟩
instance : ZeroC Try.prog 109 [.nilFunc] := ⟨zeroC_of (z := .nilFunc) (by kernel_rfl) rfl⟩
instance : Scalar Try.prog 109 := ⟨_, Try.underlying109, rfl⟩
instance : Sz Try.prog 112 (.agg #[.int .i64 0, .string ⟨#[]⟩, .int .i64 0, .slice none 0 0]) 4 56 := ⟨by kernel_rfl⟩
instance : ZeroC Try.prog 112 [.int .i64 0, .string ⟨#[]⟩, .int .i64 0, .slice none 0 0] := ⟨zeroC_of (z := .agg #[.int .i64 0, .string ⟨#[]⟩, .int .i64 0, .slice none 0 0]) (by kernel_rfl) rfl⟩
instance : Parts Try.prog 112 [(0, 1), (1, 1), (2, 1), (3, 1)] := ⟨.inl ⟨_, Try.underlying112, by kernel_rfl, by kernel_rfl⟩⟩
instance : Aggr Try.prog 112 4 := ⟨⟨_, Try.underlying112, rfl⟩, by kernel_rfl⟩
instance : Fld Try.prog 112 0 0 := ⟨fld_of (by kernel_rfl)⟩
instance : Fld Try.prog 112 1 1 := ⟨fld_of (by kernel_rfl)⟩
instance : Fld Try.prog 112 2 2 := ⟨fld_of (by kernel_rfl)⟩
instance : Fld Try.prog 112 3 3 := ⟨fld_of (by kernel_rfl)⟩
instance : Sz Try.prog 113 (.agg #[.int .i64 0, .string ⟨#[]⟩, .int .i64 0, .slice none 0 0]) 4 56 := ⟨by kernel_rfl⟩
instance : ZeroC Try.prog 113 [.int .i64 0, .string ⟨#[]⟩, .int .i64 0, .slice none 0 0] := ⟨zeroC_of (z := .agg #[.int .i64 0, .string ⟨#[]⟩, .int .i64 0, .slice none 0 0]) (by kernel_rfl) rfl⟩
instance : Parts Try.prog 113 [(0, 1), (1, 1), (2, 1), (3, 1)] := ⟨.inl ⟨_, Try.underlying113, by kernel_rfl, by kernel_rfl⟩⟩
instance : Aggr Try.prog 113 4 := ⟨⟨_, Try.underlying113, rfl⟩, by kernel_rfl⟩
instance : Fld Try.prog 113 0 0 := ⟨fld_of (by kernel_rfl)⟩
instance : Fld Try.prog 113 1 1 := ⟨fld_of (by kernel_rfl)⟩
instance : Fld Try.prog 113 2 2 := ⟨fld_of (by kernel_rfl)⟩
instance : Fld Try.prog 113 3 3 := ⟨fld_of (by kernel_rfl)⟩
instance : Sz Try.prog 115 (.agg #[.string ⟨#[]⟩, .int .i64 0]) 2 24 := ⟨by kernel_rfl⟩
instance : ZeroC Try.prog 115 [.string ⟨#[]⟩, .int .i64 0] := ⟨zeroC_of (z := .agg #[.string ⟨#[]⟩, .int .i64 0]) (by kernel_rfl) rfl⟩
instance : Parts Try.prog 115 [(0, 1), (1, 1)] := ⟨.inl ⟨_, Try.underlying115, by kernel_rfl, by kernel_rfl⟩⟩
instance : Aggr Try.prog 115 2 := ⟨⟨_, Try.underlying115, rfl⟩, by kernel_rfl⟩
instance : Fld Try.prog 115 0 0 := ⟨fld_of (by kernel_rfl)⟩
instance : Fld Try.prog 115 1 1 := ⟨fld_of (by kernel_rfl)⟩
instance : Sz Try.prog 116 (.agg #[.string ⟨#[]⟩, .int .i64 0]) 2 24 := ⟨by kernel_rfl⟩
instance : ZeroC Try.prog 116 [.string ⟨#[]⟩, .int .i64 0] := ⟨zeroC_of (z := .agg #[.string ⟨#[]⟩, .int .i64 0]) (by kernel_rfl) rfl⟩
instance : Parts Try.prog 116 [(0, 1), (1, 1)] := ⟨.inl ⟨_, Try.underlying116, by kernel_rfl, by kernel_rfl⟩⟩
instance : Aggr Try.prog 116 2 := ⟨⟨_, Try.underlying116, rfl⟩, by kernel_rfl⟩
instance : Fld Try.prog 116 0 0 := ⟨fld_of (by kernel_rfl)⟩
instance : Fld Try.prog 116 1 1 := ⟨fld_of (by kernel_rfl)⟩
instance : Sz Try.prog 118 (.agg #[.int .i64 0, .string ⟨#[]⟩, .int .i64 0, .slice none 0 0]) 4 56 := ⟨by kernel_rfl⟩
instance : ZeroC Try.prog 118 [.int .i64 0, .string ⟨#[]⟩, .int .i64 0, .slice none 0 0] := ⟨zeroC_of (z := .agg #[.int .i64 0, .string ⟨#[]⟩, .int .i64 0, .slice none 0 0]) (by kernel_rfl) rfl⟩
instance : Parts Try.prog 118 [(0, 1), (1, 1), (2, 1), (3, 1)] := ⟨.inl ⟨_, Try.underlying118, by kernel_rfl, by kernel_rfl⟩⟩
instance : Aggr Try.prog 118 4 := ⟨⟨_, Try.underlying118, rfl⟩, by kernel_rfl⟩
instance : Fld Try.prog 118 0 0 := ⟨fld_of (by kernel_rfl)⟩
instance : Fld Try.prog 118 1 1 := ⟨fld_of (by kernel_rfl)⟩
instance : Fld Try.prog 118 2 2 := ⟨fld_of (by kernel_rfl)⟩
instance : Fld Try.prog 118 3 3 := ⟨fld_of (by kernel_rfl)⟩
instance : Sz Try.prog 120 (.agg #[.string ⟨#[]⟩, .int .i64 0]) 2 24 := ⟨by kernel_rfl⟩
instance : ZeroC Try.prog 120 [.string ⟨#[]⟩, .int .i64 0] := ⟨zeroC_of (z := .agg #[.string ⟨#[]⟩, .int .i64 0]) (by kernel_rfl) rfl⟩
instance : Parts Try.prog 120 [(0, 1), (1, 1)] := ⟨.inl ⟨_, Try.underlying120, by kernel_rfl, by kernel_rfl⟩⟩
instance : Aggr Try.prog 120 2 := ⟨⟨_, Try.underlying120, rfl⟩, by kernel_rfl⟩
instance : Fld Try.prog 120 0 0 := ⟨fld_of (by kernel_rfl)⟩
instance : Fld Try.prog 120 1 1 := ⟨fld_of (by kernel_rfl)⟩
instance : Sz Try.prog 124 (.int .u64 0) 1 8 := ⟨by kernel_rfl⟩
instance : ZeroC Try.prog 124 [.int .u64 0] := ⟨zeroC_of (z := .int .u64 0) (by kernel_rfl) rfl⟩
instance : Scalar Try.prog 124 := ⟨_, Try.underlying124, rfl⟩
instance : Sz Try.prog 128 (.slice none 0 0) 1 24 := ⟨by kernel_rfl⟩
instance : ZeroC Try.prog 128 [.slice none 0 0] := ⟨zeroC_of (z := .slice none 0 0) (by kernel_rfl) rfl⟩
instance : Scalar Try.prog 128 := ⟨_, Try.underlying128, rfl⟩
instance : SliceT Try.prog 128 61 := ⟨Try.underlying128⟩
instance : Sz Try.prog 132 (.slice none 0 0) 1 24 := ⟨by kernel_rfl⟩
instance : ZeroC Try.prog 132 [.slice none 0 0] := ⟨zeroC_of (z := .slice none 0 0) (by kernel_rfl) rfl⟩
instance : Scalar Try.prog 132 := ⟨_, Try.underlying132, rfl⟩
instance : SliceT Try.prog 132 5 := ⟨Try.underlying132⟩
instance : Sz Try.prog 140 (.nilFunc) 1 8 := ⟨by kernel_rfl⟩
instance : ZeroC Try.prog 140 [.nilFunc] := ⟨zeroC_of (z := .nilFunc) (by kernel_rfl) rfl⟩
instance : Scalar Try.prog 140 := ⟨_, Try.underlying140, rfl⟩
end Go.Proofs.Ytaiiiendfcglmaa.St
