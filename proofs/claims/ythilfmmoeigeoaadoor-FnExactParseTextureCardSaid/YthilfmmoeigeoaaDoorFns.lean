/-
  A call of each function of the program that has a body enters it.
-/
import Derived.Test.YthilfmmoeigeoaaDoorStDraw
import Derived.Test.YthilfmmoeigeoaaDoorRows
set_option linter.unusedSimpArgs false
set_option linter.unusedVariables false
namespace Go.Proofs.YthilfmmoeigeoaaDoor.St
theorem mixed : Tryd.prog.follows .mixedOrders = true := by kernel_rfl
theorem en3 : Enters Tryd.prog 3 := enters_of Tryd.func3 (by kernel_rfl) rfl
instance : En Tryd.prog 3 := ⟨en3⟩
theorem en4 : Enters Tryd.prog 4 := enters_of Tryd.func4 (by kernel_rfl) rfl
instance : En Tryd.prog 4 := ⟨en4⟩
theorem en5 : Enters Tryd.prog 5 := enters_of Tryd.func5 (by kernel_rfl) rfl
instance : En Tryd.prog 5 := ⟨en5⟩
theorem en6 : Enters Tryd.prog 6 := enters_of Tryd.func6 (by kernel_rfl) rfl
instance : En Tryd.prog 6 := ⟨en6⟩
theorem en7 : Enters Tryd.prog 7 := enters_of Tryd.func7 (by kernel_rfl) rfl
instance : En Tryd.prog 7 := ⟨en7⟩
theorem en8 : Enters Tryd.prog 8 := enters_of Tryd.func8 (by kernel_rfl) rfl
instance : En Tryd.prog 8 := ⟨en8⟩
theorem en9 : Enters Tryd.prog 9 := enters_of Tryd.func9 (by kernel_rfl) rfl
instance : En Tryd.prog 9 := ⟨en9⟩
theorem en10 : Enters Tryd.prog 10 := enters_of Tryd.func10 (by kernel_rfl) rfl
instance : En Tryd.prog 10 := ⟨en10⟩
theorem en11 : Enters Tryd.prog 11 := enters_of Tryd.func11 (by kernel_rfl) rfl
instance : En Tryd.prog 11 := ⟨en11⟩
theorem en12 : Enters Tryd.prog 12 := enters_of Tryd.func12 (by kernel_rfl) rfl
instance : En Tryd.prog 12 := ⟨en12⟩
theorem en13 : Enters Tryd.prog 13 := enters_of Tryd.func13 (by kernel_rfl) rfl
instance : En Tryd.prog 13 := ⟨en13⟩
theorem en14 : Enters Tryd.prog 14 := enters_of Tryd.func14 (by kernel_rfl) rfl
instance : En Tryd.prog 14 := ⟨en14⟩
theorem en15 : Enters Tryd.prog 15 := enters_of Tryd.func15 (by kernel_rfl) rfl
instance : En Tryd.prog 15 := ⟨en15⟩
theorem en16 : Enters Tryd.prog 16 := enters_of Tryd.func16 (by kernel_rfl) rfl
instance : En Tryd.prog 16 := ⟨en16⟩
theorem en17 : Enters Tryd.prog 17 := enters_of Tryd.func17 (by kernel_rfl) rfl
instance : En Tryd.prog 17 := ⟨en17⟩
theorem en18 : Enters Tryd.prog 18 := enters_of Tryd.func18 (by kernel_rfl) rfl
instance : En Tryd.prog 18 := ⟨en18⟩
theorem en19 : Enters Tryd.prog 19 := enters_of Tryd.func19 (by kernel_rfl) rfl
instance : En Tryd.prog 19 := ⟨en19⟩
theorem en20 : Enters Tryd.prog 20 := enters_of Tryd.func20 (by kernel_rfl) rfl
instance : En Tryd.prog 20 := ⟨en20⟩
theorem en21 : Enters Tryd.prog 21 := enters_of Tryd.func21 (by kernel_rfl) rfl
instance : En Tryd.prog 21 := ⟨en21⟩
theorem en22 : Enters Tryd.prog 22 := enters_of Tryd.func22 (by kernel_rfl) rfl
instance : En Tryd.prog 22 := ⟨en22⟩
theorem en23 : Enters Tryd.prog 23 := enters_of Tryd.func23 (by kernel_rfl) rfl
instance : En Tryd.prog 23 := ⟨en23⟩
theorem en24 : Enters Tryd.prog 24 := enters_of Tryd.func24 (by kernel_rfl) rfl
instance : En Tryd.prog 24 := ⟨en24⟩
theorem en25 : Enters Tryd.prog 25 := enters_of Tryd.func25 (by kernel_rfl) rfl
instance : En Tryd.prog 25 := ⟨en25⟩
theorem en26 : Enters Tryd.prog 26 := enters_of Tryd.func26 (by kernel_rfl) rfl
instance : En Tryd.prog 26 := ⟨en26⟩
theorem en27 : Enters Tryd.prog 27 := enters_of Tryd.func27 (by kernel_rfl) rfl
instance : En Tryd.prog 27 := ⟨en27⟩
theorem en28 : Enters Tryd.prog 28 := enters_of Tryd.func28 (by kernel_rfl) rfl
instance : En Tryd.prog 28 := ⟨en28⟩
theorem en29 : Enters Tryd.prog 29 := enters_of Tryd.func29 (by kernel_rfl) rfl
instance : En Tryd.prog 29 := ⟨en29⟩
theorem en30 : Enters Tryd.prog 30 := enters_of Tryd.func30 (by kernel_rfl) rfl
instance : En Tryd.prog 30 := ⟨en30⟩
theorem en31 : Enters Tryd.prog 31 := enters_of Tryd.func31 (by kernel_rfl) rfl
instance : En Tryd.prog 31 := ⟨en31⟩
theorem en32 : Enters Tryd.prog 32 := enters_of Tryd.func32 (by kernel_rfl) rfl
instance : En Tryd.prog 32 := ⟨en32⟩
theorem en33 : Enters Tryd.prog 33 := enters_of Tryd.func33 (by kernel_rfl) rfl
instance : En Tryd.prog 33 := ⟨en33⟩
theorem en34 : Enters Tryd.prog 34 := enters_of Tryd.func34 (by kernel_rfl) rfl
instance : En Tryd.prog 34 := ⟨en34⟩
theorem en35 : Enters Tryd.prog 35 := enters_of Tryd.func35 (by kernel_rfl) rfl
instance : En Tryd.prog 35 := ⟨en35⟩
theorem en36 : Enters Tryd.prog 36 := enters_of Tryd.func36 (by kernel_rfl) rfl
instance : En Tryd.prog 36 := ⟨en36⟩
theorem en37 : Enters Tryd.prog 37 := enters_of Tryd.func37 (by kernel_rfl) rfl
instance : En Tryd.prog 37 := ⟨en37⟩
theorem en38 : Enters Tryd.prog 38 := enters_of Tryd.func38 (by kernel_rfl) rfl
instance : En Tryd.prog 38 := ⟨en38⟩
theorem en39 : Enters Tryd.prog 39 := enters_of Tryd.func39 (by kernel_rfl) rfl
instance : En Tryd.prog 39 := ⟨en39⟩
theorem en40 : Enters Tryd.prog 40 := enters_of Tryd.func40 (by kernel_rfl) rfl
instance : En Tryd.prog 40 := ⟨en40⟩
theorem en41 : Enters Tryd.prog 41 := enters_of Tryd.func41 (by kernel_rfl) rfl
instance : En Tryd.prog 41 := ⟨en41⟩
theorem en42 : Enters Tryd.prog 42 := enters_of Tryd.func42 (by kernel_rfl) rfl
instance : En Tryd.prog 42 := ⟨en42⟩
theorem en43 : Enters Tryd.prog 43 := enters_of Tryd.func43 (by kernel_rfl) rfl
instance : En Tryd.prog 43 := ⟨en43⟩
theorem en44 : Enters Tryd.prog 44 := enters_of Tryd.func44 (by kernel_rfl) rfl
instance : En Tryd.prog 44 := ⟨en44⟩
theorem en45 : Enters Tryd.prog 45 := enters_of Tryd.func45 (by kernel_rfl) rfl
instance : En Tryd.prog 45 := ⟨en45⟩
theorem en46 : Enters Tryd.prog 46 := enters_of Tryd.func46 (by kernel_rfl) rfl
instance : En Tryd.prog 46 := ⟨en46⟩
theorem en47 : Enters Tryd.prog 47 := enters_of Tryd.func47 (by kernel_rfl) rfl
instance : En Tryd.prog 47 := ⟨en47⟩
theorem en48 : Enters Tryd.prog 48 := enters_of Tryd.func48 (by kernel_rfl) rfl
instance : En Tryd.prog 48 := ⟨en48⟩
theorem en49 : Enters Tryd.prog 49 := enters_of Tryd.func49 (by kernel_rfl) rfl
instance : En Tryd.prog 49 := ⟨en49⟩
theorem en50 : Enters Tryd.prog 50 := enters_of Tryd.func50 (by kernel_rfl) rfl
instance : En Tryd.prog 50 := ⟨en50⟩
theorem en51 : Enters Tryd.prog 51 := enters_of Tryd.func51 (by kernel_rfl) rfl
instance : En Tryd.prog 51 := ⟨en51⟩
theorem en52 : Enters Tryd.prog 52 := enters_of Tryd.func52 (by kernel_rfl) rfl
instance : En Tryd.prog 52 := ⟨en52⟩
theorem en53 : Enters Tryd.prog 53 := enters_of Tryd.func53 (by kernel_rfl) rfl
instance : En Tryd.prog 53 := ⟨en53⟩
theorem en54 : Enters Tryd.prog 54 := enters_of Tryd.func54 (by kernel_rfl) rfl
instance : En Tryd.prog 54 := ⟨en54⟩
theorem en55 : Enters Tryd.prog 55 := enters_of Tryd.func55 (by kernel_rfl) rfl
instance : En Tryd.prog 55 := ⟨en55⟩
theorem en56 : Enters Tryd.prog 56 := enters_of Tryd.func56 (by kernel_rfl) rfl
instance : En Tryd.prog 56 := ⟨en56⟩
theorem en57 : Enters Tryd.prog 57 := enters_of Tryd.func57 (by kernel_rfl) rfl
instance : En Tryd.prog 57 := ⟨en57⟩
theorem en58 : Enters Tryd.prog 58 := enters_of Tryd.func58 (by kernel_rfl) rfl
instance : En Tryd.prog 58 := ⟨en58⟩
theorem en59 : Enters Tryd.prog 59 := enters_of Tryd.func59 (by kernel_rfl) rfl
instance : En Tryd.prog 59 := ⟨en59⟩
theorem en60 : Enters Tryd.prog 60 := enters_of Tryd.func60 (by kernel_rfl) rfl
instance : En Tryd.prog 60 := ⟨en60⟩
theorem en61 : Enters Tryd.prog 61 := enters_of Tryd.func61 (by kernel_rfl) rfl
instance : En Tryd.prog 61 := ⟨en61⟩
theorem en62 : Enters Tryd.prog 62 := enters_of Tryd.func62 (by kernel_rfl) rfl
instance : En Tryd.prog 62 := ⟨en62⟩
theorem en63 : Enters Tryd.prog 63 := enters_of Tryd.func63 (by kernel_rfl) rfl
instance : En Tryd.prog 63 := ⟨en63⟩
theorem en64 : Enters Tryd.prog 64 := enters_of Tryd.func64 (by kernel_rfl) rfl
instance : En Tryd.prog 64 := ⟨en64⟩
theorem en65 : Enters Tryd.prog 65 := enters_of Tryd.func65 (by kernel_rfl) rfl
instance : En Tryd.prog 65 := ⟨en65⟩
theorem en66 : Enters Tryd.prog 66 := enters_of Tryd.func66 (by kernel_rfl) rfl
instance : En Tryd.prog 66 := ⟨en66⟩
theorem en67 : Enters Tryd.prog 67 := enters_of Tryd.func67 (by kernel_rfl) rfl
instance : En Tryd.prog 67 := ⟨en67⟩
theorem en68 : Enters Tryd.prog 68 := enters_of Tryd.func68 (by kernel_rfl) rfl
instance : En Tryd.prog 68 := ⟨en68⟩
theorem en69 : Enters Tryd.prog 69 := enters_of Tryd.func69 (by kernel_rfl) rfl
instance : En Tryd.prog 69 := ⟨en69⟩
theorem en70 : Enters Tryd.prog 70 := enters_of Tryd.func70 (by kernel_rfl) rfl
instance : En Tryd.prog 70 := ⟨en70⟩
theorem en72 : Enters Tryd.prog 72 := enters_of Tryd.func72 (by kernel_rfl) rfl
instance : En Tryd.prog 72 := ⟨en72⟩
theorem en73 : Enters Tryd.prog 73 := enters_of Tryd.func73 (by kernel_rfl) rfl
instance : En Tryd.prog 73 := ⟨en73⟩
theorem en74 : Enters Tryd.prog 74 := enters_of Tryd.func74 (by kernel_rfl) rfl
instance : En Tryd.prog 74 := ⟨en74⟩
theorem en75 : Enters Tryd.prog 75 := enters_of Tryd.func75 (by kernel_rfl) rfl
instance : En Tryd.prog 75 := ⟨en75⟩
theorem en76 : Enters Tryd.prog 76 := enters_of Tryd.func76 (by kernel_rfl) rfl
instance : En Tryd.prog 76 := ⟨en76⟩
theorem en77 : Enters Tryd.prog 77 := enters_of Tryd.func77 (by kernel_rfl) rfl
instance : En Tryd.prog 77 := ⟨en77⟩
theorem en78 : Enters Tryd.prog 78 := enters_of Tryd.func78 (by kernel_rfl) rfl
instance : En Tryd.prog 78 := ⟨en78⟩
theorem en80 : Enters Tryd.prog 80 := enters_of Tryd.func80 (by kernel_rfl) rfl
instance : En Tryd.prog 80 := ⟨en80⟩
theorem en81 : Enters Tryd.prog 81 := enters_of Tryd.func81 (by kernel_rfl) rfl
instance : En Tryd.prog 81 := ⟨en81⟩
theorem en82 : Enters Tryd.prog 82 := enters_of Tryd.func82 (by kernel_rfl) rfl
instance : En Tryd.prog 82 := ⟨en82⟩
theorem en83 : Enters Tryd.prog 83 := enters_of Tryd.func83 (by kernel_rfl) rfl
instance : En Tryd.prog 83 := ⟨en83⟩
theorem en84 : Enters Tryd.prog 84 := enters_of Tryd.func84 (by kernel_rfl) rfl
instance : En Tryd.prog 84 := ⟨en84⟩
theorem en85 : Enters Tryd.prog 85 := enters_of Tryd.func85 (by kernel_rfl) rfl
instance : En Tryd.prog 85 := ⟨en85⟩
theorem en86 : Enters Tryd.prog 86 := enters_of Tryd.func86 (by kernel_rfl) rfl
instance : En Tryd.prog 86 := ⟨en86⟩
theorem en87 : Enters Tryd.prog 87 := enters_of Tryd.func87 (by kernel_rfl) rfl
instance : En Tryd.prog 87 := ⟨en87⟩
theorem en88 : Enters Tryd.prog 88 := enters_of Tryd.func88 (by kernel_rfl) rfl
instance : En Tryd.prog 88 := ⟨en88⟩
theorem en89 : Enters Tryd.prog 89 := enters_of Tryd.func89 (by kernel_rfl) rfl
instance : En Tryd.prog 89 := ⟨en89⟩
theorem en90 : Enters Tryd.prog 90 := enters_of Tryd.func90 (by kernel_rfl) rfl
instance : En Tryd.prog 90 := ⟨en90⟩
theorem en91 : Enters Tryd.prog 91 := enters_of Tryd.func91 (by kernel_rfl) rfl
instance : En Tryd.prog 91 := ⟨en91⟩
theorem en93 : Enters Tryd.prog 93 := enters_of Tryd.func93 (by kernel_rfl) rfl
instance : En Tryd.prog 93 := ⟨en93⟩
theorem en94 : Enters Tryd.prog 94 := enters_of Tryd.func94 (by kernel_rfl) rfl
instance : En Tryd.prog 94 := ⟨en94⟩
theorem en95 : Enters Tryd.prog 95 := enters_of Tryd.func95 (by kernel_rfl) rfl
instance : En Tryd.prog 95 := ⟨en95⟩
theorem en96 : Enters Tryd.prog 96 := enters_of Tryd.func96 (by kernel_rfl) rfl
instance : En Tryd.prog 96 := ⟨en96⟩
theorem en97 : Enters Tryd.prog 97 := enters_of Tryd.func97 (by kernel_rfl) rfl
instance : En Tryd.prog 97 := ⟨en97⟩
theorem en98 : Enters Tryd.prog 98 := enters_of Tryd.func98 (by kernel_rfl) rfl
instance : En Tryd.prog 98 := ⟨en98⟩
theorem en99 : Enters Tryd.prog 99 := enters_of Tryd.func99 (by kernel_rfl) rfl
instance : En Tryd.prog 99 := ⟨en99⟩
theorem en100 : Enters Tryd.prog 100 := enters_of Tryd.func100 (by kernel_rfl) rfl
instance : En Tryd.prog 100 := ⟨en100⟩
theorem en101 : Enters Tryd.prog 101 := enters_of Tryd.func101 (by kernel_rfl) rfl
instance : En Tryd.prog 101 := ⟨en101⟩
theorem en102 : Enters Tryd.prog 102 := enters_of Tryd.func102 (by kernel_rfl) rfl
instance : En Tryd.prog 102 := ⟨en102⟩
theorem en103 : Enters Tryd.prog 103 := enters_of Tryd.func103 (by kernel_rfl) rfl
instance : En Tryd.prog 103 := ⟨en103⟩
theorem en104 : Enters Tryd.prog 104 := enters_of Tryd.func104 (by kernel_rfl) rfl
instance : En Tryd.prog 104 := ⟨en104⟩
theorem en105 : Enters Tryd.prog 105 := enters_of Tryd.func105 (by kernel_rfl) rfl
instance : En Tryd.prog 105 := ⟨en105⟩
theorem en106 : Enters Tryd.prog 106 := enters_of Tryd.func106 (by kernel_rfl) rfl
instance : En Tryd.prog 106 := ⟨en106⟩
theorem en136 : Enters Tryd.prog 136 := enters_of Tryd.func136 (by kernel_rfl) rfl
instance : En Tryd.prog 136 := ⟨en136⟩
instance : Sz Tryd.prog 1 (.nilFunc) 1 8 := ⟨by kernel_rfl⟩
instance : ZeroC Tryd.prog 1 [.nilFunc] := ⟨zeroC_of (z := .nilFunc) (by kernel_rfl) rfl⟩
instance : Scalar Tryd.prog 1 := ⟨_, Tryd.underlying1, rfl⟩
instance : Sz Tryd.prog 2 (.int .i64 0) 1 8 := ⟨by kernel_rfl⟩
instance : ZeroC Tryd.prog 2 [.int .i64 0] := ⟨zeroC_of (z := .int .i64 0) (by kernel_rfl) rfl⟩
instance : Scalar Tryd.prog 2 := ⟨_, Tryd.underlying2, rfl⟩
instance : Sz Tryd.prog 3 (.int .i64 0) 1 8 := ⟨by kernel_rfl⟩
instance : ZeroC Tryd.prog 3 [.int .i64 0] := ⟨zeroC_of (z := .int .i64 0) (by kernel_rfl) rfl⟩
instance : Scalar Tryd.prog 3 := ⟨_, Tryd.underlying3, rfl⟩
instance : Sz Tryd.prog 4 (.bool false) 1 1 := ⟨by kernel_rfl⟩
instance : ZeroC Tryd.prog 4 [.bool false] := ⟨zeroC_of (z := .bool false) (by kernel_rfl) rfl⟩
instance : Scalar Tryd.prog 4 := ⟨_, Tryd.underlying4, rfl⟩
instance : BoolT Tryd.prog 4 := ⟨Tryd.underlying4⟩
instance : Sz Tryd.prog 5 (.int .u8 0) 1 1 := ⟨by kernel_rfl⟩
instance : ZeroC Tryd.prog 5 [.int .u8 0] := ⟨zeroC_of (z := .int .u8 0) (by kernel_rfl) rfl⟩
instance : Scalar Tryd.prog 5 := ⟨_, Tryd.underlying5, rfl⟩
instance : Sz Tryd.prog 6 (.int .u8 0) 1 1 := ⟨by kernel_rfl⟩
instance : ZeroC Tryd.prog 6 [.int .u8 0] := ⟨zeroC_of (z := .int .u8 0) (by kernel_rfl) rfl⟩
instance : Scalar Tryd.prog 6 := ⟨_, Tryd.underlying6, rfl⟩
instance : Sz Tryd.prog 7 (.agg #[.int .i64 0, .int .i64 0, .bool false, .int .u8 0]) 4 24 := ⟨by kernel_rfl⟩
instance : ZeroC Tryd.prog 7 [.int .i64 0, .int .i64 0, .bool false, .int .u8 0] := ⟨zeroC_of (z := .agg #[.int .i64 0, .int .i64 0, .bool false, .int .u8 0]) (by kernel_rfl) rfl⟩
instance : Parts Tryd.prog 7 [(0, 1), (1, 1), (2, 1), (3, 1)] := ⟨.inl ⟨_, Tryd.underlying7, by kernel_rfl, by kernel_rfl⟩⟩
instance : Aggr Tryd.prog 7 4 := ⟨⟨_, Tryd.underlying7, rfl⟩, by kernel_rfl⟩
instance : Fld Tryd.prog 7 0 0 := ⟨fld_of (by kernel_rfl)⟩
instance : Fld Tryd.prog 7 1 1 := ⟨fld_of (by kernel_rfl)⟩
instance : Fld Tryd.prog 7 2 2 := ⟨fld_of (by kernel_rfl)⟩
instance : Fld Tryd.prog 7 3 3 := ⟨fld_of (by kernel_rfl)⟩
instance : Sz Tryd.prog 8 (.agg #[.int .i64 0, .int .i64 0, .bool false, .int .u8 0]) 4 24 := ⟨by kernel_rfl⟩
instance : ZeroC Tryd.prog 8 [.int .i64 0, .int .i64 0, .bool false, .int .u8 0] := ⟨zeroC_of (z := .agg #[.int .i64 0, .int .i64 0, .bool false, .int .u8 0]) (by kernel_rfl) rfl⟩
instance : Parts Tryd.prog 8 [(0, 1), (1, 1), (2, 1), (3, 1)] := ⟨.inl ⟨_, Tryd.underlying8, by kernel_rfl, by kernel_rfl⟩⟩
instance : Aggr Tryd.prog 8 4 := ⟨⟨_, Tryd.underlying8, rfl⟩, by kernel_rfl⟩
instance : Fld Tryd.prog 8 0 0 := ⟨fld_of (by kernel_rfl)⟩
instance : Fld Tryd.prog 8 1 1 := ⟨fld_of (by kernel_rfl)⟩
instance : Fld Tryd.prog 8 2 2 := ⟨fld_of (by kernel_rfl)⟩
instance : Fld Tryd.prog 8 3 3 := ⟨fld_of (by kernel_rfl)⟩
instance : Sz Tryd.prog 9 (.string ⟨#[]⟩) 1 16 := ⟨by kernel_rfl⟩
instance : ZeroC Tryd.prog 9 [.string ⟨#[]⟩] := ⟨zeroC_of (z := .string ⟨#[]⟩) (by kernel_rfl) rfl⟩
instance : Scalar Tryd.prog 9 := ⟨_, Tryd.underlying9, rfl⟩
instance : StrT Tryd.prog 9 := ⟨Tryd.underlying9⟩
instance : Sz Tryd.prog 10 (.string ⟨#[]⟩) 1 16 := ⟨by kernel_rfl⟩
instance : ZeroC Tryd.prog 10 [.string ⟨#[]⟩] := ⟨zeroC_of (z := .string ⟨#[]⟩) (by kernel_rfl) rfl⟩
instance : Scalar Tryd.prog 10 := ⟨_, Tryd.underlying10, rfl⟩
instance : StrT Tryd.prog 10 := ⟨Tryd.underlying10⟩
instance : Sz Tryd.prog 11 (.string ⟨#[]⟩) 1 16 := ⟨by kernel_rfl⟩
instance : ZeroC Tryd.prog 11 [.string ⟨#[]⟩] := ⟨zeroC_of (z := .string ⟨#[]⟩) (by kernel_rfl) rfl⟩
instance : Scalar Tryd.prog 11 := ⟨_, Tryd.underlying11, rfl⟩
instance : StrT Tryd.prog 11 := ⟨Tryd.underlying11⟩
instance : Sz Tryd.prog 12 (.int .u64 0) 1 8 := ⟨by kernel_rfl⟩
instance : ZeroC Tryd.prog 12 [.int .u64 0] := ⟨zeroC_of (z := .int .u64 0) (by kernel_rfl) rfl⟩
instance : Scalar Tryd.prog 12 := ⟨_, Tryd.underlying12, rfl⟩
instance : Sz Tryd.prog 13 (.agg #[.string ⟨#[]⟩, .int .u64 0]) 2 24 := ⟨by kernel_rfl⟩
instance : ZeroC Tryd.prog 13 [.string ⟨#[]⟩, .int .u64 0] := ⟨zeroC_of (z := .agg #[.string ⟨#[]⟩, .int .u64 0]) (by kernel_rfl) rfl⟩
instance : Parts Tryd.prog 13 [(0, 1), (1, 1)] := ⟨.inl ⟨_, Tryd.underlying13, by kernel_rfl, by kernel_rfl⟩⟩
instance : Aggr Tryd.prog 13 2 := ⟨⟨_, Tryd.underlying13, rfl⟩, by kernel_rfl⟩
instance : Fld Tryd.prog 13 0 0 := ⟨fld_of (by kernel_rfl)⟩
instance : Fld Tryd.prog 13 1 1 := ⟨fld_of (by kernel_rfl)⟩
instance : Sz Tryd.prog 17 (.pointer none) 1 8 := ⟨by kernel_rfl⟩
instance : ZeroC Tryd.prog 17 [.pointer none] := ⟨zeroC_of (z := .pointer none) (by kernel_rfl) rfl⟩
instance : Scalar Tryd.prog 17 := ⟨_, Tryd.underlying17, rfl⟩
instance : Sz Tryd.prog 18 (.agg #[.pointer none]) 1 8 := ⟨by kernel_rfl⟩
instance : ZeroC Tryd.prog 18 [.pointer none] := ⟨zeroC_of (z := .agg #[.pointer none]) (by kernel_rfl) rfl⟩
instance : Parts Tryd.prog 18 [(0, 1)] := ⟨.inl ⟨_, Tryd.underlying18, by kernel_rfl, by kernel_rfl⟩⟩
instance : Aggr Tryd.prog 18 1 := ⟨⟨_, Tryd.underlying18, rfl⟩, by kernel_rfl⟩
instance : Fld Tryd.prog 18 0 0 := ⟨fld_of (by kernel_rfl)⟩
instance : Sz Tryd.prog 19 (.agg #[.pointer none]) 1 8 := ⟨by kernel_rfl⟩
instance : ZeroC Tryd.prog 19 [.pointer none] := ⟨zeroC_of (z := .agg #[.pointer none]) (by kernel_rfl) rfl⟩
instance : Parts Tryd.prog 19 [(0, 1)] := ⟨.inl ⟨_, Tryd.underlying19, by kernel_rfl, by kernel_rfl⟩⟩
instance : Aggr Tryd.prog 19 1 := ⟨⟨_, Tryd.underlying19, rfl⟩, by kernel_rfl⟩
instance : Fld Tryd.prog 19 0 0 := ⟨fld_of (by kernel_rfl)⟩
instance : Sz Tryd.prog 20 (.nilIface) 1 16 := ⟨by kernel_rfl⟩
instance : ZeroC Tryd.prog 20 [.nilIface] := ⟨zeroC_of (z := .nilIface) (by kernel_rfl) rfl⟩
instance : Scalar Tryd.prog 20 := ⟨_, Tryd.underlying20, rfl⟩
instance : Sz Tryd.prog 21 (.int .i32 0) 1 4 := ⟨by kernel_rfl⟩
instance : ZeroC Tryd.prog 21 [.int .i32 0] := ⟨zeroC_of (z := .int .i32 0) (by kernel_rfl) rfl⟩
instance : Scalar Tryd.prog 21 := ⟨_, Tryd.underlying21, rfl⟩
instance : Sz Tryd.prog 22 (.slice none 0 0) 1 24 := ⟨by kernel_rfl⟩
instance : ZeroC Tryd.prog 22 [.slice none 0 0] := ⟨zeroC_of (z := .slice none 0 0) (by kernel_rfl) rfl⟩
instance : Scalar Tryd.prog 22 := ⟨_, Tryd.underlying22, rfl⟩
instance : SliceT Tryd.prog 22 3 := ⟨Tryd.underlying22⟩
instance : Sz Tryd.prog 23 (.agg #[.int .i64 0, .slice none 0 0]) 2 32 := ⟨by kernel_rfl⟩
instance : ZeroC Tryd.prog 23 [.int .i64 0, .slice none 0 0] := ⟨zeroC_of (z := .agg #[.int .i64 0, .slice none 0 0]) (by kernel_rfl) rfl⟩
instance : Parts Tryd.prog 23 [(0, 1), (1, 1)] := ⟨.inl ⟨_, Tryd.underlying23, by kernel_rfl, by kernel_rfl⟩⟩
instance : Aggr Tryd.prog 23 2 := ⟨⟨_, Tryd.underlying23, rfl⟩, by kernel_rfl⟩
instance : Fld Tryd.prog 23 0 0 := ⟨fld_of (by kernel_rfl)⟩
instance : Fld Tryd.prog 23 1 1 := ⟨fld_of (by kernel_rfl)⟩
instance : Sz Tryd.prog 24 (.agg #[.int .i64 0, .slice none 0 0]) 2 32 := ⟨by kernel_rfl⟩
instance : ZeroC Tryd.prog 24 [.int .i64 0, .slice none 0 0] := ⟨zeroC_of (z := .agg #[.int .i64 0, .slice none 0 0]) (by kernel_rfl) rfl⟩
instance : Parts Tryd.prog 24 [(0, 1), (1, 1)] := ⟨.inl ⟨_, Tryd.underlying24, by kernel_rfl, by kernel_rfl⟩⟩
instance : Aggr Tryd.prog 24 2 := ⟨⟨_, Tryd.underlying24, rfl⟩, by kernel_rfl⟩
instance : Fld Tryd.prog 24 0 0 := ⟨fld_of (by kernel_rfl)⟩
instance : Fld Tryd.prog 24 1 1 := ⟨fld_of (by kernel_rfl)⟩
instance : Sz Tryd.prog 27 (.agg #[.int .i64 0, .slice none 0 0]) 2 32 := ⟨by kernel_rfl⟩
instance : ZeroC Tryd.prog 27 [.int .i64 0, .slice none 0 0] := ⟨zeroC_of (z := .agg #[.int .i64 0, .slice none 0 0]) (by kernel_rfl) rfl⟩
instance : Parts Tryd.prog 27 [(0, 1), (1, 1)] := ⟨.inl ⟨_, Tryd.underlying27, by kernel_rfl, by kernel_rfl⟩⟩
instance : Aggr Tryd.prog 27 2 := ⟨⟨_, Tryd.underlying27, rfl⟩, by kernel_rfl⟩
instance : Fld Tryd.prog 27 0 0 := ⟨fld_of (by kernel_rfl)⟩
instance : Fld Tryd.prog 27 1 1 := ⟨fld_of (by kernel_rfl)⟩
instance : Sz Tryd.prog 31 (.slice none 0 0) 1 24 := ⟨by kernel_rfl⟩
instance : ZeroC Tryd.prog 31 [.slice none 0 0] := ⟨zeroC_of (z := .slice none 0 0) (by kernel_rfl) rfl⟩
instance : Scalar Tryd.prog 31 := ⟨_, Tryd.underlying31, rfl⟩
instance : SliceT Tryd.prog 31 83 := ⟨Tryd.underlying31⟩
instance : Sz Tryd.prog 32 (.slice none 0 0) 1 24 := ⟨by kernel_rfl⟩
instance : ZeroC Tryd.prog 32 [.slice none 0 0] := ⟨zeroC_of (z := .slice none 0 0) (by kernel_rfl) rfl⟩
instance : Scalar Tryd.prog 32 := ⟨_, Tryd.underlying32, rfl⟩
instance : SliceT Tryd.prog 32 9 := ⟨Tryd.underlying32⟩
instance : Sz Tryd.prog 33 (.agg #[.slice none 0 0, .slice none 0 0]) 2 48 := ⟨by kernel_rfl⟩
instance : ZeroC Tryd.prog 33 [.slice none 0 0, .slice none 0 0] := ⟨zeroC_of (z := .agg #[.slice none 0 0, .slice none 0 0]) (by kernel_rfl) rfl⟩
instance : Parts Tryd.prog 33 [(0, 1), (1, 1)] := ⟨.inl ⟨_, Tryd.underlying33, by kernel_rfl, by kernel_rfl⟩⟩
instance : Aggr Tryd.prog 33 2 := ⟨⟨_, Tryd.underlying33, rfl⟩, by kernel_rfl⟩
instance : Fld Tryd.prog 33 0 0 := ⟨fld_of (by kernel_rfl)⟩
instance : Fld Tryd.prog 33 1 1 := ⟨fld_of (by kernel_rfl)⟩
instance : Sz Tryd.prog 34 (.agg #[.slice none 0 0, .slice none 0 0]) 2 48 := ⟨by kernel_rfl⟩
instance : ZeroC Tryd.prog 34 [.slice none 0 0, .slice none 0 0] := ⟨zeroC_of (z := .agg #[.slice none 0 0, .slice none 0 0]) (by kernel_rfl) rfl⟩
instance : Parts Tryd.prog 34 [(0, 1), (1, 1)] := ⟨.inl ⟨_, Tryd.underlying34, by kernel_rfl, by kernel_rfl⟩⟩
instance : Aggr Tryd.prog 34 2 := ⟨⟨_, Tryd.underlying34, rfl⟩, by kernel_rfl⟩
instance : Fld Tryd.prog 34 0 0 := ⟨fld_of (by kernel_rfl)⟩
instance : Fld Tryd.prog 34 1 1 := ⟨fld_of (by kernel_rfl)⟩
instance : Sz Tryd.prog 37 (.slice none 0 0) 1 24 := ⟨by kernel_rfl⟩
instance : ZeroC Tryd.prog 37 [.slice none 0 0] := ⟨zeroC_of (z := .slice none 0 0) (by kernel_rfl) rfl⟩
instance : Scalar Tryd.prog 37 := ⟨_, Tryd.underlying37, rfl⟩
instance : SliceT Tryd.prog 37 58 := ⟨Tryd.underlying37⟩
instance : Sz Tryd.prog 38 (.agg #[.slice none 0 0, .slice none 0 0]) 2 48 := ⟨by kernel_rfl⟩
instance : ZeroC Tryd.prog 38 [.slice none 0 0, .slice none 0 0] := ⟨zeroC_of (z := .agg #[.slice none 0 0, .slice none 0 0]) (by kernel_rfl) rfl⟩
instance : Parts Tryd.prog 38 [(0, 1), (1, 1)] := ⟨.inl ⟨_, Tryd.underlying38, by kernel_rfl, by kernel_rfl⟩⟩
instance : Aggr Tryd.prog 38 2 := ⟨⟨_, Tryd.underlying38, rfl⟩, by kernel_rfl⟩
instance : Fld Tryd.prog 38 0 0 := ⟨fld_of (by kernel_rfl)⟩
instance : Fld Tryd.prog 38 1 1 := ⟨fld_of (by kernel_rfl)⟩
instance : Sz Tryd.prog 39 (.agg #[.slice none 0 0, .slice none 0 0]) 2 48 := ⟨by kernel_rfl⟩
instance : ZeroC Tryd.prog 39 [.slice none 0 0, .slice none 0 0] := ⟨zeroC_of (z := .agg #[.slice none 0 0, .slice none 0 0]) (by kernel_rfl) rfl⟩
instance : Parts Tryd.prog 39 [(0, 1), (1, 1)] := ⟨.inl ⟨_, Tryd.underlying39, by kernel_rfl, by kernel_rfl⟩⟩
instance : Aggr Tryd.prog 39 2 := ⟨⟨_, Tryd.underlying39, rfl⟩, by kernel_rfl⟩
instance : Fld Tryd.prog 39 0 0 := ⟨fld_of (by kernel_rfl)⟩
instance : Fld Tryd.prog 39 1 1 := ⟨fld_of (by kernel_rfl)⟩
instance : Sz Tryd.prog 44 (.nilFunc) 1 8 := ⟨by kernel_rfl⟩
instance : ZeroC Tryd.prog 44 [.nilFunc] := ⟨zeroC_of (z := .nilFunc) (by kernel_rfl) rfl⟩
instance : Scalar Tryd.prog 44 := ⟨_, Tryd.underlying44, rfl⟩
instance : Sz Tryd.prog 45 (.nilFunc) 1 8 := ⟨by kernel_rfl⟩
instance : ZeroC Tryd.prog 45 [.nilFunc] := ⟨zeroC_of (z := .nilFunc) (by kernel_rfl) rfl⟩
instance : Scalar Tryd.prog 45 := ⟨_, Tryd.underlying45, rfl⟩
instance : Sz Tryd.prog 46 (.nilFunc) 1 8 := ⟨by kernel_rfl⟩
instance : ZeroC Tryd.prog 46 [.nilFunc] := ⟨zeroC_of (z := .nilFunc) (by kernel_rfl) rfl⟩
instance : Scalar Tryd.prog 46 := ⟨_, Tryd.underlying46, rfl⟩
instance : Sz Tryd.prog 47 (.nilFunc) 1 8 := ⟨by kernel_rfl⟩
instance : ZeroC Tryd.prog 47 [.nilFunc] := ⟨zeroC_of (z := .nilFunc) (by kernel_rfl) rfl⟩
instance : Scalar Tryd.prog 47 := ⟨_, Tryd.underlying47, rfl⟩
instance : Sz Tryd.prog 48 (.nilFunc) 1 8 := ⟨by kernel_rfl⟩
instance : ZeroC Tryd.prog 48 [.nilFunc] := ⟨zeroC_of (z := .nilFunc) (by kernel_rfl) rfl⟩
instance : Scalar Tryd.prog 48 := ⟨_, Tryd.underlying48, rfl⟩
instance : Sz Tryd.prog 49 (.nilFunc) 1 8 := ⟨by kernel_rfl⟩
instance : ZeroC Tryd.prog 49 [.nilFunc] := ⟨zeroC_of (z := .nilFunc) (by kernel_rfl) rfl⟩
instance : Scalar Tryd.prog 49 := ⟨_, Tryd.underlying49, rfl⟩
instance : Sz Tryd.prog 50 (.nilFunc) 1 8 := ⟨by kernel_rfl⟩
instance : ZeroC Tryd.prog 50 [.nilFunc] := ⟨zeroC_of (z := .nilFunc) (by kernel_rfl) rfl⟩
instance : Scalar Tryd.prog 50 := ⟨_, Tryd.underlying50, rfl⟩
instance : Sz Tryd.prog 51 (.nilFunc) 1 8 := ⟨by kernel_rfl⟩
instance : ZeroC Tryd.prog 51 [.nilFunc] := ⟨zeroC_of (z := .nilFunc) (by kernel_rfl) rfl⟩
instance : Scalar Tryd.prog 51 := ⟨_, Tryd.underlying51, rfl⟩
instance : Sz Tryd.prog 52 (.nilFunc) 1 8 := ⟨by kernel_rfl⟩
instance : ZeroC Tryd.prog 52 [.nilFunc] := ⟨zeroC_of (z := .nilFunc) (by kernel_rfl) rfl⟩
instance : Scalar Tryd.prog 52 := ⟨_, Tryd.underlying52, rfl⟩
instance : Sz Tryd.prog 53 (.nilFunc) 1 8 := ⟨by kernel_rfl⟩
instance : ZeroC Tryd.prog 53 [.nilFunc] := ⟨zeroC_of (z := .nilFunc) (by kernel_rfl) rfl⟩
instance : Scalar Tryd.prog 53 := ⟨_, Tryd.underlying53, rfl⟩
instance : Sz Tryd.prog 54 (.nilFunc) 1 8 := ⟨by kernel_rfl⟩
instance : ZeroC Tryd.prog 54 [.nilFunc] := ⟨zeroC_of (z := .nilFunc) (by kernel_rfl) rfl⟩
instance : Scalar Tryd.prog 54 := ⟨_, Tryd.underlying54, rfl⟩
instance : Sz Tryd.prog 56 (.nilFunc) 1 8 := ⟨by kernel_rfl⟩
instance : ZeroC Tryd.prog 56 [.nilFunc] := ⟨zeroC_of (z := .nilFunc) (by kernel_rfl) rfl⟩
instance : Scalar Tryd.prog 56 := ⟨_, Tryd.underlying56, rfl⟩
instance : Sz Tryd.prog 57 (.agg #[.int .i64 0, .string ⟨#[]⟩, .int .i64 0]) 3 32 := ⟨by kernel_rfl⟩
instance : ZeroC Tryd.prog 57 [.int .i64 0, .string ⟨#[]⟩, .int .i64 0] := ⟨zeroC_of (z := .agg #[.int .i64 0, .string ⟨#[]⟩, .int .i64 0]) (by kernel_rfl) rfl⟩
instance : Parts Tryd.prog 57 [(0, 1), (1, 1), (2, 1)] := ⟨.inl ⟨_, Tryd.underlying57, by kernel_rfl, by kernel_rfl⟩⟩
instance : Aggr Tryd.prog 57 3 := ⟨⟨_, Tryd.underlying57, rfl⟩, by kernel_rfl⟩
instance : Fld Tryd.prog 57 0 0 := ⟨fld_of (by kernel_rfl)⟩
instance : Fld Tryd.prog 57 1 1 := ⟨fld_of (by kernel_rfl)⟩
instance : Fld Tryd.prog 57 2 2 := ⟨fld_of (by kernel_rfl)⟩
instance : Sz Tryd.prog 58 (.agg #[.int .i64 0, .string ⟨#[]⟩, .int .i64 0]) 3 32 := ⟨by kernel_rfl⟩
instance : ZeroC Tryd.prog 58 [.int .i64 0, .string ⟨#[]⟩, .int .i64 0] := ⟨zeroC_of (z := .agg #[.int .i64 0, .string ⟨#[]⟩, .int .i64 0]) (by kernel_rfl) rfl⟩
instance : Parts Tryd.prog 58 [(0, 1), (1, 1), (2, 1)] := ⟨.inl ⟨_, Tryd.underlying58, by kernel_rfl, by kernel_rfl⟩⟩
instance : Aggr Tryd.prog 58 3 := ⟨⟨_, Tryd.underlying58, rfl⟩, by kernel_rfl⟩
instance : Fld Tryd.prog 58 0 0 := ⟨fld_of (by kernel_rfl)⟩
instance : Fld Tryd.prog 58 1 1 := ⟨fld_of (by kernel_rfl)⟩
instance : Fld Tryd.prog 58 2 2 := ⟨fld_of (by kernel_rfl)⟩
instance : Sz Tryd.prog 61 (.pointer none) 1 8 := ⟨by kernel_rfl⟩
instance : ZeroC Tryd.prog 61 [.pointer none] := ⟨zeroC_of (z := .pointer none) (by kernel_rfl) rfl⟩
instance : Scalar Tryd.prog 61 := ⟨_, Tryd.underlying61, rfl⟩
instance : Sz Tryd.prog 62 (.slice none 0 0) 1 24 := ⟨by kernel_rfl⟩
instance : ZeroC Tryd.prog 62 [.slice none 0 0] := ⟨zeroC_of (z := .slice none 0 0) (by kernel_rfl) rfl⟩
instance : Scalar Tryd.prog 62 := ⟨_, Tryd.underlying62, rfl⟩
instance : SliceT Tryd.prog 62 5 := ⟨Tryd.underlying62⟩
instance : Sz Tryd.prog 63 (.agg #[.pointer none, .slice none 0 0]) 2 32 := ⟨by kernel_rfl⟩
instance : ZeroC Tryd.prog 63 [.pointer none, .slice none 0 0] := ⟨zeroC_of (z := .agg #[.pointer none, .slice none 0 0]) (by kernel_rfl) rfl⟩
instance : Parts Tryd.prog 63 [(0, 1), (1, 1)] := ⟨.inl ⟨_, Tryd.underlying63, by kernel_rfl, by kernel_rfl⟩⟩
instance : Aggr Tryd.prog 63 2 := ⟨⟨_, Tryd.underlying63, rfl⟩, by kernel_rfl⟩
instance : Fld Tryd.prog 63 0 0 := ⟨fld_of (by kernel_rfl)⟩
instance : Fld Tryd.prog 63 1 1 := ⟨fld_of (by kernel_rfl)⟩
instance : Sz Tryd.prog 64 (.agg #[.pointer none, .slice none 0 0]) 2 32 := ⟨by kernel_rfl⟩
instance : ZeroC Tryd.prog 64 [.pointer none, .slice none 0 0] := ⟨zeroC_of (z := .agg #[.pointer none, .slice none 0 0]) (by kernel_rfl) rfl⟩
instance : Parts Tryd.prog 64 [(0, 1), (1, 1)] := ⟨.inl ⟨_, Tryd.underlying64, by kernel_rfl, by kernel_rfl⟩⟩
instance : Aggr Tryd.prog 64 2 := ⟨⟨_, Tryd.underlying64, rfl⟩, by kernel_rfl⟩
instance : Fld Tryd.prog 64 0 0 := ⟨fld_of (by kernel_rfl)⟩
instance : Fld Tryd.prog 64 1 1 := ⟨fld_of (by kernel_rfl)⟩
instance : Sz Tryd.prog 65 (.nilIface) 1 16 := ⟨by kernel_rfl⟩
instance : ZeroC Tryd.prog 65 [.nilIface] := ⟨zeroC_of (z := .nilIface) (by kernel_rfl) rfl⟩
instance : Scalar Tryd.prog 65 := ⟨_, Tryd.underlying65, rfl⟩
instance : Sz Tryd.prog 66 (.nilIface) 1 16 := ⟨by kernel_rfl⟩
instance : ZeroC Tryd.prog 66 [.nilIface] := ⟨zeroC_of (z := .nilIface) (by kernel_rfl) rfl⟩
instance : Scalar Tryd.prog 66 := ⟨_, Tryd.underlying66, rfl⟩
instance : Sz Tryd.prog 70 (.nilFunc) 1 8 := ⟨by kernel_rfl⟩
instance : ZeroC Tryd.prog 70 [.nilFunc] := ⟨zeroC_of (z := .nilFunc) (by kernel_rfl) rfl⟩
instance : Scalar Tryd.prog 70 := ⟨_, Tryd.underlying70, rfl⟩
instance : Sz Tryd.prog 71 (.nilFunc) 1 8 := ⟨by kernel_rfl⟩
instance : ZeroC Tryd.prog 71 [.nilFunc] := ⟨zeroC_of (z := .nilFunc) (by kernel_rfl) rfl⟩
instance : Scalar Tryd.prog 71 := ⟨_, Tryd.underlying71, rfl⟩
instance : Sz Tryd.prog 73 (.nilFunc) 1 8 := ⟨by kernel_rfl⟩
instance : ZeroC Tryd.prog 73 [.nilFunc] := ⟨zeroC_of (z := .nilFunc) (by kernel_rfl) rfl⟩
instance : Scalar Tryd.prog 73 := ⟨_, Tryd.underlying73, rfl⟩
instance : Sz Tryd.prog 83 (.agg #[.int .i64 0, .string ⟨#[]⟩, .int .i64 0]) 3 32 := ⟨by kernel_rfl⟩
instance : ZeroC Tryd.prog 83 [.int .i64 0, .string ⟨#[]⟩, .int .i64 0] := ⟨zeroC_of (z := .agg #[.int .i64 0, .string ⟨#[]⟩, .int .i64 0]) (by kernel_rfl) rfl⟩
instance : Parts Tryd.prog 83 [(0, 1), (1, 1), (2, 1)] := ⟨.inl ⟨_, Tryd.underlying83, by kernel_rfl, by kernel_rfl⟩⟩
instance : Aggr Tryd.prog 83 3 := ⟨⟨_, Tryd.underlying83, rfl⟩, by kernel_rfl⟩
instance : Fld Tryd.prog 83 0 0 := ⟨fld_of (by kernel_rfl)⟩
instance : Fld Tryd.prog 83 1 1 := ⟨fld_of (by kernel_rfl)⟩
instance : Fld Tryd.prog 83 2 2 := ⟨fld_of (by kernel_rfl)⟩
instance : Sz Tryd.prog 84 (.slice none 0 0) 1 24 := ⟨by kernel_rfl⟩
instance : ZeroC Tryd.prog 84 [.slice none 0 0] := ⟨zeroC_of (z := .slice none 0 0) (by kernel_rfl) rfl⟩
instance : Scalar Tryd.prog 84 := ⟨_, Tryd.underlying84, rfl⟩
instance : SliceT Tryd.prog 84 4 := ⟨Tryd.underlying84⟩
instance : Sz Tryd.prog 92 (.pointer none) 1 8 := ⟨by kernel_rfl⟩
instance : ZeroC Tryd.prog 92 [.pointer none] := ⟨zeroC_of (z := .pointer none) (by kernel_rfl) rfl⟩
instance : Scalar Tryd.prog 92 := ⟨_, Tryd.underlying92, rfl⟩
instance : Sz Tryd.prog 96 (.pointer none) 1 8 := ⟨by kernel_rfl⟩
instance : ZeroC Tryd.prog 96 [.pointer none] := ⟨zeroC_of (z := .pointer none) (by kernel_rfl) rfl⟩
instance : Scalar Tryd.prog 96 := ⟨_, Tryd.underlying96, rfl⟩
instance : Sz Tryd.prog 97 (.nilFunc) 1 8 := ⟨by kernel_rfl⟩
instance : ZeroC Tryd.prog 97 [.nilFunc] := ⟨zeroC_of (z := .nilFunc) (by kernel_rfl) rfl⟩
instance : Scalar Tryd.prog 97 := ⟨_, Tryd.underlying97, rfl⟩
instance : Sz Tryd.prog 98 (.nilFunc) 1 8 := ⟨by kernel_rfl⟩
instance : ZeroC Tryd.prog 98 [.nilFunc] := ⟨zeroC_of (z := .nilFunc) (by kernel_rfl) rfl⟩
instance : Scalar Tryd.prog 98 := ⟨_, Tryd.underlying98, rfl⟩
instance : Sz Tryd.prog 99 (.nilFunc) 1 8 := ⟨by kernel_rfl⟩
instance : ZeroC Tryd.prog 99 [.nilFunc] := ⟨zeroC_of (z := .nilFunc) (by kernel_rfl) rfl⟩
instance : Scalar Tryd.prog 99 := ⟨_, Tryd.underlying99, rfl⟩
instance : Sz Tryd.prog 100 (.nilFunc) 1 8 := ⟨by kernel_rfl⟩
instance : ZeroC Tryd.prog 100 [.nilFunc] := ⟨zeroC_of (z := .nilFunc) (by kernel_rfl) rfl⟩
instance : Scalar Tryd.prog 100 := ⟨_, Tryd.underlying100, rfl⟩
instance : Sz Tryd.prog 101 (.nilFunc) 1 8 := ⟨by kernel_rfl⟩
instance : ZeroC Tryd.prog 101 [.nilFunc] := ⟨zeroC_of (z := .nilFunc) (by kernel_rfl) rfl⟩
instance : Scalar Tryd.prog 101 := ⟨_, Tryd.underlying101, rfl⟩
instance : Sz Tryd.prog 102 (.int .u64 0) 1 8 := ⟨by kernel_rfl⟩
instance : ZeroC Tryd.prog 102 [.int .u64 0] := ⟨zeroC_of (z := .int .u64 0) (by kernel_rfl) rfl⟩
instance : Scalar Tryd.prog 102 := ⟨_, Tryd.underlying102, rfl⟩
instance : Sz Tryd.prog 103 (.int .i64 0) 1 8 := ⟨by kernel_rfl⟩
instance : ZeroC Tryd.prog 103 [.int .i64 0] := ⟨zeroC_of (z := .int .i64 0) (by kernel_rfl) rfl⟩
instance : Scalar Tryd.prog 103 := ⟨_, Tryd.underlying103, rfl⟩
instance : Sz Tryd.prog 105 (.nilFunc) 1 8 := ⟨by kernel_rfl⟩
instance : ZeroC Tryd.prog 105 [.nilFunc] := ⟨zeroC_of (z := .nilFunc) (by kernel_rfl) rfl⟩
instance : Scalar Tryd.prog 105 := ⟨_, Tryd.underlying105, rfl⟩
instance : Sz Tryd.prog 106 (.pointer none) 1 8 := ⟨by kernel_rfl⟩
instance : ZeroC Tryd.prog 106 [.pointer none] := ⟨zeroC_of (z := .pointer none) (by kernel_rfl) rfl⟩
instance : Scalar Tryd.prog 106 := ⟨_, Tryd.underlying106, rfl⟩
instance : Sz Tryd.prog 107 (.nilFunc) 1 8 := ⟨by kernel_rfl⟩
instance : ZeroC Tryd.prog 107 [.nilFunc] := ⟨zeroC_of (z := .nilFunc) (by kernel_rfl) rfl⟩
instance : Scalar Tryd.prog 107 := ⟨_, Tryd.underlying107, rfl⟩
instance : Sz Tryd.prog 108 (.nilFunc) 1 8 := ⟨by kernel_rfl⟩
instance : ZeroC Tryd.prog 108 [.nilFunc] := ⟨zeroC_of (z := .nilFunc) (by kernel_rfl) rfl⟩
instance : Scalar Tryd.prog 108 := ⟨_, Tryd.underlying108, rfl⟩
instance : Sz Tryd.prog 109 (.agg #[.int .u8 0, .int .u8 0, .int .u8 0, .int .u8 0, .int .u8 0, .int .u8 0, .int .u8 0, .int .u8 0, .int .u8 0, .int .u8 0, .int .u8 0, .int .u8 0, .int .u8 0, .int .u8 0, .int .u8 0, .int .u8 0, .int .u8 0, .int .u8 0, .int .u8 0, .int .u8 0, .int .u8 0, .int .u8 0, .int .u8 0, .int .u8 0]) 24 24 := ⟨by kernel_rfl⟩
instance : ZeroC Tryd.prog 109 [.int .u8 0, .int .u8 0, .int .u8 0, .int .u8 0, .int .u8 0, .int .u8 0, .int .u8 0, .int .u8 0, .int .u8 0, .int .u8 0, .int .u8 0, .int .u8 0, .int .u8 0, .int .u8 0, .int .u8 0, .int .u8 0, .int .u8 0, .int .u8 0, .int .u8 0, .int .u8 0, .int .u8 0, .int .u8 0, .int .u8 0, .int .u8 0] := ⟨zeroC_of (z := .agg #[.int .u8 0, .int .u8 0, .int .u8 0, .int .u8 0, .int .u8 0, .int .u8 0, .int .u8 0, .int .u8 0, .int .u8 0, .int .u8 0, .int .u8 0, .int .u8 0, .int .u8 0, .int .u8 0, .int .u8 0, .int .u8 0, .int .u8 0, .int .u8 0, .int .u8 0, .int .u8 0, .int .u8 0, .int .u8 0, .int .u8 0, .int .u8 0]) (by kernel_rfl) rfl⟩
instance : Aggr Tryd.prog 109 24 := ⟨⟨_, Tryd.underlying109, rfl⟩, by kernel_rfl⟩
instance : ArrT Tryd.prog 109 24 5 := ⟨Tryd.underlying109⟩
instance : Sz Tryd.prog 110 (.int .u64 0) 1 8 := ⟨by kernel_rfl⟩
instance : ZeroC Tryd.prog 110 [.int .u64 0] := ⟨zeroC_of (z := .int .u64 0) (by kernel_rfl) rfl⟩
instance : Scalar Tryd.prog 110 := ⟨_, Tryd.underlying110, rfl⟩
instance : Sz Tryd.prog 111 (.nilFunc) 1 8 := ⟨by kernel_rfl⟩
instance : ZeroC Tryd.prog 111 [.nilFunc] := ⟨zeroC_of (z := .nilFunc) (by kernel_rfl) rfl⟩
instance : Scalar Tryd.prog 111 := ⟨_, Tryd.underlying111, rfl⟩
instance : Sz Tryd.prog 112 (.nilFunc) 1 8 := ⟨by kernel_rfl⟩
instance : ZeroC Tryd.prog 112 [.nilFunc] := ⟨zeroC_of (z := .nilFunc) (by kernel_rfl) rfl⟩
instance : Scalar Tryd.prog 112 := ⟨_, Tryd.underlying112, rfl⟩
instance : Sz Tryd.prog 114 (.nilFunc) 1 8 := ⟨by kernel_rfl⟩
instance : ZeroC Tryd.prog 114 [.nilFunc] := ⟨zeroC_of (z := .nilFunc) (by kernel_rfl) rfl⟩
instance : Scalar Tryd.prog 114 := ⟨_, Tryd.underlying114, rfl⟩
instance : Sz Tryd.prog 115 (.nilFunc) 1 8 := ⟨by kernel_rfl⟩
instance : ZeroC Tryd.prog 115 [.nilFunc] := ⟨zeroC_of (z := .nilFunc) (by kernel_rfl) rfl⟩
instance : Scalar Tryd.prog 115 := ⟨_, Tryd.underlying115, rfl⟩
instance : Sz Tryd.prog 116 (.int .u32 0) 1 4 := ⟨by kernel_rfl⟩
instance : ZeroC Tryd.prog 116 [.int .u32 0] := ⟨zeroC_of (z := .int .u32 0) (by kernel_rfl) rfl⟩
instance : Scalar Tryd.prog 116 := ⟨_, Tryd.underlying116, rfl⟩
instance : Sz Tryd.prog 118 (.nilFunc) 1 8 := ⟨by kernel_rfl⟩
instance : ZeroC Tryd.prog 118 [.nilFunc] := ⟨zeroC_of (z := .nilFunc) (by kernel_rfl) rfl⟩
instance : Scalar Tryd.prog 118 := ⟨_, Tryd.underlying118, rfl⟩
instance : Sz Tryd.prog 120 (.nilFunc) 1 8 := ⟨by kernel_rfl⟩
instance : ZeroC Tryd.prog 120 [.nilFunc] := ⟨zeroC_of (z := .nilFunc) (by kernel_rfl) rfl⟩
instance : Scalar Tryd.prog 120 := ⟨_, Tryd.underlying120, rfl⟩
instance : Sz Tryd.prog 121 (.nilFunc) 1 8 := ⟨by kernel_rfl⟩
instance : ZeroC Tryd.prog 121 [.nilFunc] := ⟨zeroC_of (z := .nilFunc) (by kernel_rfl) rfl⟩
instance : Scalar Tryd.prog 121 := ⟨_, Tryd.underlying121, rfl⟩
instance : Sz Tryd.prog 122 (.agg #[.string ⟨#[]⟩, .string ⟨#[]⟩, .nilIface]) 3 48 := ⟨by kernel_rfl⟩
instance : ZeroC Tryd.prog 122 [.string ⟨#[]⟩, .string ⟨#[]⟩, .nilIface] := ⟨zeroC_of (z := .agg #[.string ⟨#[]⟩, .string ⟨#[]⟩, .nilIface]) (by kernel_rfl) rfl⟩
instance : Parts Tryd.prog 122 [(0, 1), (1, 1), (2, 1)] := ⟨.inl ⟨_, Tryd.underlying122, by kernel_rfl, by kernel_rfl⟩⟩
instance : Aggr Tryd.prog 122 3 := ⟨⟨_, Tryd.underlying122, rfl⟩, by kernel_rfl⟩
instance : Fld Tryd.prog 122 0 0 := ⟨fld_of (by kernel_rfl)⟩
instance : Fld Tryd.prog 122 1 1 := ⟨fld_of (by kernel_rfl)⟩
instance : Fld Tryd.prog 122 2 2 := ⟨fld_of (by kernel_rfl)⟩
instance : Sz Tryd.prog 123 (.agg #[.string ⟨#[]⟩, .string ⟨#[]⟩, .nilIface]) 3 48 := ⟨by kernel_rfl⟩
instance : ZeroC Tryd.prog 123 [.string ⟨#[]⟩, .string ⟨#[]⟩, .nilIface] := ⟨zeroC_of (z := .agg #[.string ⟨#[]⟩, .string ⟨#[]⟩, .nilIface]) (by kernel_rfl) rfl⟩
instance : Parts Tryd.prog 123 [(0, 1), (1, 1), (2, 1)] := ⟨.inl ⟨_, Tryd.underlying123, by kernel_rfl, by kernel_rfl⟩⟩
instance : Aggr Tryd.prog 123 3 := ⟨⟨_, Tryd.underlying123, rfl⟩, by kernel_rfl⟩
instance : Fld Tryd.prog 123 0 0 := ⟨fld_of (by kernel_rfl)⟩
instance : Fld Tryd.prog 123 1 1 := ⟨fld_of (by kernel_rfl)⟩
instance : Fld Tryd.prog 123 2 2 := ⟨fld_of (by kernel_rfl)⟩
instance : Sz Tryd.prog 126 (.agg #[.int .u64 0, .int .u64 0, .int .u64 0, .int .u64 0, .int .u64 0, .int .u64 0, .int .u64 0, .int .u64 0, .int .u64 0, .int .u64 0, .int .u64 0, .int .u64 0, .int .u64 0, .int .u64 0, .int .u64 0, .int .u64 0, .int .u64 0, .int .u64 0, .int .u64 0, .int .u64 0]) 20 160 := ⟨by kernel_rfl⟩
instance : ZeroC Tryd.prog 126 [.int .u64 0, .int .u64 0, .int .u64 0, .int .u64 0, .int .u64 0, .int .u64 0, .int .u64 0, .int .u64 0, .int .u64 0, .int .u64 0, .int .u64 0, .int .u64 0, .int .u64 0, .int .u64 0, .int .u64 0, .int .u64 0, .int .u64 0, .int .u64 0, .int .u64 0, .int .u64 0] := ⟨zeroC_of (z := .agg #[.int .u64 0, .int .u64 0, .int .u64 0, .int .u64 0, .int .u64 0, .int .u64 0, .int .u64 0, .int .u64 0, .int .u64 0, .int .u64 0, .int .u64 0, .int .u64 0, .int .u64 0, .int .u64 0, .int .u64 0, .int .u64 0, .int .u64 0, .int .u64 0, .int .u64 0, .int .u64 0]) (by kernel_rfl) rfl⟩
instance : Aggr Tryd.prog 126 20 := ⟨⟨_, Tryd.underlying126, rfl⟩, by kernel_rfl⟩
instance : ArrT Tryd.prog 126 20 110 := ⟨Tryd.underlying126⟩
instance : Sz Tryd.prog 127 (.agg #[.int .u8 0, .int .u8 0, .int .u8 0, .int .u8 0, .int .u8 0, .int .u8 0, .int .u8 0, .int .u8 0, .int .u8 0, .int .u8 0, .int .u8 0, .int .u8 0, .int .u8 0, .int .u8 0, .int .u8 0, .int .u8 0, .int .u8 0, .int .u8 0, .int .u8 0, .int .u8 0, .int .u8 0, .int .u8 0, .int .u8 0, .int .u8 0, .int .u8 0, .int .u8 0, .int .u8 0, .int .u8 0, .int .u8 0, .int .u8 0, .int .u8 0, .int .u8 0, .int .u8 0, .int .u8 0, .int .u8 0, .int .u8 0, .int .u8 0, .int .u8 0, .int .u8 0, .int .u8 0, .int .u8 0, .int .u8 0, .int .u8 0, .int .u8 0, .int .u8 0, .int .u8 0, .int .u8 0, .int .u8 0, .int .u8 0, .int .u8 0, .int .u8 0, .int .u8 0, .int .u8 0, .int .u8 0, .int .u8 0, .int .u8 0, .int .u8 0, .int .u8 0, .int .u8 0, .int .u8 0, .int .u8 0, .int .u8 0, .int .u8 0, .int .u8 0, .int .u8 0]) 65 65 := ⟨by kernel_rfl⟩
instance : ZeroC Tryd.prog 127 [.int .u8 0, .int .u8 0, .int .u8 0, .int .u8 0, .int .u8 0, .int .u8 0, .int .u8 0, .int .u8 0, .int .u8 0, .int .u8 0, .int .u8 0, .int .u8 0, .int .u8 0, .int .u8 0, .int .u8 0, .int .u8 0, .int .u8 0, .int .u8 0, .int .u8 0, .int .u8 0, .int .u8 0, .int .u8 0, .int .u8 0, .int .u8 0, .int .u8 0, .int .u8 0, .int .u8 0, .int .u8 0, .int .u8 0, .int .u8 0, .int .u8 0, .int .u8 0, .int .u8 0, .int .u8 0, .int .u8 0, .int .u8 0, .int .u8 0, .int .u8 0, .int .u8 0, .int .u8 0, .int .u8 0, .int .u8 0, .int .u8 0, .int .u8 0, .int .u8 0, .int .u8 0, .int .u8 0, .int .u8 0, .int .u8 0, .int .u8 0, .int .u8 0, .int .u8 0, .int .u8 0, .int .u8 0, .int .u8 0, .int .u8 0, .int .u8 0, .int .u8 0, .int .u8 0, .int .u8 0, .int .u8 0, .int .u8 0, .int .u8 0, .int .u8 0, .int .u8 0] := ⟨zeroC_of (z := .agg #[.int .u8 0, .int .u8 0, .int .u8 0, .int .u8 0, .int .u8 0, .int .u8 0, .int .u8 0, .int .u8 0, .int .u8 0, .int .u8 0, .int .u8 0, .int .u8 0, .int .u8 0, .int .u8 0, .int .u8 0, .int .u8 0, .int .u8 0, .int .u8 0, .int .u8 0, .int .u8 0, .int .u8 0, .int .u8 0, .int .u8 0, .int .u8 0, .int .u8 0, .int .u8 0, .int .u8 0, .int .u8 0, .int .u8 0, .int .u8 0, .int .u8 0, .int .u8 0, .int .u8 0, .int .u8 0, .int .u8 0, .int .u8 0, .int .u8 0, .int .u8 0, .int .u8 0, .int .u8 0, .int .u8 0, .int .u8 0, .int .u8 0, .int .u8 0, .int .u8 0, .int .u8 0, .int .u8 0, .int .u8 0, .int .u8 0, .int .u8 0, .int .u8 0, .int .u8 0, .int .u8 0, .int .u8 0, .int .u8 0, .int .u8 0, .int .u8 0, .int .u8 0, .int .u8 0, .int .u8 0, .int .u8 0, .int .u8 0, .int .u8 0, .int .u8 0, .int .u8 0]) (by kernel_rfl) rfl⟩
instance : Aggr Tryd.prog 127 65 := ⟨⟨_, Tryd.underlying127, rfl⟩, by kernel_rfl⟩
instance : ArrT Tryd.prog 127 65 5 := ⟨Tryd.underlying127⟩
instance : Sz Tryd.prog 144 (.int .u8 0) 1 1 := ⟨by kernel_rfl⟩
instance : ZeroC Tryd.prog 144 [.int .u8 0] := ⟨zeroC_of (z := .int .u8 0) (by kernel_rfl) rfl⟩
instance : Scalar Tryd.prog 144 := ⟨_, Tryd.underlying144, rfl⟩
instance : Sz Tryd.prog 145 (.int .u8 0) 1 1 := ⟨by kernel_rfl⟩
instance : ZeroC Tryd.prog 145 [.int .u8 0] := ⟨zeroC_of (z := .int .u8 0) (by kernel_rfl) rfl⟩
instance : Scalar Tryd.prog 145 := ⟨_, Tryd.underlying145, rfl⟩
instance : Sz Tryd.prog 146 (.nilFunc) 1 8 := ⟨by kernel_rfl⟩
instance : ZeroC Tryd.prog 146 [.nilFunc] := ⟨zeroC_of (z := .nilFunc) (by kernel_rfl) rfl⟩
instance : Scalar Tryd.prog 146 := ⟨_, Tryd.underlying146, rfl⟩
instance : Sz Tryd.prog 147 (.int .i32 0) 1 4 := ⟨by kernel_rfl⟩
instance : ZeroC Tryd.prog 147 [.int .i32 0] := ⟨zeroC_of (z := .int .i32 0) (by kernel_rfl) rfl⟩
instance : Scalar Tryd.prog 147 := ⟨_, Tryd.underlying147, rfl⟩
instance : Sz Tryd.prog 148 (.int .i32 0) 1 4 := ⟨by kernel_rfl⟩
instance : ZeroC Tryd.prog 148 [.int .i32 0] := ⟨zeroC_of (z := .int .i32 0) (by kernel_rfl) rfl⟩
instance : Scalar Tryd.prog 148 := ⟨_, Tryd.underlying148, rfl⟩
instance : Sz Tryd.prog 149 (.agg #[.int .u64 0, .int .u64 0, .int .u32 0, .int .u8 0, .int .u8 0, .int .u8 0, .int .u8 0, .nilFunc, .pointer none, .int .i32 0, .int .i32 0]) 11 48 := ⟨by kernel_rfl⟩
instance : ZeroC Tryd.prog 149 [.int .u64 0, .int .u64 0, .int .u32 0, .int .u8 0, .int .u8 0, .int .u8 0, .int .u8 0, .nilFunc, .pointer none, .int .i32 0, .int .i32 0] := ⟨zeroC_of (z := .agg #[.int .u64 0, .int .u64 0, .int .u32 0, .int .u8 0, .int .u8 0, .int .u8 0, .int .u8 0, .nilFunc, .pointer none, .int .i32 0, .int .i32 0]) (by kernel_rfl) rfl⟩
instance : Parts Tryd.prog 149 [(0, 1), (1, 1), (2, 1), (3, 1), (4, 1), (5, 1), (6, 1), (7, 1), (8, 1), (9, 1), (10, 1)] := ⟨.inl ⟨_, Tryd.underlying149, by kernel_rfl, by kernel_rfl⟩⟩
instance : Aggr Tryd.prog 149 11 := ⟨⟨_, Tryd.underlying149, rfl⟩, by kernel_rfl⟩
instance : Fld Tryd.prog 149 0 0 := ⟨fld_of (by kernel_rfl)⟩
instance : Fld Tryd.prog 149 1 1 := ⟨fld_of (by kernel_rfl)⟩
instance : Fld Tryd.prog 149 2 2 := ⟨fld_of (by kernel_rfl)⟩
instance : Fld Tryd.prog 149 3 3 := ⟨fld_of (by kernel_rfl)⟩
instance : Fld Tryd.prog 149 4 4 := ⟨fld_of (by kernel_rfl)⟩
instance : Fld Tryd.prog 149 5 5 := ⟨fld_of (by kernel_rfl)⟩
instance : Fld Tryd.prog 149 6 6 := ⟨fld_of (by kernel_rfl)⟩
instance : Fld Tryd.prog 149 7 7 := ⟨fld_of (by kernel_rfl)⟩
instance : Fld Tryd.prog 149 8 8 := ⟨fld_of (by kernel_rfl)⟩
instance : Fld Tryd.prog 149 9 9 := ⟨fld_of (by kernel_rfl)⟩
instance : Fld Tryd.prog 149 10 10 := ⟨fld_of (by kernel_rfl)⟩
instance : Sz Tryd.prog 150 (.agg #[.int .u64 0, .int .u64 0, .int .u32 0, .int .u8 0, .int .u8 0, .int .u8 0, .int .u8 0, .nilFunc, .pointer none, .int .i32 0, .int .i32 0]) 11 48 := ⟨by kernel_rfl⟩
instance : ZeroC Tryd.prog 150 [.int .u64 0, .int .u64 0, .int .u32 0, .int .u8 0, .int .u8 0, .int .u8 0, .int .u8 0, .nilFunc, .pointer none, .int .i32 0, .int .i32 0] := ⟨zeroC_of (z := .agg #[.int .u64 0, .int .u64 0, .int .u32 0, .int .u8 0, .int .u8 0, .int .u8 0, .int .u8 0, .nilFunc, .pointer none, .int .i32 0, .int .i32 0]) (by kernel_rfl) rfl⟩
instance : Parts Tryd.prog 150 [(0, 1), (1, 1), (2, 1), (3, 1), (4, 1), (5, 1), (6, 1), (7, 1), (8, 1), (9, 1), (10, 1)] := ⟨.inl ⟨_, Tryd.underlying150, by kernel_rfl, by kernel_rfl⟩⟩
instance : Aggr Tryd.prog 150 11 := ⟨⟨_, Tryd.underlying150, rfl⟩, by kernel_rfl⟩
instance : Fld Tryd.prog 150 0 0 := ⟨fld_of (by kernel_rfl)⟩
instance : Fld Tryd.prog 150 1 1 := ⟨fld_of (by kernel_rfl)⟩
instance : Fld Tryd.prog 150 2 2 := ⟨fld_of (by kernel_rfl)⟩
instance : Fld Tryd.prog 150 3 3 := ⟨fld_of (by kernel_rfl)⟩
instance : Fld Tryd.prog 150 4 4 := ⟨fld_of (by kernel_rfl)⟩
instance : Fld Tryd.prog 150 5 5 := ⟨fld_of (by kernel_rfl)⟩
instance : Fld Tryd.prog 150 6 6 := ⟨fld_of (by kernel_rfl)⟩
instance : Fld Tryd.prog 150 7 7 := ⟨fld_of (by kernel_rfl)⟩
instance : Fld Tryd.prog 150 8 8 := ⟨fld_of (by kernel_rfl)⟩
instance : Fld Tryd.prog 150 9 9 := ⟨fld_of (by kernel_rfl)⟩
instance : Fld Tryd.prog 150 10 10 := ⟨fld_of (by kernel_rfl)⟩
end Go.Proofs.YthilfmmoeigeoaaDoor.St
