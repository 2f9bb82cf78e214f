/-
  A call of each function of the program that has a body enters it.
-/
import Derived.Test.YtlolbmmboendjaaStDraw
import Derived.Test.YtlolbmmboendjaaRows
namespace Go.Proofs.Ytlolbmmboendjaa.St
theorem mixed : Try.prog.follows .mixedOrders = true := by kernel_rfl
theorem en3 : Enters Try.prog 3 := enters_of Try.func3 (by kernel_rfl) rfl
instance : En Try.prog 3 := ⟨en3⟩
theorem en4 : Enters Try.prog 4 := enters_of Try.func4 (by kernel_rfl) rfl
instance : En Try.prog 4 := ⟨en4⟩
theorem en5 : Enters Try.prog 5 := enters_of Try.func5 (by kernel_rfl) rfl
instance : En Try.prog 5 := ⟨en5⟩
theorem en6 : Enters Try.prog 6 := enters_of Try.func6 (by kernel_rfl) rfl
instance : En Try.prog 6 := ⟨en6⟩
theorem en7 : Enters Try.prog 7 := enters_of Try.func7 (by kernel_rfl) rfl
instance : En Try.prog 7 := ⟨en7⟩
theorem en8 : Enters Try.prog 8 := enters_of Try.func8 (by kernel_rfl) rfl
instance : En Try.prog 8 := ⟨en8⟩
theorem en9 : Enters Try.prog 9 := enters_of Try.func9 (by kernel_rfl) rfl
instance : En Try.prog 9 := ⟨en9⟩
theorem en10 : Enters Try.prog 10 := enters_of Try.func10 (by kernel_rfl) rfl
instance : En Try.prog 10 := ⟨en10⟩
theorem en11 : Enters Try.prog 11 := enters_of Try.func11 (by kernel_rfl) rfl
instance : En Try.prog 11 := ⟨en11⟩
theorem en12 : Enters Try.prog 12 := enters_of Try.func12 (by kernel_rfl) rfl
instance : En Try.prog 12 := ⟨en12⟩
theorem en13 : Enters Try.prog 13 := enters_of Try.func13 (by kernel_rfl) rfl
instance : En Try.prog 13 := ⟨en13⟩
theorem en14 : Enters Try.prog 14 := enters_of Try.func14 (by kernel_rfl) rfl
instance : En Try.prog 14 := ⟨en14⟩
theorem en15 : Enters Try.prog 15 := enters_of Try.func15 (by kernel_rfl) rfl
instance : En Try.prog 15 := ⟨en15⟩
theorem en16 : Enters Try.prog 16 := enters_of Try.func16 (by kernel_rfl) rfl
instance : En Try.prog 16 := ⟨en16⟩
theorem en17 : Enters Try.prog 17 := enters_of Try.func17 (by kernel_rfl) rfl
instance : En Try.prog 17 := ⟨en17⟩
theorem en18 : Enters Try.prog 18 := enters_of Try.func18 (by kernel_rfl) rfl
instance : En Try.prog 18 := ⟨en18⟩
theorem en19 : Enters Try.prog 19 := enters_of Try.func19 (by kernel_rfl) rfl
instance : En Try.prog 19 := ⟨en19⟩
theorem en20 : Enters Try.prog 20 := enters_of Try.func20 (by kernel_rfl) rfl
instance : En Try.prog 20 := ⟨en20⟩
theorem en21 : Enters Try.prog 21 := enters_of Try.func21 (by kernel_rfl) rfl
instance : En Try.prog 21 := ⟨en21⟩
theorem en22 : Enters Try.prog 22 := enters_of Try.func22 (by kernel_rfl) rfl
instance : En Try.prog 22 := ⟨en22⟩
theorem en23 : Enters Try.prog 23 := enters_of Try.func23 (by kernel_rfl) rfl
instance : En Try.prog 23 := ⟨en23⟩
theorem en24 : Enters Try.prog 24 := enters_of Try.func24 (by kernel_rfl) rfl
instance : En Try.prog 24 := ⟨en24⟩
theorem en25 : Enters Try.prog 25 := enters_of Try.func25 (by kernel_rfl) rfl
instance : En Try.prog 25 := ⟨en25⟩
theorem en26 : Enters Try.prog 26 := enters_of Try.func26 (by kernel_rfl) rfl
instance : En Try.prog 26 := ⟨en26⟩
theorem en27 : Enters Try.prog 27 := enters_of Try.func27 (by kernel_rfl) rfl
instance : En Try.prog 27 := ⟨en27⟩
theorem en28 : Enters Try.prog 28 := enters_of Try.func28 (by kernel_rfl) rfl
instance : En Try.prog 28 := ⟨en28⟩
theorem en29 : Enters Try.prog 29 := enters_of Try.func29 (by kernel_rfl) rfl
instance : En Try.prog 29 := ⟨en29⟩
theorem en30 : Enters Try.prog 30 := enters_of Try.func30 (by kernel_rfl) rfl
instance : En Try.prog 30 := ⟨en30⟩
theorem en31 : Enters Try.prog 31 := enters_of Try.func31 (by kernel_rfl) rfl
instance : En Try.prog 31 := ⟨en31⟩
theorem en32 : Enters Try.prog 32 := enters_of Try.func32 (by kernel_rfl) rfl
instance : En Try.prog 32 := ⟨en32⟩
theorem en33 : Enters Try.prog 33 := enters_of Try.func33 (by kernel_rfl) rfl
instance : En Try.prog 33 := ⟨en33⟩
theorem en34 : Enters Try.prog 34 := enters_of Try.func34 (by kernel_rfl) rfl
instance : En Try.prog 34 := ⟨en34⟩
theorem en35 : Enters Try.prog 35 := enters_of Try.func35 (by kernel_rfl) rfl
instance : En Try.prog 35 := ⟨en35⟩
theorem en36 : Enters Try.prog 36 := enters_of Try.func36 (by kernel_rfl) rfl
instance : En Try.prog 36 := ⟨en36⟩
theorem en37 : Enters Try.prog 37 := enters_of Try.func37 (by kernel_rfl) rfl
instance : En Try.prog 37 := ⟨en37⟩
theorem en38 : Enters Try.prog 38 := enters_of Try.func38 (by kernel_rfl) rfl
instance : En Try.prog 38 := ⟨en38⟩
theorem en39 : Enters Try.prog 39 := enters_of Try.func39 (by kernel_rfl) rfl
instance : En Try.prog 39 := ⟨en39⟩
theorem en40 : Enters Try.prog 40 := enters_of Try.func40 (by kernel_rfl) rfl
instance : En Try.prog 40 := ⟨en40⟩
theorem en41 : Enters Try.prog 41 := enters_of Try.func41 (by kernel_rfl) rfl
instance : En Try.prog 41 := ⟨en41⟩
theorem en42 : Enters Try.prog 42 := enters_of Try.func42 (by kernel_rfl) rfl
instance : En Try.prog 42 := ⟨en42⟩
theorem en43 : Enters Try.prog 43 := enters_of Try.func43 (by kernel_rfl) rfl
instance : En Try.prog 43 := ⟨en43⟩
theorem en44 : Enters Try.prog 44 := enters_of Try.func44 (by kernel_rfl) rfl
instance : En Try.prog 44 := ⟨en44⟩
theorem en45 : Enters Try.prog 45 := enters_of Try.func45 (by kernel_rfl) rfl
instance : En Try.prog 45 := ⟨en45⟩
theorem en46 : Enters Try.prog 46 := enters_of Try.func46 (by kernel_rfl) rfl
instance : En Try.prog 46 := ⟨en46⟩
theorem en47 : Enters Try.prog 47 := enters_of Try.func47 (by kernel_rfl) rfl
instance : En Try.prog 47 := ⟨en47⟩
theorem en48 : Enters Try.prog 48 := enters_of Try.func48 (by kernel_rfl) rfl
instance : En Try.prog 48 := ⟨en48⟩
theorem en49 : Enters Try.prog 49 := enters_of Try.func49 (by kernel_rfl) rfl
instance : En Try.prog 49 := ⟨en49⟩
theorem en50 : Enters Try.prog 50 := enters_of Try.func50 (by kernel_rfl) rfl
instance : En Try.prog 50 := ⟨en50⟩
theorem en51 : Enters Try.prog 51 := enters_of Try.func51 (by kernel_rfl) rfl
instance : En Try.prog 51 := ⟨en51⟩
theorem en52 : Enters Try.prog 52 := enters_of Try.func52 (by kernel_rfl) rfl
instance : En Try.prog 52 := ⟨en52⟩
theorem en53 : Enters Try.prog 53 := enters_of Try.func53 (by kernel_rfl) rfl
instance : En Try.prog 53 := ⟨en53⟩
theorem en54 : Enters Try.prog 54 := enters_of Try.func54 (by kernel_rfl) rfl
instance : En Try.prog 54 := ⟨en54⟩
theorem en55 : Enters Try.prog 55 := enters_of Try.func55 (by kernel_rfl) rfl
instance : En Try.prog 55 := ⟨en55⟩
theorem en56 : Enters Try.prog 56 := enters_of Try.func56 (by kernel_rfl) rfl
instance : En Try.prog 56 := ⟨en56⟩
theorem en57 : Enters Try.prog 57 := enters_of Try.func57 (by kernel_rfl) rfl
instance : En Try.prog 57 := ⟨en57⟩
theorem en58 : Enters Try.prog 58 := enters_of Try.func58 (by kernel_rfl) rfl
instance : En Try.prog 58 := ⟨en58⟩
theorem en59 : Enters Try.prog 59 := enters_of Try.func59 (by kernel_rfl) rfl
instance : En Try.prog 59 := ⟨en59⟩
theorem en60 : Enters Try.prog 60 := enters_of Try.func60 (by kernel_rfl) rfl
instance : En Try.prog 60 := ⟨en60⟩
theorem en61 : Enters Try.prog 61 := enters_of Try.func61 (by kernel_rfl) rfl
instance : En Try.prog 61 := ⟨en61⟩
theorem en62 : Enters Try.prog 62 := enters_of Try.func62 (by kernel_rfl) rfl
instance : En Try.prog 62 := ⟨en62⟩
theorem en63 : Enters Try.prog 63 := enters_of Try.func63 (by kernel_rfl) rfl
instance : En Try.prog 63 := ⟨en63⟩
theorem en64 : Enters Try.prog 64 := enters_of Try.func64 (by kernel_rfl) rfl
instance : En Try.prog 64 := ⟨en64⟩
theorem en65 : Enters Try.prog 65 := enters_of Try.func65 (by kernel_rfl) rfl
instance : En Try.prog 65 := ⟨en65⟩
theorem en66 : Enters Try.prog 66 := enters_of Try.func66 (by kernel_rfl) rfl
instance : En Try.prog 66 := ⟨en66⟩
theorem en67 : Enters Try.prog 67 := enters_of Try.func67 (by kernel_rfl) rfl
instance : En Try.prog 67 := ⟨en67⟩
theorem en68 : Enters Try.prog 68 := enters_of Try.func68 (by kernel_rfl) rfl
instance : En Try.prog 68 := ⟨en68⟩
theorem en69 : Enters Try.prog 69 := enters_of Try.func69 (by kernel_rfl) rfl
instance : En Try.prog 69 := ⟨en69⟩
theorem en70 : Enters Try.prog 70 := enters_of Try.func70 (by kernel_rfl) rfl
instance : En Try.prog 70 := ⟨en70⟩
theorem en71 : Enters Try.prog 71 := enters_of Try.func71 (by kernel_rfl) rfl
instance : En Try.prog 71 := ⟨en71⟩
theorem en72 : Enters Try.prog 72 := enters_of Try.func72 (by kernel_rfl) rfl
instance : En Try.prog 72 := ⟨en72⟩
theorem en73 : Enters Try.prog 73 := enters_of Try.func73 (by kernel_rfl) rfl
instance : En Try.prog 73 := ⟨en73⟩
theorem en74 : Enters Try.prog 74 := enters_of Try.func74 (by kernel_rfl) rfl
instance : En Try.prog 74 := ⟨en74⟩
theorem en75 : Enters Try.prog 75 := enters_of Try.func75 (by kernel_rfl) rfl
instance : En Try.prog 75 := ⟨en75⟩
theorem en76 : Enters Try.prog 76 := enters_of Try.func76 (by kernel_rfl) rfl
instance : En Try.prog 76 := ⟨en76⟩
theorem en77 : Enters Try.prog 77 := enters_of Try.func77 (by kernel_rfl) rfl
instance : En Try.prog 77 := ⟨en77⟩
theorem en78 : Enters Try.prog 78 := enters_of Try.func78 (by kernel_rfl) rfl
instance : En Try.prog 78 := ⟨en78⟩
theorem en79 : Enters Try.prog 79 := enters_of Try.func79 (by kernel_rfl) rfl
instance : En Try.prog 79 := ⟨en79⟩
theorem en80 : Enters Try.prog 80 := enters_of Try.func80 (by kernel_rfl) rfl
instance : En Try.prog 80 := ⟨en80⟩
theorem en81 : Enters Try.prog 81 := enters_of Try.func81 (by kernel_rfl) rfl
instance : En Try.prog 81 := ⟨en81⟩
theorem en82 : Enters Try.prog 82 := enters_of Try.func82 (by kernel_rfl) rfl
instance : En Try.prog 82 := ⟨en82⟩
theorem en83 : Enters Try.prog 83 := enters_of Try.func83 (by kernel_rfl) rfl
instance : En Try.prog 83 := ⟨en83⟩
theorem en84 : Enters Try.prog 84 := enters_of Try.func84 (by kernel_rfl) rfl
instance : En Try.prog 84 := ⟨en84⟩
theorem en85 : Enters Try.prog 85 := enters_of Try.func85 (by kernel_rfl) rfl
instance : En Try.prog 85 := ⟨en85⟩
theorem en86 : Enters Try.prog 86 := enters_of Try.func86 (by kernel_rfl) rfl
instance : En Try.prog 86 := ⟨en86⟩
theorem en87 : Enters Try.prog 87 := enters_of Try.func87 (by kernel_rfl) rfl
instance : En Try.prog 87 := ⟨en87⟩
theorem en88 : Enters Try.prog 88 := enters_of Try.func88 (by kernel_rfl) rfl
instance : En Try.prog 88 := ⟨en88⟩
theorem en89 : Enters Try.prog 89 := enters_of Try.func89 (by kernel_rfl) rfl
instance : En Try.prog 89 := ⟨en89⟩
theorem en90 : Enters Try.prog 90 := enters_of Try.func90 (by kernel_rfl) rfl
instance : En Try.prog 90 := ⟨en90⟩
theorem en91 : Enters Try.prog 91 := enters_of Try.func91 (by kernel_rfl) rfl
instance : En Try.prog 91 := ⟨en91⟩
theorem en92 : Enters Try.prog 92 := enters_of Try.func92 (by kernel_rfl) rfl
instance : En Try.prog 92 := ⟨en92⟩
theorem en93 : Enters Try.prog 93 := enters_of Try.func93 (by kernel_rfl) rfl
instance : En Try.prog 93 := ⟨en93⟩
theorem en94 : Enters Try.prog 94 := enters_of Try.func94 (by kernel_rfl) rfl
instance : En Try.prog 94 := ⟨en94⟩
theorem en95 : Enters Try.prog 95 := enters_of Try.func95 (by kernel_rfl) rfl
instance : En Try.prog 95 := ⟨en95⟩
theorem en96 : Enters Try.prog 96 := enters_of Try.func96 (by kernel_rfl) rfl
instance : En Try.prog 96 := ⟨en96⟩
theorem en97 : Enters Try.prog 97 := enters_of Try.func97 (by kernel_rfl) rfl
instance : En Try.prog 97 := ⟨en97⟩
theorem en98 : Enters Try.prog 98 := enters_of Try.func98 (by kernel_rfl) rfl
instance : En Try.prog 98 := ⟨en98⟩
theorem en99 : Enters Try.prog 99 := enters_of Try.func99 (by kernel_rfl) rfl
instance : En Try.prog 99 := ⟨en99⟩
theorem en100 : Enters Try.prog 100 := enters_of Try.func100 (by kernel_rfl) rfl
instance : En Try.prog 100 := ⟨en100⟩
theorem en101 : Enters Try.prog 101 := enters_of Try.func101 (by kernel_rfl) rfl
instance : En Try.prog 101 := ⟨en101⟩
theorem en102 : Enters Try.prog 102 := enters_of Try.func102 (by kernel_rfl) rfl
instance : En Try.prog 102 := ⟨en102⟩
theorem en103 : Enters Try.prog 103 := enters_of Try.func103 (by kernel_rfl) rfl
instance : En Try.prog 103 := ⟨en103⟩
theorem en104 : Enters Try.prog 104 := enters_of Try.func104 (by kernel_rfl) rfl
instance : En Try.prog 104 := ⟨en104⟩
theorem en105 : Enters Try.prog 105 := enters_of Try.func105 (by kernel_rfl) rfl
instance : En Try.prog 105 := ⟨en105⟩
theorem en106 : Enters Try.prog 106 := enters_of Try.func106 (by kernel_rfl) rfl
instance : En Try.prog 106 := ⟨en106⟩
theorem en107 : Enters Try.prog 107 := enters_of Try.func107 (by kernel_rfl) rfl
instance : En Try.prog 107 := ⟨en107⟩
theorem en108 : Enters Try.prog 108 := enters_of Try.func108 (by kernel_rfl) rfl
instance : En Try.prog 108 := ⟨en108⟩
theorem en109 : Enters Try.prog 109 := enters_of Try.func109 (by kernel_rfl) rfl
instance : En Try.prog 109 := ⟨en109⟩
theorem en110 : Enters Try.prog 110 := enters_of Try.func110 (by kernel_rfl) rfl
instance : En Try.prog 110 := ⟨en110⟩
theorem en111 : Enters Try.prog 111 := enters_of Try.func111 (by kernel_rfl) rfl
instance : En Try.prog 111 := ⟨en111⟩
theorem en112 : Enters Try.prog 112 := enters_of Try.func112 (by kernel_rfl) rfl
instance : En Try.prog 112 := ⟨en112⟩
theorem en113 : Enters Try.prog 113 := enters_of Try.func113 (by kernel_rfl) rfl
instance : En Try.prog 113 := ⟨en113⟩
theorem en114 : Enters Try.prog 114 := enters_of Try.func114 (by kernel_rfl) rfl
instance : En Try.prog 114 := ⟨en114⟩
theorem en115 : Enters Try.prog 115 := enters_of Try.func115 (by kernel_rfl) rfl
instance : En Try.prog 115 := ⟨en115⟩
theorem en116 : Enters Try.prog 116 := enters_of Try.func116 (by kernel_rfl) rfl
instance : En Try.prog 116 := ⟨en116⟩
theorem en117 : Enters Try.prog 117 := enters_of Try.func117 (by kernel_rfl) rfl
instance : En Try.prog 117 := ⟨en117⟩
theorem en118 : Enters Try.prog 118 := enters_of Try.func118 (by kernel_rfl) rfl
instance : En Try.prog 118 := ⟨en118⟩
theorem en119 : Enters Try.prog 119 := enters_of Try.func119 (by kernel_rfl) rfl
instance : En Try.prog 119 := ⟨en119⟩
theorem en120 : Enters Try.prog 120 := enters_of Try.func120 (by kernel_rfl) rfl
instance : En Try.prog 120 := ⟨en120⟩
theorem en121 : Enters Try.prog 121 := enters_of Try.func121 (by kernel_rfl) rfl
instance : En Try.prog 121 := ⟨en121⟩
theorem en122 : Enters Try.prog 122 := enters_of Try.func122 (by kernel_rfl) rfl
instance : En Try.prog 122 := ⟨en122⟩
theorem en123 : Enters Try.prog 123 := enters_of Try.func123 (by kernel_rfl) rfl
instance : En Try.prog 123 := ⟨en123⟩
theorem en124 : Enters Try.prog 124 := enters_of Try.func124 (by kernel_rfl) rfl
instance : En Try.prog 124 := ⟨en124⟩
theorem en125 : Enters Try.prog 125 := enters_of Try.func125 (by kernel_rfl) rfl
instance : En Try.prog 125 := ⟨en125⟩
theorem en126 : Enters Try.prog 126 := enters_of Try.func126 (by kernel_rfl) rfl
instance : En Try.prog 126 := ⟨en126⟩
theorem en127 : Enters Try.prog 127 := enters_of Try.func127 (by kernel_rfl) rfl
instance : En Try.prog 127 := ⟨en127⟩
instance : Sz Try.prog 1 (.nilFunc) 1 8 := ⟨by kernel_rfl⟩
instance : ZeroC Try.prog 1 [.nilFunc] := ⟨zeroC_of (z := .nilFunc) (by kernel_rfl) rfl⟩
instance : Scalar Try.prog 1 := ⟨_, Try.underlying1, rfl⟩
instance : Sz Try.prog 2 (.int .i64 0) 1 8 := ⟨by kernel_rfl⟩
instance : ZeroC Try.prog 2 [.int .i64 0] := ⟨zeroC_of (z := .int .i64 0) (by kernel_rfl) rfl⟩
instance : Scalar Try.prog 2 := ⟨_, Try.underlying2, rfl⟩
instance : Sz Try.prog 3 (.int .i64 0) 1 8 := ⟨by kernel_rfl⟩
instance : ZeroC Try.prog 3 [.int .i64 0] := ⟨zeroC_of (z := .int .i64 0) (by kernel_rfl) rfl⟩
instance : Scalar Try.prog 3 := ⟨_, Try.underlying3, rfl⟩
instance : Sz Try.prog 4 (.bool false) 1 1 := ⟨by kernel_rfl⟩
instance : ZeroC Try.prog 4 [.bool false] := ⟨zeroC_of (z := .bool false) (by kernel_rfl) rfl⟩
instance : Scalar Try.prog 4 := ⟨_, Try.underlying4, rfl⟩
instance : BoolT Try.prog 4 := ⟨Try.underlying4⟩
instance : Sz Try.prog 5 (.int .u8 0) 1 1 := ⟨by kernel_rfl⟩
instance : ZeroC Try.prog 5 [.int .u8 0] := ⟨zeroC_of (z := .int .u8 0) (by kernel_rfl) rfl⟩
instance : Scalar Try.prog 5 := ⟨_, Try.underlying5, rfl⟩
instance : Sz Try.prog 6 (.int .u8 0) 1 1 := ⟨by kernel_rfl⟩
instance : ZeroC Try.prog 6 [.int .u8 0] := ⟨zeroC_of (z := .int .u8 0) (by kernel_rfl) rfl⟩
instance : Scalar Try.prog 6 := ⟨_, Try.underlying6, rfl⟩
instance : Sz Try.prog 7 (.agg #[.int .i64 0, .int .i64 0, .bool false, .int .u8 0]) 4 24 := ⟨by kernel_rfl⟩
instance : ZeroC Try.prog 7 [.int .i64 0, .int .i64 0, .bool false, .int .u8 0] := ⟨zeroC_of (z := .agg #[.int .i64 0, .int .i64 0, .bool false, .int .u8 0]) (by kernel_rfl) rfl⟩
instance : Parts Try.prog 7 [(0, 1), (1, 1), (2, 1), (3, 1)] := ⟨.inl ⟨_, Try.underlying7, by kernel_rfl, by kernel_rfl⟩⟩
instance : Aggr Try.prog 7 4 := ⟨⟨_, Try.underlying7, rfl⟩, by kernel_rfl⟩
instance : Fld Try.prog 7 0 0 := ⟨fld_of (by kernel_rfl)⟩
instance : Fld Try.prog 7 1 1 := ⟨fld_of (by kernel_rfl)⟩
instance : Fld Try.prog 7 2 2 := ⟨fld_of (by kernel_rfl)⟩
instance : Fld Try.prog 7 3 3 := ⟨fld_of (by kernel_rfl)⟩
instance : Sz Try.prog 8 (.agg #[.int .i64 0, .int .i64 0, .bool false, .int .u8 0]) 4 24 := ⟨by kernel_rfl⟩
instance : ZeroC Try.prog 8 [.int .i64 0, .int .i64 0, .bool false, .int .u8 0] := ⟨zeroC_of (z := .agg #[.int .i64 0, .int .i64 0, .bool false, .int .u8 0]) (by kernel_rfl) rfl⟩
instance : Parts Try.prog 8 [(0, 1), (1, 1), (2, 1), (3, 1)] := ⟨.inl ⟨_, Try.underlying8, by kernel_rfl, by kernel_rfl⟩⟩
instance : Aggr Try.prog 8 4 := ⟨⟨_, Try.underlying8, rfl⟩, by kernel_rfl⟩
instance : Fld Try.prog 8 0 0 := ⟨fld_of (by kernel_rfl)⟩
instance : Fld Try.prog 8 1 1 := ⟨fld_of (by kernel_rfl)⟩
instance : Fld Try.prog 8 2 2 := ⟨fld_of (by kernel_rfl)⟩
instance : Fld Try.prog 8 3 3 := ⟨fld_of (by kernel_rfl)⟩
instance : Sz Try.prog 9 (.string ⟨#[]⟩) 1 16 := ⟨by kernel_rfl⟩
instance : ZeroC Try.prog 9 [.string ⟨#[]⟩] := ⟨zeroC_of (z := .string ⟨#[]⟩) (by kernel_rfl) rfl⟩
instance : Scalar Try.prog 9 := ⟨_, Try.underlying9, rfl⟩
instance : StrT Try.prog 9 := ⟨Try.underlying9⟩
instance : Sz Try.prog 10 (.string ⟨#[]⟩) 1 16 := ⟨by kernel_rfl⟩
instance : ZeroC Try.prog 10 [.string ⟨#[]⟩] := ⟨zeroC_of (z := .string ⟨#[]⟩) (by kernel_rfl) rfl⟩
instance : Scalar Try.prog 10 := ⟨_, Try.underlying10, rfl⟩
instance : StrT Try.prog 10 := ⟨Try.underlying10⟩
instance : Sz Try.prog 11 (.string ⟨#[]⟩) 1 16 := ⟨by kernel_rfl⟩
instance : ZeroC Try.prog 11 [.string ⟨#[]⟩] := ⟨zeroC_of (z := .string ⟨#[]⟩) (by kernel_rfl) rfl⟩
instance : Scalar Try.prog 11 := ⟨_, Try.underlying11, rfl⟩
instance : StrT Try.prog 11 := ⟨Try.underlying11⟩
instance : Sz Try.prog 12 (.int .u64 0) 1 8 := ⟨by kernel_rfl⟩
instance : ZeroC Try.prog 12 [.int .u64 0] := ⟨zeroC_of (z := .int .u64 0) (by kernel_rfl) rfl⟩
instance : Scalar Try.prog 12 := ⟨_, Try.underlying12, rfl⟩
instance : Sz Try.prog 13 (.agg #[.string ⟨#[]⟩, .int .u64 0]) 2 24 := ⟨by kernel_rfl⟩
instance : ZeroC Try.prog 13 [.string ⟨#[]⟩, .int .u64 0] := ⟨zeroC_of (z := .agg #[.string ⟨#[]⟩, .int .u64 0]) (by kernel_rfl) rfl⟩
instance : Parts Try.prog 13 [(0, 1), (1, 1)] := ⟨.inl ⟨_, Try.underlying13, by kernel_rfl, by kernel_rfl⟩⟩
instance : Aggr Try.prog 13 2 := ⟨⟨_, Try.underlying13, rfl⟩, by kernel_rfl⟩
instance : Fld Try.prog 13 0 0 := ⟨fld_of (by kernel_rfl)⟩
instance : Fld Try.prog 13 1 1 := ⟨fld_of (by kernel_rfl)⟩
instance : Sz Try.prog 14 (.agg #[.string ⟨#[]⟩, .int .u64 0]) 2 24 := ⟨by kernel_rfl⟩
instance : ZeroC Try.prog 14 [.string ⟨#[]⟩, .int .u64 0] := ⟨zeroC_of (z := .agg #[.string ⟨#[]⟩, .int .u64 0]) (by kernel_rfl) rfl⟩
instance : Parts Try.prog 14 [(0, 1), (1, 1)] := ⟨.inl ⟨_, Try.underlying14, by kernel_rfl, by kernel_rfl⟩⟩
instance : Aggr Try.prog 14 2 := ⟨⟨_, Try.underlying14, rfl⟩, by kernel_rfl⟩
instance : Fld Try.prog 14 0 0 := ⟨fld_of (by kernel_rfl)⟩
instance : Fld Try.prog 14 1 1 := ⟨fld_of (by kernel_rfl)⟩
instance : Sz Try.prog 15 (.pointer none) 1 8 := ⟨by kernel_rfl⟩
instance : ZeroC Try.prog 15 [.pointer none] := ⟨zeroC_of (z := .pointer none) (by kernel_rfl) rfl⟩
instance : Scalar Try.prog 15 := ⟨_, Try.underlying15, rfl⟩
instance : Sz Try.prog 16 (.pointer none) 1 8 := ⟨by kernel_rfl⟩
instance : ZeroC Try.prog 16 [.pointer none] := ⟨zeroC_of (z := .pointer none) (by kernel_rfl) rfl⟩
instance : Scalar Try.prog 16 := ⟨_, Try.underlying16, rfl⟩
instance : Sz Try.prog 17 (.pointer none) 1 8 := ⟨by kernel_rfl⟩
instance : ZeroC Try.prog 17 [.pointer none] := ⟨zeroC_of (z := .pointer none) (by kernel_rfl) rfl⟩
instance : Scalar Try.prog 17 := ⟨_, Try.underlying17, rfl⟩
instance : Sz Try.prog 18 (.agg #[.pointer none]) 1 8 := ⟨by kernel_rfl⟩
instance : ZeroC Try.prog 18 [.pointer none] := ⟨zeroC_of (z := .agg #[.pointer none]) (by kernel_rfl) rfl⟩
instance : Parts Try.prog 18 [(0, 1)] := ⟨.inl ⟨_, Try.underlying18, by kernel_rfl, by kernel_rfl⟩⟩
instance : Aggr Try.prog 18 1 := ⟨⟨_, Try.underlying18, rfl⟩, by kernel_rfl⟩
instance : Fld Try.prog 18 0 0 := ⟨fld_of (by kernel_rfl)⟩
instance : Sz Try.prog 19 (.agg #[.pointer none]) 1 8 := ⟨by kernel_rfl⟩
instance : ZeroC Try.prog 19 [.pointer none] := ⟨zeroC_of (z := .agg #[.pointer none]) (by kernel_rfl) rfl⟩
instance : Parts Try.prog 19 [(0, 1)] := ⟨.inl ⟨_, Try.underlying19, by kernel_rfl, by kernel_rfl⟩⟩
instance : Aggr Try.prog 19 1 := ⟨⟨_, Try.underlying19, rfl⟩, by kernel_rfl⟩
instance : Fld Try.prog 19 0 0 := ⟨fld_of (by kernel_rfl)⟩
instance : Sz Try.prog 20 (.nilIface) 1 16 := ⟨by kernel_rfl⟩
instance : ZeroC Try.prog 20 [.nilIface] := ⟨zeroC_of (z := .nilIface) (by kernel_rfl) rfl⟩
instance : Scalar Try.prog 20 := ⟨_, Try.underlying20, rfl⟩
instance : Sz Try.prog 21 (.int .i32 0) 1 4 := ⟨by kernel_rfl⟩
instance : ZeroC Try.prog 21 [.int .i32 0] := ⟨zeroC_of (z := .int .i32 0) (by kernel_rfl) rfl⟩
instance : Scalar Try.prog 21 := ⟨_, Try.underlying21, rfl⟩
instance : Sz Try.prog 22 (.slice none 0 0) 1 24 := ⟨by kernel_rfl⟩
instance : ZeroC Try.prog 22 [.slice none 0 0] := ⟨zeroC_of (z := .slice none 0 0) (by kernel_rfl) rfl⟩
instance : Scalar Try.prog 22 := ⟨_, Try.underlying22, rfl⟩
instance : SliceT Try.prog 22 5 := ⟨Try.underlying22⟩
instance : Sz Try.prog 23 (.agg #[.int .i64 0, .int .i64 0, .int .i64 0]) 3 24 := ⟨by kernel_rfl⟩
instance : ZeroC Try.prog 23 [.int .i64 0, .int .i64 0, .int .i64 0] := ⟨zeroC_of (z := .agg #[.int .i64 0, .int .i64 0, .int .i64 0]) (by kernel_rfl) rfl⟩
instance : Parts Try.prog 23 [(0, 1), (1, 1), (2, 1)] := ⟨.inl ⟨_, Try.underlying23, by kernel_rfl, by kernel_rfl⟩⟩
instance : Aggr Try.prog 23 3 := ⟨⟨_, Try.underlying23, rfl⟩, by kernel_rfl⟩
instance : Fld Try.prog 23 0 0 := ⟨fld_of (by kernel_rfl)⟩
instance : Fld Try.prog 23 1 1 := ⟨fld_of (by kernel_rfl)⟩
instance : Fld Try.prog 23 2 2 := ⟨fld_of (by kernel_rfl)⟩
instance : Sz Try.prog 24 (.agg #[.int .i64 0, .int .i64 0, .int .i64 0]) 3 24 := ⟨by kernel_rfl⟩
instance : ZeroC Try.prog 24 [.int .i64 0, .int .i64 0, .int .i64 0] := ⟨zeroC_of (z := .agg #[.int .i64 0, .int .i64 0, .int .i64 0]) (by kernel_rfl) rfl⟩
instance : Parts Try.prog 24 [(0, 1), (1, 1), (2, 1)] := ⟨.inl ⟨_, Try.underlying24, by kernel_rfl, by kernel_rfl⟩⟩
instance : Aggr Try.prog 24 3 := ⟨⟨_, Try.underlying24, rfl⟩, by kernel_rfl⟩
instance : Fld Try.prog 24 0 0 := ⟨fld_of (by kernel_rfl)⟩
instance : Fld Try.prog 24 1 1 := ⟨fld_of (by kernel_rfl)⟩
instance : Fld Try.prog 24 2 2 := ⟨fld_of (by kernel_rfl)⟩
instance : Sz Try.prog 25 (.agg #[.int .i64 0, .int .i64 0, .int .i64 0, .int .i64 0, .int .i64 0, .int .i64 0, .int .i64 0, .int .i64 0, .int .i64 0]) 9 72 := ⟨by kernel_rfl⟩
instance : ZeroC Try.prog 25 [.int .i64 0, .int .i64 0, .int .i64 0, .int .i64 0, .int .i64 0, .int .i64 0, .int .i64 0, .int .i64 0, .int .i64 0] := ⟨zeroC_of (z := .agg #[.int .i64 0, .int .i64 0, .int .i64 0, .int .i64 0, .int .i64 0, .int .i64 0, .int .i64 0, .int .i64 0, .int .i64 0]) (by kernel_rfl) rfl⟩
instance : Parts Try.prog 25 [(0, 3), (3, 3), (6, 3)] := ⟨.inr ⟨_, _, Try.underlying25, by kernel_rfl, by kernel_rfl⟩⟩
instance : Aggr Try.prog 25 9 := ⟨⟨_, Try.underlying25, rfl⟩, by kernel_rfl⟩
instance : ArrT Try.prog 25 3 24 := ⟨Try.underlying25⟩
instance : Sz Try.prog 26 (.agg #[.int .i64 0, .int .i64 0, .int .i64 0, .int .i64 0, .int .i64 0, .int .i64 0, .int .i64 0, .int .i64 0, .int .i64 0]) 9 72 := ⟨by kernel_rfl⟩
instance : ZeroC Try.prog 26 [.int .i64 0, .int .i64 0, .int .i64 0, .int .i64 0, .int .i64 0, .int .i64 0, .int .i64 0, .int .i64 0, .int .i64 0] := ⟨zeroC_of (z := .agg #[.int .i64 0, .int .i64 0, .int .i64 0, .int .i64 0, .int .i64 0, .int .i64 0, .int .i64 0, .int .i64 0, .int .i64 0]) (by kernel_rfl) rfl⟩
instance : Parts Try.prog 26 [(0, 9)] := ⟨.inl ⟨_, Try.underlying26, by kernel_rfl, by kernel_rfl⟩⟩
instance : Aggr Try.prog 26 9 := ⟨⟨_, Try.underlying26, rfl⟩, by kernel_rfl⟩
instance : Fld Try.prog 26 0 0 := ⟨fld_of (by kernel_rfl)⟩
instance : Sz Try.prog 27 (.agg #[.int .i64 0, .int .i64 0, .int .i64 0, .int .i64 0, .int .i64 0, .int .i64 0, .int .i64 0, .int .i64 0, .int .i64 0]) 9 72 := ⟨by kernel_rfl⟩
instance : ZeroC Try.prog 27 [.int .i64 0, .int .i64 0, .int .i64 0, .int .i64 0, .int .i64 0, .int .i64 0, .int .i64 0, .int .i64 0, .int .i64 0] := ⟨zeroC_of (z := .agg #[.int .i64 0, .int .i64 0, .int .i64 0, .int .i64 0, .int .i64 0, .int .i64 0, .int .i64 0, .int .i64 0, .int .i64 0]) (by kernel_rfl) rfl⟩
instance : Parts Try.prog 27 [(0, 9)] := ⟨.inl ⟨_, Try.underlying27, by kernel_rfl, by kernel_rfl⟩⟩
instance : Aggr Try.prog 27 9 := ⟨⟨_, Try.underlying27, rfl⟩, by kernel_rfl⟩
instance : Fld Try.prog 27 0 0 := ⟨fld_of (by kernel_rfl)⟩
instance : Sz Try.prog 29 (.nilFunc) 1 8 := ⟨by kernel_rfl⟩
instance : ZeroC Try.prog 29 [.nilFunc] := ⟨zeroC_of (z := .nilFunc) (by kernel_rfl) rfl⟩
instance : Scalar Try.prog 29 := ⟨_, Try.underlying29, rfl⟩
instance : Sz Try.prog 30 (.nilFunc) 1 8 := ⟨by kernel_rfl⟩
instance : ZeroC Try.prog 30 [.nilFunc] := ⟨zeroC_of (z := .nilFunc) (by kernel_rfl) rfl⟩
instance : Scalar Try.prog 30 := ⟨_, Try.underlying30, rfl⟩
instance : Sz Try.prog 31 (.nilFunc) 1 8 := ⟨by kernel_rfl⟩
instance : ZeroC Try.prog 31 [.nilFunc] := ⟨zeroC_of (z := .nilFunc) (by kernel_rfl) rfl⟩
instance : Scalar Try.prog 31 := ⟨_, Try.underlying31, rfl⟩
instance : Sz Try.prog 32 (.nilFunc) 1 8 := ⟨by kernel_rfl⟩
instance : ZeroC Try.prog 32 [.nilFunc] := ⟨zeroC_of (z := .nilFunc) (by kernel_rfl) rfl⟩
instance : Scalar Try.prog 32 := ⟨_, Try.underlying32, rfl⟩
instance : Sz Try.prog 33 (.agg #[.int .i64 0, .int .i64 0, .int .i64 0]) 3 24 := ⟨by kernel_rfl⟩
instance : ZeroC Try.prog 33 [.int .i64 0, .int .i64 0, .int .i64 0] := ⟨zeroC_of (z := .agg #[.int .i64 0, .int .i64 0, .int .i64 0]) (by kernel_rfl) rfl⟩
instance : Parts Try.prog 33 [(0, 1), (1, 1), (2, 1)] := ⟨.inl ⟨_, Try.underlying33, by kernel_rfl, by kernel_rfl⟩⟩
instance : Aggr Try.prog 33 3 := ⟨⟨_, Try.underlying33, rfl⟩, by kernel_rfl⟩
instance : Fld Try.prog 33 0 0 := ⟨fld_of (by kernel_rfl)⟩
instance : Fld Try.prog 33 1 1 := ⟨fld_of (by kernel_rfl)⟩
instance : Fld Try.prog 33 2 2 := ⟨fld_of (by kernel_rfl)⟩
instance : Sz Try.prog 34 (.agg #[.int .i64 0, .int .i64 0, .int .i64 0, .int .i64 0, .int .i64 0, .int .i64 0, .int .i64 0, .int .i64 0, .int .i64 0, .int .i64 0, .int .i64 0, .int .i64 0]) 12 96 := ⟨by kernel_rfl⟩
instance : ZeroC Try.prog 34 [.int .i64 0, .int .i64 0, .int .i64 0, .int .i64 0, .int .i64 0, .int .i64 0, .int .i64 0, .int .i64 0, .int .i64 0, .int .i64 0, .int .i64 0, .int .i64 0] := ⟨zeroC_of (z := .agg #[.int .i64 0, .int .i64 0, .int .i64 0, .int .i64 0, .int .i64 0, .int .i64 0, .int .i64 0, .int .i64 0, .int .i64 0, .int .i64 0, .int .i64 0, .int .i64 0]) (by kernel_rfl) rfl⟩
instance : Parts Try.prog 34 [(0, 3), (3, 3), (6, 3), (9, 3)] := ⟨.inr ⟨_, _, Try.underlying34, by kernel_rfl, by kernel_rfl⟩⟩
instance : Aggr Try.prog 34 12 := ⟨⟨_, Try.underlying34, rfl⟩, by kernel_rfl⟩
instance : ArrT Try.prog 34 4 33 := ⟨Try.underlying34⟩
instance : Sz Try.prog 35 (.agg #[.int .i64 0, .int .i64 0, .int .i64 0, .int .i64 0, .int .i64 0, .int .i64 0, .int .i64 0, .int .i64 0, .int .i64 0, .int .i64 0, .int .i64 0, .int .i64 0]) 12 96 := ⟨by kernel_rfl⟩
instance : ZeroC Try.prog 35 [.int .i64 0, .int .i64 0, .int .i64 0, .int .i64 0, .int .i64 0, .int .i64 0, .int .i64 0, .int .i64 0, .int .i64 0, .int .i64 0, .int .i64 0, .int .i64 0] := ⟨zeroC_of (z := .agg #[.int .i64 0, .int .i64 0, .int .i64 0, .int .i64 0, .int .i64 0, .int .i64 0, .int .i64 0, .int .i64 0, .int .i64 0, .int .i64 0, .int .i64 0, .int .i64 0]) (by kernel_rfl) rfl⟩
instance : Parts Try.prog 35 [(0, 12)] := ⟨.inl ⟨_, Try.underlying35, by kernel_rfl, by kernel_rfl⟩⟩
instance : Aggr Try.prog 35 12 := ⟨⟨_, Try.underlying35, rfl⟩, by kernel_rfl⟩
instance : Fld Try.prog 35 0 0 := ⟨fld_of (by kernel_rfl)⟩
instance : Sz Try.prog 36 (.agg #[.int .i64 0, .int .i64 0, .int .i64 0, .int .i64 0, .int .i64 0, .int .i64 0, .int .i64 0, .int .i64 0, .int .i64 0, .int .i64 0, .int .i64 0, .int .i64 0]) 12 96 := ⟨by kernel_rfl⟩
instance : ZeroC Try.prog 36 [.int .i64 0, .int .i64 0, .int .i64 0, .int .i64 0, .int .i64 0, .int .i64 0, .int .i64 0, .int .i64 0, .int .i64 0, .int .i64 0, .int .i64 0, .int .i64 0] := ⟨zeroC_of (z := .agg #[.int .i64 0, .int .i64 0, .int .i64 0, .int .i64 0, .int .i64 0, .int .i64 0, .int .i64 0, .int .i64 0, .int .i64 0, .int .i64 0, .int .i64 0, .int .i64 0]) (by kernel_rfl) rfl⟩
instance : Parts Try.prog 36 [(0, 12)] := ⟨.inl ⟨_, Try.underlying36, by kernel_rfl, by kernel_rfl⟩⟩
instance : Aggr Try.prog 36 12 := ⟨⟨_, Try.underlying36, rfl⟩, by kernel_rfl⟩
instance : Fld Try.prog 36 0 0 := ⟨fld_of (by kernel_rfl)⟩
instance : Sz Try.prog 37 (.agg #[.int .i64 0, .int .i64 0, .int .i64 0, .int .i64 0, .int .i64 0, .int .i64 0, .int .i64 0, .int .i64 0, .int .i64 0, .int .i64 0, .int .i64 0, .int .i64 0, .int .i64 0, .int .i64 0, .int .i64 0, .int .i64 0, .int .i64 0, .int .i64 0, .int .i64 0, .int .i64 0, .int .i64 0, .int .i64 0, .int .i64 0, .int .i64 0, .int .i64 0, .int .i64 0]) 26 208 := ⟨by kernel_rfl⟩
instance : ZeroC Try.prog 37 [.int .i64 0, .int .i64 0, .int .i64 0, .int .i64 0, .int .i64 0, .int .i64 0, .int .i64 0, .int .i64 0, .int .i64 0, .int .i64 0, .int .i64 0, .int .i64 0, .int .i64 0, .int .i64 0, .int .i64 0, .int .i64 0, .int .i64 0, .int .i64 0, .int .i64 0, .int .i64 0, .int .i64 0, .int .i64 0, .int .i64 0, .int .i64 0, .int .i64 0, .int .i64 0] := ⟨zeroC_of (z := .agg #[.int .i64 0, .int .i64 0, .int .i64 0, .int .i64 0, .int .i64 0, .int .i64 0, .int .i64 0, .int .i64 0, .int .i64 0, .int .i64 0, .int .i64 0, .int .i64 0, .int .i64 0, .int .i64 0, .int .i64 0, .int .i64 0, .int .i64 0, .int .i64 0, .int .i64 0, .int .i64 0, .int .i64 0, .int .i64 0, .int .i64 0, .int .i64 0, .int .i64 0, .int .i64 0]) (by kernel_rfl) rfl⟩
instance : Parts Try.prog 37 [(0, 12), (12, 12), (24, 1), (25, 1)] := ⟨.inl ⟨_, Try.underlying37, by kernel_rfl, by kernel_rfl⟩⟩
instance : Aggr Try.prog 37 26 := ⟨⟨_, Try.underlying37, rfl⟩, by kernel_rfl⟩
instance : Fld Try.prog 37 0 0 := ⟨fld_of (by kernel_rfl)⟩
instance : Fld Try.prog 37 1 12 := ⟨fld_of (by kernel_rfl)⟩
instance : Fld Try.prog 37 2 24 := ⟨fld_of (by kernel_rfl)⟩
instance : Fld Try.prog 37 3 25 := ⟨fld_of (by kernel_rfl)⟩
instance : Sz Try.prog 38 (.agg #[.int .i64 0, .int .i64 0, .int .i64 0, .int .i64 0, .int .i64 0, .int .i64 0, .int .i64 0, .int .i64 0, .int .i64 0, .int .i64 0, .int .i64 0, .int .i64 0, .int .i64 0, .int .i64 0, .int .i64 0, .int .i64 0, .int .i64 0, .int .i64 0, .int .i64 0, .int .i64 0, .int .i64 0, .int .i64 0, .int .i64 0, .int .i64 0, .int .i64 0, .int .i64 0]) 26 208 := ⟨by kernel_rfl⟩
instance : ZeroC Try.prog 38 [.int .i64 0, .int .i64 0, .int .i64 0, .int .i64 0, .int .i64 0, .int .i64 0, .int .i64 0, .int .i64 0, .int .i64 0, .int .i64 0, .int .i64 0, .int .i64 0, .int .i64 0, .int .i64 0, .int .i64 0, .int .i64 0, .int .i64 0, .int .i64 0, .int .i64 0, .int .i64 0, .int .i64 0, .int .i64 0, .int .i64 0, .int .i64 0, .int .i64 0, .int .i64 0] := ⟨zeroC_of (z := .agg #[.int .i64 0, .int .i64 0, .int .i64 0, .int .i64 0, .int .i64 0, .int .i64 0, .int .i64 0, .int .i64 0, .int .i64 0, .int .i64 0, .int .i64 0, .int .i64 0, .int .i64 0, .int .i64 0, .int .i64 0, .int .i64 0, .int .i64 0, .int .i64 0, .int .i64 0, .int .i64 0, .int .i64 0, .int .i64 0, .int .i64 0, .int .i64 0, .int .i64 0, .int .i64 0]) (by kernel_rfl) rfl⟩
instance : Parts Try.prog 38 [(0, 12), (12, 12), (24, 1), (25, 1)] := ⟨.inl ⟨_, Try.underlying38, by kernel_rfl, by kernel_rfl⟩⟩
instance : Aggr Try.prog 38 26 := ⟨⟨_, Try.underlying38, rfl⟩, by kernel_rfl⟩
instance : Fld Try.prog 38 0 0 := ⟨fld_of (by kernel_rfl)⟩
instance : Fld Try.prog 38 1 12 := ⟨fld_of (by kernel_rfl)⟩
instance : Fld Try.prog 38 2 24 := ⟨fld_of (by kernel_rfl)⟩
instance : Fld Try.prog 38 3 25 := ⟨fld_of (by kernel_rfl)⟩
instance : Sz Try.prog 39 (.nilFunc) 1 8 := ⟨by kernel_rfl⟩
instance : ZeroC Try.prog 39 [.nilFunc] := ⟨zeroC_of (z := .nilFunc) (by kernel_rfl) rfl⟩
instance : Scalar Try.prog 39 := ⟨_, Try.underlying39, rfl⟩
instance : Sz Try.prog 40 (.agg #[.int .i64 0, .int .i64 0, .int .i64 0, .int .i64 0, .int .i64 0, .int .i64 0, .int .i64 0, .int .i64 0, .int .i64 0, .int .i64 0, .int .i64 0, .int .i64 0]) 12 96 := ⟨by kernel_rfl⟩
instance : ZeroC Try.prog 40 [.int .i64 0, .int .i64 0, .int .i64 0, .int .i64 0, .int .i64 0, .int .i64 0, .int .i64 0, .int .i64 0, .int .i64 0, .int .i64 0, .int .i64 0, .int .i64 0] := ⟨zeroC_of (z := .agg #[.int .i64 0, .int .i64 0, .int .i64 0, .int .i64 0, .int .i64 0, .int .i64 0, .int .i64 0, .int .i64 0, .int .i64 0, .int .i64 0, .int .i64 0, .int .i64 0]) (by kernel_rfl) rfl⟩
instance : Parts Try.prog 40 [(0, 3), (3, 3), (6, 3), (9, 3)] := ⟨.inr ⟨_, _, Try.underlying40, by kernel_rfl, by kernel_rfl⟩⟩
instance : Aggr Try.prog 40 12 := ⟨⟨_, Try.underlying40, rfl⟩, by kernel_rfl⟩
instance : ArrT Try.prog 40 4 24 := ⟨Try.underlying40⟩
instance : Sz Try.prog 41 (.agg #[.int .i64 0, .int .i64 0, .int .i64 0, .int .i64 0, .int .i64 0, .int .i64 0, .int .i64 0, .int .i64 0, .int .i64 0, .int .i64 0, .int .i64 0, .int .i64 0]) 12 96 := ⟨by kernel_rfl⟩
instance : ZeroC Try.prog 41 [.int .i64 0, .int .i64 0, .int .i64 0, .int .i64 0, .int .i64 0, .int .i64 0, .int .i64 0, .int .i64 0, .int .i64 0, .int .i64 0, .int .i64 0, .int .i64 0] := ⟨zeroC_of (z := .agg #[.int .i64 0, .int .i64 0, .int .i64 0, .int .i64 0, .int .i64 0, .int .i64 0, .int .i64 0, .int .i64 0, .int .i64 0, .int .i64 0, .int .i64 0, .int .i64 0]) (by kernel_rfl) rfl⟩
instance : Parts Try.prog 41 [(0, 12)] := ⟨.inl ⟨_, Try.underlying41, by kernel_rfl, by kernel_rfl⟩⟩
instance : Aggr Try.prog 41 12 := ⟨⟨_, Try.underlying41, rfl⟩, by kernel_rfl⟩
instance : Fld Try.prog 41 0 0 := ⟨fld_of (by kernel_rfl)⟩
instance : Sz Try.prog 42 (.agg #[.int .i64 0, .int .i64 0, .int .i64 0, .int .i64 0, .int .i64 0, .int .i64 0, .int .i64 0, .int .i64 0, .int .i64 0, .int .i64 0, .int .i64 0, .int .i64 0]) 12 96 := ⟨by kernel_rfl⟩
instance : ZeroC Try.prog 42 [.int .i64 0, .int .i64 0, .int .i64 0, .int .i64 0, .int .i64 0, .int .i64 0, .int .i64 0, .int .i64 0, .int .i64 0, .int .i64 0, .int .i64 0, .int .i64 0] := ⟨zeroC_of (z := .agg #[.int .i64 0, .int .i64 0, .int .i64 0, .int .i64 0, .int .i64 0, .int .i64 0, .int .i64 0, .int .i64 0, .int .i64 0, .int .i64 0, .int .i64 0, .int .i64 0]) (by kernel_rfl) rfl⟩
instance : Parts Try.prog 42 [(0, 12)] := ⟨.inl ⟨_, Try.underlying42, by kernel_rfl, by kernel_rfl⟩⟩
instance : Aggr Try.prog 42 12 := ⟨⟨_, Try.underlying42, rfl⟩, by kernel_rfl⟩
instance : Fld Try.prog 42 0 0 := ⟨fld_of (by kernel_rfl)⟩
instance : Sz Try.prog 43 (.agg #[.int .i64 0, .int .i64 0, .int .i64 0, .int .i64 0, .int .i64 0, .int .i64 0, .int .i64 0, .int .i64 0, .int .i64 0, .int .i64 0, .int .i64 0, .int .i64 0, .int .i64 0, .int .i64 0, .int .i64 0, .int .i64 0, .int .i64 0, .int .i64 0, .int .i64 0, .int .i64 0, .int .i64 0, .int .i64 0, .int .i64 0, .int .i64 0, .int .i64 0, .int .i64 0]) 26 208 := ⟨by kernel_rfl⟩
instance : ZeroC Try.prog 43 [.int .i64 0, .int .i64 0, .int .i64 0, .int .i64 0, .int .i64 0, .int .i64 0, .int .i64 0, .int .i64 0, .int .i64 0, .int .i64 0, .int .i64 0, .int .i64 0, .int .i64 0, .int .i64 0, .int .i64 0, .int .i64 0, .int .i64 0, .int .i64 0, .int .i64 0, .int .i64 0, .int .i64 0, .int .i64 0, .int .i64 0, .int .i64 0, .int .i64 0, .int .i64 0] := ⟨zeroC_of (z := .agg #[.int .i64 0, .int .i64 0, .int .i64 0, .int .i64 0, .int .i64 0, .int .i64 0, .int .i64 0, .int .i64 0, .int .i64 0, .int .i64 0, .int .i64 0, .int .i64 0, .int .i64 0, .int .i64 0, .int .i64 0, .int .i64 0, .int .i64 0, .int .i64 0, .int .i64 0, .int .i64 0, .int .i64 0, .int .i64 0, .int .i64 0, .int .i64 0, .int .i64 0, .int .i64 0]) (by kernel_rfl) rfl⟩
instance : Parts Try.prog 43 [(0, 12), (12, 12), (24, 1), (25, 1)] := ⟨.inl ⟨_, Try.underlying43, by kernel_rfl, by kernel_rfl⟩⟩
instance : Aggr Try.prog 43 26 := ⟨⟨_, Try.underlying43, rfl⟩, by kernel_rfl⟩
instance : Fld Try.prog 43 0 0 := ⟨fld_of (by kernel_rfl)⟩
instance : Fld Try.prog 43 1 12 := ⟨fld_of (by kernel_rfl)⟩
instance : Fld Try.prog 43 2 24 := ⟨fld_of (by kernel_rfl)⟩
instance : Fld Try.prog 43 3 25 := ⟨fld_of (by kernel_rfl)⟩
instance : Sz Try.prog 44 (.agg #[.int .i64 0, .int .i64 0, .int .i64 0, .int .i64 0, .int .i64 0, .int .i64 0, .int .i64 0, .int .i64 0, .int .i64 0, .int .i64 0, .int .i64 0, .int .i64 0, .int .i64 0, .int .i64 0, .int .i64 0, .int .i64 0, .int .i64 0, .int .i64 0, .int .i64 0, .int .i64 0, .int .i64 0, .int .i64 0, .int .i64 0, .int .i64 0, .int .i64 0, .int .i64 0]) 26 208 := ⟨by kernel_rfl⟩
instance : ZeroC Try.prog 44 [.int .i64 0, .int .i64 0, .int .i64 0, .int .i64 0, .int .i64 0, .int .i64 0, .int .i64 0, .int .i64 0, .int .i64 0, .int .i64 0, .int .i64 0, .int .i64 0, .int .i64 0, .int .i64 0, .int .i64 0, .int .i64 0, .int .i64 0, .int .i64 0, .int .i64 0, .int .i64 0, .int .i64 0, .int .i64 0, .int .i64 0, .int .i64 0, .int .i64 0, .int .i64 0] := ⟨zeroC_of (z := .agg #[.int .i64 0, .int .i64 0, .int .i64 0, .int .i64 0, .int .i64 0, .int .i64 0, .int .i64 0, .int .i64 0, .int .i64 0, .int .i64 0, .int .i64 0, .int .i64 0, .int .i64 0, .int .i64 0, .int .i64 0, .int .i64 0, .int .i64 0, .int .i64 0, .int .i64 0, .int .i64 0, .int .i64 0, .int .i64 0, .int .i64 0, .int .i64 0, .int .i64 0, .int .i64 0]) (by kernel_rfl) rfl⟩
instance : Parts Try.prog 44 [(0, 12), (12, 12), (24, 1), (25, 1)] := ⟨.inl ⟨_, Try.underlying44, by kernel_rfl, by kernel_rfl⟩⟩
instance : Aggr Try.prog 44 26 := ⟨⟨_, Try.underlying44, rfl⟩, by kernel_rfl⟩
instance : Fld Try.prog 44 0 0 := ⟨fld_of (by kernel_rfl)⟩
instance : Fld Try.prog 44 1 12 := ⟨fld_of (by kernel_rfl)⟩
instance : Fld Try.prog 44 2 24 := ⟨fld_of (by kernel_rfl)⟩
instance : Fld Try.prog 44 3 25 := ⟨fld_of (by kernel_rfl)⟩
instance : Sz Try.prog 45 (.nilFunc) 1 8 := ⟨by kernel_rfl⟩
instance : ZeroC Try.prog 45 [.nilFunc] := ⟨zeroC_of (z := .nilFunc) (by kernel_rfl) rfl⟩
instance : Scalar Try.prog 45 := ⟨_, Try.underlying45, rfl⟩
instance : Sz Try.prog 46 (.nilFunc) 1 8 := ⟨by kernel_rfl⟩
instance : ZeroC Try.prog 46 [.nilFunc] := ⟨zeroC_of (z := .nilFunc) (by kernel_rfl) rfl⟩
instance : Scalar Try.prog 46 := ⟨_, Try.underlying46, rfl⟩
instance : Sz Try.prog 47 (.slice none 0 0) 1 24 := ⟨by kernel_rfl⟩
instance : ZeroC Try.prog 47 [.slice none 0 0] := ⟨zeroC_of (z := .slice none 0 0) (by kernel_rfl) rfl⟩
instance : Scalar Try.prog 47 := ⟨_, Try.underlying47, rfl⟩
instance : SliceT Try.prog 47 118 := ⟨Try.underlying47⟩
instance : Sz Try.prog 48 (.nilFunc) 1 8 := ⟨by kernel_rfl⟩
instance : ZeroC Try.prog 48 [.nilFunc] := ⟨zeroC_of (z := .nilFunc) (by kernel_rfl) rfl⟩
instance : Scalar Try.prog 48 := ⟨_, Try.underlying48, rfl⟩
instance : Sz Try.prog 50 (.nilFunc) 1 8 := ⟨by kernel_rfl⟩
instance : ZeroC Try.prog 50 [.nilFunc] := ⟨zeroC_of (z := .nilFunc) (by kernel_rfl) rfl⟩
instance : Scalar Try.prog 50 := ⟨_, Try.underlying50, rfl⟩
instance : Sz Try.prog 51 (.slice none 0 0) 1 24 := ⟨by kernel_rfl⟩
instance : ZeroC Try.prog 51 [.slice none 0 0] := ⟨zeroC_of (z := .slice none 0 0) (by kernel_rfl) rfl⟩
instance : Scalar Try.prog 51 := ⟨_, Try.underlying51, rfl⟩
instance : SliceT Try.prog 51 116 := ⟨Try.underlying51⟩
instance : Sz Try.prog 52 (.nilFunc) 1 8 := ⟨by kernel_rfl⟩
instance : ZeroC Try.prog 52 [.nilFunc] := ⟨zeroC_of (z := .nilFunc) (by kernel_rfl) rfl⟩
instance : Scalar Try.prog 52 := ⟨_, Try.underlying52, rfl⟩
instance : Sz Try.prog 53 (.nilFunc) 1 8 := ⟨by kernel_rfl⟩
instance : ZeroC Try.prog 53 [.nilFunc] := ⟨zeroC_of (z := .nilFunc) (by kernel_rfl) rfl⟩
instance : Scalar Try.prog 53 := ⟨_, Try.underlying53, rfl⟩
instance : Sz Try.prog 54 (.nilFunc) 1 8 := ⟨by kernel_rfl⟩
instance : ZeroC Try.prog 54 [.nilFunc] := ⟨zeroC_of (z := .nilFunc) (by kernel_rfl) rfl⟩
instance : Scalar Try.prog 54 := ⟨_, Try.underlying54, rfl⟩
instance : Sz Try.prog 55 (.agg #[.int .i64 0, .int .i64 0, .int .i64 0, .int .i64 0, .bool false, .int .i64 0, .int .i64 0]) 7 56 := ⟨by kernel_rfl⟩
instance : ZeroC Try.prog 55 [.int .i64 0, .int .i64 0, .int .i64 0, .int .i64 0, .bool false, .int .i64 0, .int .i64 0] := ⟨zeroC_of (z := .agg #[.int .i64 0, .int .i64 0, .int .i64 0, .int .i64 0, .bool false, .int .i64 0, .int .i64 0]) (by kernel_rfl) rfl⟩
instance : Parts Try.prog 55 [(0, 1), (1, 1), (2, 1), (3, 1), (4, 1), (5, 1), (6, 1)] := ⟨.inl ⟨_, Try.underlying55, by kernel_rfl, by kernel_rfl⟩⟩
instance : Aggr Try.prog 55 7 := ⟨⟨_, Try.underlying55, rfl⟩, by kernel_rfl⟩
instance : Fld Try.prog 55 0 0 := ⟨fld_of (by kernel_rfl)⟩
instance : Fld Try.prog 55 1 1 := ⟨fld_of (by kernel_rfl)⟩
instance : Fld Try.prog 55 2 2 := ⟨fld_of (by kernel_rfl)⟩
instance : Fld Try.prog 55 3 3 := ⟨fld_of (by kernel_rfl)⟩
instance : Fld Try.prog 55 4 4 := ⟨fld_of (by kernel_rfl)⟩
instance : Fld Try.prog 55 5 5 := ⟨fld_of (by kernel_rfl)⟩
instance : Fld Try.prog 55 6 6 := ⟨fld_of (by kernel_rfl)⟩
instance : Sz Try.prog 56 (.agg #[.int .i64 0, .int .i64 0, .int .i64 0, .int .i64 0, .bool false, .int .i64 0, .int .i64 0]) 7 56 := ⟨by kernel_rfl⟩
instance : ZeroC Try.prog 56 [.int .i64 0, .int .i64 0, .int .i64 0, .int .i64 0, .bool false, .int .i64 0, .int .i64 0] := ⟨zeroC_of (z := .agg #[.int .i64 0, .int .i64 0, .int .i64 0, .int .i64 0, .bool false, .int .i64 0, .int .i64 0]) (by kernel_rfl) rfl⟩
instance : Parts Try.prog 56 [(0, 1), (1, 1), (2, 1), (3, 1), (4, 1), (5, 1), (6, 1)] := ⟨.inl ⟨_, Try.underlying56, by kernel_rfl, by kernel_rfl⟩⟩
instance : Aggr Try.prog 56 7 := ⟨⟨_, Try.underlying56, rfl⟩, by kernel_rfl⟩
instance : Fld Try.prog 56 0 0 := ⟨fld_of (by kernel_rfl)⟩
instance : Fld Try.prog 56 1 1 := ⟨fld_of (by kernel_rfl)⟩
instance : Fld Try.prog 56 2 2 := ⟨fld_of (by kernel_rfl)⟩
instance : Fld Try.prog 56 3 3 := ⟨fld_of (by kernel_rfl)⟩
instance : Fld Try.prog 56 4 4 := ⟨fld_of (by kernel_rfl)⟩
instance : Fld Try.prog 56 5 5 := ⟨fld_of (by kernel_rfl)⟩
instance : Fld Try.prog 56 6 6 := ⟨fld_of (by kernel_rfl)⟩
instance : Sz Try.prog 57 (.agg #[.int .i64 0, .int .i64 0, .int .i64 0, .int .i64 0]) 4 32 := ⟨by kernel_rfl⟩
instance : ZeroC Try.prog 57 [.int .i64 0, .int .i64 0, .int .i64 0, .int .i64 0] := ⟨zeroC_of (z := .agg #[.int .i64 0, .int .i64 0, .int .i64 0, .int .i64 0]) (by kernel_rfl) rfl⟩
instance : Parts Try.prog 57 [(0, 1), (1, 1), (2, 1), (3, 1)] := ⟨.inl ⟨_, Try.underlying57, by kernel_rfl, by kernel_rfl⟩⟩
instance : Aggr Try.prog 57 4 := ⟨⟨_, Try.underlying57, rfl⟩, by kernel_rfl⟩
instance : Fld Try.prog 57 0 0 := ⟨fld_of (by kernel_rfl)⟩
instance : Fld Try.prog 57 1 1 := ⟨fld_of (by kernel_rfl)⟩
instance : Fld Try.prog 57 2 2 := ⟨fld_of (by kernel_rfl)⟩
instance : Fld Try.prog 57 3 3 := ⟨fld_of (by kernel_rfl)⟩
instance : Sz Try.prog 58 (.agg #[.int .i64 0, .int .i64 0, .int .i64 0, .int .i64 0]) 4 32 := ⟨by kernel_rfl⟩
instance : ZeroC Try.prog 58 [.int .i64 0, .int .i64 0, .int .i64 0, .int .i64 0] := ⟨zeroC_of (z := .agg #[.int .i64 0, .int .i64 0, .int .i64 0, .int .i64 0]) (by kernel_rfl) rfl⟩
instance : Parts Try.prog 58 [(0, 1), (1, 1), (2, 1), (3, 1)] := ⟨.inl ⟨_, Try.underlying58, by kernel_rfl, by kernel_rfl⟩⟩
instance : Aggr Try.prog 58 4 := ⟨⟨_, Try.underlying58, rfl⟩, by kernel_rfl⟩
instance : Fld Try.prog 58 0 0 := ⟨fld_of (by kernel_rfl)⟩
instance : Fld Try.prog 58 1 1 := ⟨fld_of (by kernel_rfl)⟩
instance : Fld Try.prog 58 2 2 := ⟨fld_of (by kernel_rfl)⟩
instance : Fld Try.prog 58 3 3 := ⟨fld_of (by kernel_rfl)⟩
instance : Sz Try.prog 59 (.agg #[.int .i64 0, .int .i64 0, .int .i64 0, .int .i64 0, .int .i64 0, .int .i64 0]) 6 48 := ⟨by kernel_rfl⟩
instance : ZeroC Try.prog 59 [.int .i64 0, .int .i64 0, .int .i64 0, .int .i64 0, .int .i64 0, .int .i64 0] := ⟨zeroC_of (z := .agg #[.int .i64 0, .int .i64 0, .int .i64 0, .int .i64 0, .int .i64 0, .int .i64 0]) (by kernel_rfl) rfl⟩
instance : Parts Try.prog 59 [(0, 3), (3, 3)] := ⟨.inl ⟨_, Try.underlying59, by kernel_rfl, by kernel_rfl⟩⟩
instance : Aggr Try.prog 59 6 := ⟨⟨_, Try.underlying59, rfl⟩, by kernel_rfl⟩
instance : Fld Try.prog 59 0 0 := ⟨fld_of (by kernel_rfl)⟩
instance : Fld Try.prog 59 1 3 := ⟨fld_of (by kernel_rfl)⟩
instance : Sz Try.prog 60 (.agg #[.int .i64 0, .int .i64 0, .int .i64 0, .int .i64 0, .int .i64 0, .int .i64 0]) 6 48 := ⟨by kernel_rfl⟩
instance : ZeroC Try.prog 60 [.int .i64 0, .int .i64 0, .int .i64 0, .int .i64 0, .int .i64 0, .int .i64 0] := ⟨zeroC_of (z := .agg #[.int .i64 0, .int .i64 0, .int .i64 0, .int .i64 0, .int .i64 0, .int .i64 0]) (by kernel_rfl) rfl⟩
instance : Parts Try.prog 60 [(0, 3), (3, 3)] := ⟨.inl ⟨_, Try.underlying60, by kernel_rfl, by kernel_rfl⟩⟩
instance : Aggr Try.prog 60 6 := ⟨⟨_, Try.underlying60, rfl⟩, by kernel_rfl⟩
instance : Fld Try.prog 60 0 0 := ⟨fld_of (by kernel_rfl)⟩
instance : Fld Try.prog 60 1 3 := ⟨fld_of (by kernel_rfl)⟩
instance : Sz Try.prog 61 (.nilFunc) 1 8 := ⟨by kernel_rfl⟩
instance : ZeroC Try.prog 61 [.nilFunc] := ⟨zeroC_of (z := .nilFunc) (by kernel_rfl) rfl⟩
instance : Scalar Try.prog 61 := ⟨_, Try.underlying61, rfl⟩
instance : Sz Try.prog 62 (.agg #[.int .i64 0, .int .i64 0, .int .i64 0, .int .i64 0, .bool false, .int .i64 0, .int .i64 0]) 7 56 := ⟨by kernel_rfl⟩
instance : ZeroC Try.prog 62 [.int .i64 0, .int .i64 0, .int .i64 0, .int .i64 0, .bool false, .int .i64 0, .int .i64 0] := ⟨zeroC_of (z := .agg #[.int .i64 0, .int .i64 0, .int .i64 0, .int .i64 0, .bool false, .int .i64 0, .int .i64 0]) (by kernel_rfl) rfl⟩
instance : Parts Try.prog 62 [(0, 1), (1, 1), (2, 1), (3, 1), (4, 1), (5, 1), (6, 1)] := ⟨.inl ⟨_, Try.underlying62, by kernel_rfl, by kernel_rfl⟩⟩
instance : Aggr Try.prog 62 7 := ⟨⟨_, Try.underlying62, rfl⟩, by kernel_rfl⟩
instance : Fld Try.prog 62 0 0 := ⟨fld_of (by kernel_rfl)⟩
instance : Fld Try.prog 62 1 1 := ⟨fld_of (by kernel_rfl)⟩
instance : Fld Try.prog 62 2 2 := ⟨fld_of (by kernel_rfl)⟩
instance : Fld Try.prog 62 3 3 := ⟨fld_of (by kernel_rfl)⟩
instance : Fld Try.prog 62 4 4 := ⟨fld_of (by kernel_rfl)⟩
instance : Fld Try.prog 62 5 5 := ⟨fld_of (by kernel_rfl)⟩
instance : Fld Try.prog 62 6 6 := ⟨fld_of (by kernel_rfl)⟩
instance : Sz Try.prog 63 (.nilFunc) 1 8 := ⟨by kernel_rfl⟩
instance : ZeroC Try.prog 63 [.nilFunc] := ⟨zeroC_of (z := .nilFunc) (by kernel_rfl) rfl⟩
instance : Scalar Try.prog 63 := ⟨_, Try.underlying63, rfl⟩
instance : Sz Try.prog 64 (.agg #[.int .i64 0, .int .i64 0, .int .i64 0, .int .i64 0]) 4 32 := ⟨by kernel_rfl⟩
instance : ZeroC Try.prog 64 [.int .i64 0, .int .i64 0, .int .i64 0, .int .i64 0] := ⟨zeroC_of (z := .agg #[.int .i64 0, .int .i64 0, .int .i64 0, .int .i64 0]) (by kernel_rfl) rfl⟩
instance : Parts Try.prog 64 [(0, 1), (1, 1), (2, 1), (3, 1)] := ⟨.inl ⟨_, Try.underlying64, by kernel_rfl, by kernel_rfl⟩⟩
instance : Aggr Try.prog 64 4 := ⟨⟨_, Try.underlying64, rfl⟩, by kernel_rfl⟩
instance : Fld Try.prog 64 0 0 := ⟨fld_of (by kernel_rfl)⟩
instance : Fld Try.prog 64 1 1 := ⟨fld_of (by kernel_rfl)⟩
instance : Fld Try.prog 64 2 2 := ⟨fld_of (by kernel_rfl)⟩
instance : Fld Try.prog 64 3 3 := ⟨fld_of (by kernel_rfl)⟩
instance : Sz Try.prog 65 (.nilFunc) 1 8 := ⟨by kernel_rfl⟩
instance : ZeroC Try.prog 65 [.nilFunc] := ⟨zeroC_of (z := .nilFunc) (by kernel_rfl) rfl⟩
instance : Scalar Try.prog 65 := ⟨_, Try.underlying65, rfl⟩
instance : Sz Try.prog 66 (.nilFunc) 1 8 := ⟨by kernel_rfl⟩
instance : ZeroC Try.prog 66 [.nilFunc] := ⟨zeroC_of (z := .nilFunc) (by kernel_rfl) rfl⟩
instance : Scalar Try.prog 66 := ⟨_, Try.underlying66, rfl⟩
instance : Sz Try.prog 67 (.nilFunc) 1 8 := ⟨by kernel_rfl⟩
instance : ZeroC Try.prog 67 [.nilFunc] := ⟨zeroC_of (z := .nilFunc) (by kernel_rfl) rfl⟩
instance : Scalar Try.prog 67 := ⟨_, Try.underlying67, rfl⟩
instance : Sz Try.prog 68 (.slice none 0 0) 1 24 := ⟨by kernel_rfl⟩
instance : ZeroC Try.prog 68 [.slice none 0 0] := ⟨zeroC_of (z := .slice none 0 0) (by kernel_rfl) rfl⟩
instance : Scalar Try.prog 68 := ⟨_, Try.underlying68, rfl⟩
instance : SliceT Try.prog 68 3 := ⟨Try.underlying68⟩
instance : Sz Try.prog 69 (.agg #[.int .i64 0, .slice none 0 0]) 2 32 := ⟨by kernel_rfl⟩
instance : ZeroC Try.prog 69 [.int .i64 0, .slice none 0 0] := ⟨zeroC_of (z := .agg #[.int .i64 0, .slice none 0 0]) (by kernel_rfl) rfl⟩
instance : Parts Try.prog 69 [(0, 1), (1, 1)] := ⟨.inl ⟨_, Try.underlying69, by kernel_rfl, by kernel_rfl⟩⟩
instance : Aggr Try.prog 69 2 := ⟨⟨_, Try.underlying69, rfl⟩, by kernel_rfl⟩
instance : Fld Try.prog 69 0 0 := ⟨fld_of (by kernel_rfl)⟩
instance : Fld Try.prog 69 1 1 := ⟨fld_of (by kernel_rfl)⟩
instance : Sz Try.prog 70 (.agg #[.int .i64 0, .slice none 0 0]) 2 32 := ⟨by kernel_rfl⟩
instance : ZeroC Try.prog 70 [.int .i64 0, .slice none 0 0] := ⟨zeroC_of (z := .agg #[.int .i64 0, .slice none 0 0]) (by kernel_rfl) rfl⟩
instance : Parts Try.prog 70 [(0, 1), (1, 1)] := ⟨.inl ⟨_, Try.underlying70, by kernel_rfl, by kernel_rfl⟩⟩
instance : Aggr Try.prog 70 2 := ⟨⟨_, Try.underlying70, rfl⟩, by kernel_rfl⟩
instance : Fld Try.prog 70 0 0 := ⟨fld_of (by kernel_rfl)⟩
instance : Fld Try.prog 70 1 1 := ⟨fld_of (by kernel_rfl)⟩
instance : Sz Try.prog 71 (.nilFunc) 1 8 := ⟨by kernel_rfl⟩
instance : ZeroC Try.prog 71 [.nilFunc] := ⟨zeroC_of (z := .nilFunc) (by kernel_rfl) rfl⟩
instance : Scalar Try.prog 71 := ⟨_, Try.underlying71, rfl⟩
instance : Sz Try.prog 72 (.nilFunc) 1 8 := ⟨by kernel_rfl⟩
instance : ZeroC Try.prog 72 [.nilFunc] := ⟨zeroC_of (z := .nilFunc) (by kernel_rfl) rfl⟩
instance : Scalar Try.prog 72 := ⟨_, Try.underlying72, rfl⟩
instance : Sz Try.prog 73 (.agg #[.int .i64 0, .slice none 0 0]) 2 32 := ⟨by kernel_rfl⟩
instance : ZeroC Try.prog 73 [.int .i64 0, .slice none 0 0] := ⟨zeroC_of (z := .agg #[.int .i64 0, .slice none 0 0]) (by kernel_rfl) rfl⟩
instance : Parts Try.prog 73 [(0, 1), (1, 1)] := ⟨.inl ⟨_, Try.underlying73, by kernel_rfl, by kernel_rfl⟩⟩
instance : Aggr Try.prog 73 2 := ⟨⟨_, Try.underlying73, rfl⟩, by kernel_rfl⟩
instance : Fld Try.prog 73 0 0 := ⟨fld_of (by kernel_rfl)⟩
instance : Fld Try.prog 73 1 1 := ⟨fld_of (by kernel_rfl)⟩
instance : Sz Try.prog 74 (.nilFunc) 1 8 := ⟨by kernel_rfl⟩
instance : ZeroC Try.prog 74 [.nilFunc] := ⟨zeroC_of (z := .nilFunc) (by kernel_rfl) rfl⟩
instance : Scalar Try.prog 74 := ⟨_, Try.underlying74, rfl⟩
instance : Sz Try.prog 75 (.nilFunc) 1 8 := ⟨by kernel_rfl⟩
instance : ZeroC Try.prog 75 [.nilFunc] := ⟨zeroC_of (z := .nilFunc) (by kernel_rfl) rfl⟩
instance : Scalar Try.prog 75 := ⟨_, Try.underlying75, rfl⟩
instance : Sz Try.prog 76 (.nilFunc) 1 8 := ⟨by kernel_rfl⟩
instance : ZeroC Try.prog 76 [.nilFunc] := ⟨zeroC_of (z := .nilFunc) (by kernel_rfl) rfl⟩
instance : Scalar Try.prog 76 := ⟨_, Try.underlying76, rfl⟩
instance : Sz Try.prog 77 (.nilFunc) 1 8 := ⟨by kernel_rfl⟩
instance : ZeroC Try.prog 77 [.nilFunc] := ⟨zeroC_of (z := .nilFunc) (by kernel_rfl) rfl⟩
instance : Scalar Try.prog 77 := ⟨_, Try.underlying77, rfl⟩
instance : Sz Try.prog 78 (.slice none 0 0) 1 24 := ⟨by kernel_rfl⟩
instance : ZeroC Try.prog 78 [.slice none 0 0] := ⟨zeroC_of (z := .slice none 0 0) (by kernel_rfl) rfl⟩
instance : Scalar Try.prog 78 := ⟨_, Try.underlying78, rfl⟩
instance : SliceT Try.prog 78 130 := ⟨Try.underlying78⟩
instance : Sz Try.prog 79 (.agg #[.int .i64 0, .slice none 0 0, .int .i64 0]) 3 40 := ⟨by kernel_rfl⟩
instance : ZeroC Try.prog 79 [.int .i64 0, .slice none 0 0, .int .i64 0] := ⟨zeroC_of (z := .agg #[.int .i64 0, .slice none 0 0, .int .i64 0]) (by kernel_rfl) rfl⟩
instance : Parts Try.prog 79 [(0, 1), (1, 1), (2, 1)] := ⟨.inl ⟨_, Try.underlying79, by kernel_rfl, by kernel_rfl⟩⟩
instance : Aggr Try.prog 79 3 := ⟨⟨_, Try.underlying79, rfl⟩, by kernel_rfl⟩
instance : Fld Try.prog 79 0 0 := ⟨fld_of (by kernel_rfl)⟩
instance : Fld Try.prog 79 1 1 := ⟨fld_of (by kernel_rfl)⟩
instance : Fld Try.prog 79 2 2 := ⟨fld_of (by kernel_rfl)⟩
instance : Sz Try.prog 80 (.agg #[.int .i64 0, .slice none 0 0, .int .i64 0]) 3 40 := ⟨by kernel_rfl⟩
instance : ZeroC Try.prog 80 [.int .i64 0, .slice none 0 0, .int .i64 0] := ⟨zeroC_of (z := .agg #[.int .i64 0, .slice none 0 0, .int .i64 0]) (by kernel_rfl) rfl⟩
instance : Parts Try.prog 80 [(0, 1), (1, 1), (2, 1)] := ⟨.inl ⟨_, Try.underlying80, by kernel_rfl, by kernel_rfl⟩⟩
instance : Aggr Try.prog 80 3 := ⟨⟨_, Try.underlying80, rfl⟩, by kernel_rfl⟩
instance : Fld Try.prog 80 0 0 := ⟨fld_of (by kernel_rfl)⟩
instance : Fld Try.prog 80 1 1 := ⟨fld_of (by kernel_rfl)⟩
instance : Fld Try.prog 80 2 2 := ⟨fld_of (by kernel_rfl)⟩
instance : Sz Try.prog 81 (.nilFunc) 1 8 := ⟨by kernel_rfl⟩
instance : ZeroC Try.prog 81 [.nilFunc] := ⟨zeroC_of (z := .nilFunc) (by kernel_rfl) rfl⟩
instance : Scalar Try.prog 81 := ⟨_, Try.underlying81, rfl⟩
instance : Sz Try.prog 82 (.nilFunc) 1 8 := ⟨by kernel_rfl⟩
instance : ZeroC Try.prog 82 [.nilFunc] := ⟨zeroC_of (z := .nilFunc) (by kernel_rfl) rfl⟩
instance : Scalar Try.prog 82 := ⟨_, Try.underlying82, rfl⟩
instance : Sz Try.prog 83 (.nilFunc) 1 8 := ⟨by kernel_rfl⟩
instance : ZeroC Try.prog 83 [.nilFunc] := ⟨zeroC_of (z := .nilFunc) (by kernel_rfl) rfl⟩
instance : Scalar Try.prog 83 := ⟨_, Try.underlying83, rfl⟩
instance : Sz Try.prog 84 (.nilFunc) 1 8 := ⟨by kernel_rfl⟩
instance : ZeroC Try.prog 84 [.nilFunc] := ⟨zeroC_of (z := .nilFunc) (by kernel_rfl) rfl⟩
instance : Scalar Try.prog 84 := ⟨_, Try.underlying84, rfl⟩
instance : Sz Try.prog 85 (.slice none 0 0) 1 24 := ⟨by kernel_rfl⟩
instance : ZeroC Try.prog 85 [.slice none 0 0] := ⟨zeroC_of (z := .slice none 0 0) (by kernel_rfl) rfl⟩
instance : Scalar Try.prog 85 := ⟨_, Try.underlying85, rfl⟩
instance : SliceT Try.prog 85 153 := ⟨Try.underlying85⟩
instance : Sz Try.prog 86 (.agg #[.int .i64 0, .slice none 0 0, .int .i64 0]) 3 40 := ⟨by kernel_rfl⟩
instance : ZeroC Try.prog 86 [.int .i64 0, .slice none 0 0, .int .i64 0] := ⟨zeroC_of (z := .agg #[.int .i64 0, .slice none 0 0, .int .i64 0]) (by kernel_rfl) rfl⟩
instance : Parts Try.prog 86 [(0, 1), (1, 1), (2, 1)] := ⟨.inl ⟨_, Try.underlying86, by kernel_rfl, by kernel_rfl⟩⟩
instance : Aggr Try.prog 86 3 := ⟨⟨_, Try.underlying86, rfl⟩, by kernel_rfl⟩
instance : Fld Try.prog 86 0 0 := ⟨fld_of (by kernel_rfl)⟩
instance : Fld Try.prog 86 1 1 := ⟨fld_of (by kernel_rfl)⟩
instance : Fld Try.prog 86 2 2 := ⟨fld_of (by kernel_rfl)⟩
instance : Sz Try.prog 87 (.agg #[.int .i64 0, .slice none 0 0, .int .i64 0]) 3 40 := ⟨by kernel_rfl⟩
instance : ZeroC Try.prog 87 [.int .i64 0, .slice none 0 0, .int .i64 0] := ⟨zeroC_of (z := .agg #[.int .i64 0, .slice none 0 0, .int .i64 0]) (by kernel_rfl) rfl⟩
instance : Parts Try.prog 87 [(0, 1), (1, 1), (2, 1)] := ⟨.inl ⟨_, Try.underlying87, by kernel_rfl, by kernel_rfl⟩⟩
instance : Aggr Try.prog 87 3 := ⟨⟨_, Try.underlying87, rfl⟩, by kernel_rfl⟩
instance : Fld Try.prog 87 0 0 := ⟨fld_of (by kernel_rfl)⟩
instance : Fld Try.prog 87 1 1 := ⟨fld_of (by kernel_rfl)⟩
instance : Fld Try.prog 87 2 2 := ⟨fld_of (by kernel_rfl)⟩
instance : Sz Try.prog 88 (.nilFunc) 1 8 := ⟨by kernel_rfl⟩
instance : ZeroC Try.prog 88 [.nilFunc] := ⟨zeroC_of (z := .nilFunc) (by kernel_rfl) rfl⟩
instance : Scalar Try.prog 88 := ⟨_, Try.underlying88, rfl⟩
instance : Sz Try.prog 89 (.nilFunc) 1 8 := ⟨by kernel_rfl⟩
instance : ZeroC Try.prog 89 [.nilFunc] := ⟨zeroC_of (z := .nilFunc) (by kernel_rfl) rfl⟩
instance : Scalar Try.prog 89 := ⟨_, Try.underlying89, rfl⟩
instance : Sz Try.prog 90 (.nilFunc) 1 8 := ⟨by kernel_rfl⟩
instance : ZeroC Try.prog 90 [.nilFunc] := ⟨zeroC_of (z := .nilFunc) (by kernel_rfl) rfl⟩
instance : Scalar Try.prog 90 := ⟨_, Try.underlying90, rfl⟩
instance : Sz Try.prog 91 (.nilFunc) 1 8 := ⟨by kernel_rfl⟩
instance : ZeroC Try.prog 91 [.nilFunc] := ⟨zeroC_of (z := .nilFunc) (by kernel_rfl) rfl⟩
instance : Scalar Try.prog 91 := ⟨_, Try.underlying91, rfl⟩
instance : Sz Try.prog 92 (.nilFunc) 1 8 := ⟨by kernel_rfl⟩
instance : ZeroC Try.prog 92 [.nilFunc] := ⟨zeroC_of (z := .nilFunc) (by kernel_rfl) rfl⟩
instance : Scalar Try.prog 92 := ⟨_, Try.underlying92, rfl⟩
instance : Sz Try.prog 93 (.agg #[.int .i64 0, .int .i64 0, .int .i64 0, .int .i64 0, .int .i64 0, .int .i64 0, .int .i64 0, .int .i64 0, .int .i64 0]) 9 72 := ⟨by kernel_rfl⟩
instance : ZeroC Try.prog 93 [.int .i64 0, .int .i64 0, .int .i64 0, .int .i64 0, .int .i64 0, .int .i64 0, .int .i64 0, .int .i64 0, .int .i64 0] := ⟨zeroC_of (z := .agg #[.int .i64 0, .int .i64 0, .int .i64 0, .int .i64 0, .int .i64 0, .int .i64 0, .int .i64 0, .int .i64 0, .int .i64 0]) (by kernel_rfl) rfl⟩
instance : Parts Try.prog 93 [(0, 3), (3, 3), (6, 3)] := ⟨.inr ⟨_, _, Try.underlying93, by kernel_rfl, by kernel_rfl⟩⟩
instance : Aggr Try.prog 93 9 := ⟨⟨_, Try.underlying93, rfl⟩, by kernel_rfl⟩
instance : ArrT Try.prog 93 3 33 := ⟨Try.underlying93⟩
instance : Sz Try.prog 94 (.agg #[.int .i64 0, .int .i64 0, .int .i64 0, .int .i64 0, .int .i64 0, .int .i64 0, .int .i64 0, .int .i64 0, .int .i64 0]) 9 72 := ⟨by kernel_rfl⟩
instance : ZeroC Try.prog 94 [.int .i64 0, .int .i64 0, .int .i64 0, .int .i64 0, .int .i64 0, .int .i64 0, .int .i64 0, .int .i64 0, .int .i64 0] := ⟨zeroC_of (z := .agg #[.int .i64 0, .int .i64 0, .int .i64 0, .int .i64 0, .int .i64 0, .int .i64 0, .int .i64 0, .int .i64 0, .int .i64 0]) (by kernel_rfl) rfl⟩
instance : Parts Try.prog 94 [(0, 9)] := ⟨.inl ⟨_, Try.underlying94, by kernel_rfl, by kernel_rfl⟩⟩
instance : Aggr Try.prog 94 9 := ⟨⟨_, Try.underlying94, rfl⟩, by kernel_rfl⟩
instance : Fld Try.prog 94 0 0 := ⟨fld_of (by kernel_rfl)⟩
instance : Sz Try.prog 95 (.agg #[.int .i64 0, .int .i64 0, .int .i64 0, .int .i64 0, .int .i64 0, .int .i64 0, .int .i64 0, .int .i64 0, .int .i64 0]) 9 72 := ⟨by kernel_rfl⟩
instance : ZeroC Try.prog 95 [.int .i64 0, .int .i64 0, .int .i64 0, .int .i64 0, .int .i64 0, .int .i64 0, .int .i64 0, .int .i64 0, .int .i64 0] := ⟨zeroC_of (z := .agg #[.int .i64 0, .int .i64 0, .int .i64 0, .int .i64 0, .int .i64 0, .int .i64 0, .int .i64 0, .int .i64 0, .int .i64 0]) (by kernel_rfl) rfl⟩
instance : Parts Try.prog 95 [(0, 9)] := ⟨.inl ⟨_, Try.underlying95, by kernel_rfl, by kernel_rfl⟩⟩
instance : Aggr Try.prog 95 9 := ⟨⟨_, Try.underlying95, rfl⟩, by kernel_rfl⟩
instance : Fld Try.prog 95 0 0 := ⟨fld_of (by kernel_rfl)⟩
instance : Sz Try.prog 96 (.nilFunc) 1 8 := ⟨by kernel_rfl⟩
instance : ZeroC Try.prog 96 [.nilFunc] := ⟨zeroC_of (z := .nilFunc) (by kernel_rfl) rfl⟩
instance : Scalar Try.prog 96 := ⟨_, Try.underlying96, rfl⟩
instance : Sz Try.prog 97 (.nilFunc) 1 8 := ⟨by kernel_rfl⟩
instance : ZeroC Try.prog 97 [.nilFunc] := ⟨zeroC_of (z := .nilFunc) (by kernel_rfl) rfl⟩
instance : Scalar Try.prog 97 := ⟨_, Try.underlying97, rfl⟩
instance : Sz Try.prog 98 (.nilFunc) 1 8 := ⟨by kernel_rfl⟩
instance : ZeroC Try.prog 98 [.nilFunc] := ⟨zeroC_of (z := .nilFunc) (by kernel_rfl) rfl⟩
instance : Scalar Try.prog 98 := ⟨_, Try.underlying98, rfl⟩
instance : Sz Try.prog 99 (.nilFunc) 1 8 := ⟨by kernel_rfl⟩
instance : ZeroC Try.prog 99 [.nilFunc] := ⟨zeroC_of (z := .nilFunc) (by kernel_rfl) rfl⟩
instance : Scalar Try.prog 99 := ⟨_, Try.underlying99, rfl⟩
instance : Sz Try.prog 100 (.nilFunc) 1 8 := ⟨by kernel_rfl⟩
instance : ZeroC Try.prog 100 [.nilFunc] := ⟨zeroC_of (z := .nilFunc) (by kernel_rfl) rfl⟩
instance : Scalar Try.prog 100 := ⟨_, Try.underlying100, rfl⟩
instance : Sz Try.prog 101 (.nilFunc) 1 8 := ⟨by kernel_rfl⟩
instance : ZeroC Try.prog 101 [.nilFunc] := ⟨zeroC_of (z := .nilFunc) (by kernel_rfl) rfl⟩
instance : Scalar Try.prog 101 := ⟨_, Try.underlying101, rfl⟩
instance : Sz Try.prog 102 (.nilFunc) 1 8 := ⟨by kernel_rfl⟩
instance : ZeroC Try.prog 102 [.nilFunc] := ⟨zeroC_of (z := .nilFunc) (by kernel_rfl) rfl⟩
instance : Scalar Try.prog 102 := ⟨_, Try.underlying102, rfl⟩
instance : Sz Try.prog 103 (.nilFunc) 1 8 := ⟨by kernel_rfl⟩
instance : ZeroC Try.prog 103 [.nilFunc] := ⟨zeroC_of (z := .nilFunc) (by kernel_rfl) rfl⟩
instance : Scalar Try.prog 103 := ⟨_, Try.underlying103, rfl⟩
instance : Sz Try.prog 104 (.nilFunc) 1 8 := ⟨by kernel_rfl⟩
instance : ZeroC Try.prog 104 [.nilFunc] := ⟨zeroC_of (z := .nilFunc) (by kernel_rfl) rfl⟩
instance : Scalar Try.prog 104 := ⟨_, Try.underlying104, rfl⟩
instance : Sz Try.prog 105 (.pointer none) 1 8 := ⟨by kernel_rfl⟩
instance : ZeroC Try.prog 105 [.pointer none] := ⟨zeroC_of (z := .pointer none) (by kernel_rfl) rfl⟩
instance : Scalar Try.prog 105 := ⟨_, Try.underlying105, rfl⟩
instance : Sz Try.prog 106 (.nilFunc) 1 8 := ⟨by kernel_rfl⟩
instance : ZeroC Try.prog 106 [.nilFunc] := ⟨zeroC_of (z := .nilFunc) (by kernel_rfl) rfl⟩
instance : Scalar Try.prog 106 := ⟨_, Try.underlying106, rfl⟩
instance : Sz Try.prog 107 (.nilFunc) 1 8 := ⟨by kernel_rfl⟩
instance : ZeroC Try.prog 107 [.nilFunc] := ⟨zeroC_of (z := .nilFunc) (by kernel_rfl) rfl⟩
instance : Scalar Try.prog 107 := ⟨_, Try.underlying107, rfl⟩
instance : Sz Try.prog 109 (.nilFunc) 1 8 := ⟨by kernel_rfl⟩
instance : ZeroC Try.prog 109 [.nilFunc] := ⟨zeroC_of (z := .nilFunc) (by kernel_rfl) rfl⟩
instance : Scalar Try.prog 109 := ⟨_, Try.underlying109, rfl⟩
instance : Sz Try.prog 110 (.nilFunc) 1 8 := ⟨by kernel_rfl⟩
instance : ZeroC Try.prog 110 [.nilFunc] := ⟨zeroC_of (z := .nilFunc) (by kernel_rfl) rfl⟩
instance : Scalar Try.prog 110 := ⟨_, Try.underlying110, rfl⟩
instance : Sz Try.prog 111 (.nilFunc) 1 8 := ⟨by kernel_rfl⟩
instance : ZeroC Try.prog 111 [.nilFunc] := ⟨zeroC_of (z := .nilFunc) (by kernel_rfl) rfl⟩
instance : Scalar Try.prog 111 := ⟨_, Try.underlying111, rfl⟩
instance : Sz Try.prog 112 (.nilFunc) 1 8 := ⟨by kernel_rfl⟩
instance : ZeroC Try.prog 112 [.nilFunc] := ⟨zeroC_of (z := .nilFunc) (by kernel_rfl) rfl⟩
instance : Scalar Try.prog 112 := ⟨_, Try.underlying112, rfl⟩
instance : Sz Try.prog 113 (.nilFunc) 1 8 := ⟨by kernel_rfl⟩
instance : ZeroC Try.prog 113 [.nilFunc] := ⟨zeroC_of (z := .nilFunc) (by kernel_rfl) rfl⟩
instance : Scalar Try.prog 113 := ⟨_, Try.underlying113, rfl⟩
instance : Sz Try.prog 114 (.nilFunc) 1 8 := ⟨by kernel_rfl⟩
instance : ZeroC Try.prog 114 [.nilFunc] := ⟨zeroC_of (z := .nilFunc) (by kernel_rfl) rfl⟩
instance : Scalar Try.prog 114 := ⟨_, Try.underlying114, rfl⟩
instance : Sz Try.prog 115 (.agg #[.int .i64 0, .int .i64 0, .int .i64 0, .int .i64 0, .int .i64 0]) 5 40 := ⟨by kernel_rfl⟩
instance : ZeroC Try.prog 115 [.int .i64 0, .int .i64 0, .int .i64 0, .int .i64 0, .int .i64 0] := ⟨zeroC_of (z := .agg #[.int .i64 0, .int .i64 0, .int .i64 0, .int .i64 0, .int .i64 0]) (by kernel_rfl) rfl⟩
instance : Parts Try.prog 115 [(0, 1), (1, 1), (2, 1), (3, 1), (4, 1)] := ⟨.inl ⟨_, Try.underlying115, by kernel_rfl, by kernel_rfl⟩⟩
instance : Aggr Try.prog 115 5 := ⟨⟨_, Try.underlying115, rfl⟩, by kernel_rfl⟩
instance : Fld Try.prog 115 0 0 := ⟨fld_of (by kernel_rfl)⟩
instance : Fld Try.prog 115 1 1 := ⟨fld_of (by kernel_rfl)⟩
instance : Fld Try.prog 115 2 2 := ⟨fld_of (by kernel_rfl)⟩
instance : Fld Try.prog 115 3 3 := ⟨fld_of (by kernel_rfl)⟩
instance : Fld Try.prog 115 4 4 := ⟨fld_of (by kernel_rfl)⟩
instance : Sz Try.prog 116 (.agg #[.int .i64 0, .int .i64 0, .int .i64 0, .int .i64 0, .int .i64 0]) 5 40 := ⟨by kernel_rfl⟩
instance : ZeroC Try.prog 116 [.int .i64 0, .int .i64 0, .int .i64 0, .int .i64 0, .int .i64 0] := ⟨zeroC_of (z := .agg #[.int .i64 0, .int .i64 0, .int .i64 0, .int .i64 0, .int .i64 0]) (by kernel_rfl) rfl⟩
instance : Parts Try.prog 116 [(0, 1), (1, 1), (2, 1), (3, 1), (4, 1)] := ⟨.inl ⟨_, Try.underlying116, by kernel_rfl, by kernel_rfl⟩⟩
instance : Aggr Try.prog 116 5 := ⟨⟨_, Try.underlying116, rfl⟩, by kernel_rfl⟩
instance : Fld Try.prog 116 0 0 := ⟨fld_of (by kernel_rfl)⟩
instance : Fld Try.prog 116 1 1 := ⟨fld_of (by kernel_rfl)⟩
instance : Fld Try.prog 116 2 2 := ⟨fld_of (by kernel_rfl)⟩
instance : Fld Try.prog 116 3 3 := ⟨fld_of (by kernel_rfl)⟩
instance : Fld Try.prog 116 4 4 := ⟨fld_of (by kernel_rfl)⟩
instance : Sz Try.prog 117 (.nilFunc) 1 8 := ⟨by kernel_rfl⟩
instance : ZeroC Try.prog 117 [.nilFunc] := ⟨zeroC_of (z := .nilFunc) (by kernel_rfl) rfl⟩
instance : Scalar Try.prog 117 := ⟨_, Try.underlying117, rfl⟩
instance : Sz Try.prog 118 (.agg #[.int .i64 0, .int .i64 0, .int .i64 0, .int .i64 0, .int .i64 0]) 5 40 := ⟨by kernel_rfl⟩
instance : ZeroC Try.prog 118 [.int .i64 0, .int .i64 0, .int .i64 0, .int .i64 0, .int .i64 0] := ⟨zeroC_of (z := .agg #[.int .i64 0, .int .i64 0, .int .i64 0, .int .i64 0, .int .i64 0]) (by kernel_rfl) rfl⟩
instance : Parts Try.prog 118 [(0, 1), (1, 1), (2, 1), (3, 1), (4, 1)] := ⟨.inl ⟨_, Try.underlying118, by kernel_rfl, by kernel_rfl⟩⟩
instance : Aggr Try.prog 118 5 := ⟨⟨_, Try.underlying118, rfl⟩, by kernel_rfl⟩
instance : Fld Try.prog 118 0 0 := ⟨fld_of (by kernel_rfl)⟩
instance : Fld Try.prog 118 1 1 := ⟨fld_of (by kernel_rfl)⟩
instance : Fld Try.prog 118 2 2 := ⟨fld_of (by kernel_rfl)⟩
instance : Fld Try.prog 118 3 3 := ⟨fld_of (by kernel_rfl)⟩
instance : Fld Try.prog 118 4 4 := ⟨fld_of (by kernel_rfl)⟩
instance : Sz Try.prog 119 (.nilFunc) 1 8 := ⟨by kernel_rfl⟩
instance : ZeroC Try.prog 119 [.nilFunc] := ⟨zeroC_of (z := .nilFunc) (by kernel_rfl) rfl⟩
instance : Scalar Try.prog 119 := ⟨_, Try.underlying119, rfl⟩
instance : Sz Try.prog 120 (.nilFunc) 1 8 := ⟨by kernel_rfl⟩
instance : ZeroC Try.prog 120 [.nilFunc] := ⟨zeroC_of (z := .nilFunc) (by kernel_rfl) rfl⟩
instance : Scalar Try.prog 120 := ⟨_, Try.underlying120, rfl⟩
instance : Sz Try.prog 121 (.nilFunc) 1 8 := ⟨by kernel_rfl⟩
instance : ZeroC Try.prog 121 [.nilFunc] := ⟨zeroC_of (z := .nilFunc) (by kernel_rfl) rfl⟩
instance : Scalar Try.prog 121 := ⟨_, Try.underlying121, rfl⟩
instance : Sz Try.prog 122 (.nilFunc) 1 8 := ⟨by kernel_rfl⟩
instance : ZeroC Try.prog 122 [.nilFunc] := ⟨zeroC_of (z := .nilFunc) (by kernel_rfl) rfl⟩
instance : Scalar Try.prog 122 := ⟨_, Try.underlying122, rfl⟩
instance : Sz Try.prog 123 (.nilFunc) 1 8 := ⟨by kernel_rfl⟩
instance : ZeroC Try.prog 123 [.nilFunc] := ⟨zeroC_of (z := .nilFunc) (by kernel_rfl) rfl⟩
instance : Scalar Try.prog 123 := ⟨_, Try.underlying123, rfl⟩
instance : Sz Try.prog 124 (.nilFunc) 1 8 := ⟨by kernel_rfl⟩
instance : ZeroC Try.prog 124 [.nilFunc] := ⟨zeroC_of (z := .nilFunc) (by kernel_rfl) rfl⟩
instance : Scalar Try.prog 124 := ⟨_, Try.underlying124, rfl⟩
instance : Sz Try.prog 125 (.nilFunc) 1 8 := ⟨by kernel_rfl⟩
instance : ZeroC Try.prog 125 [.nilFunc] := ⟨zeroC_of (z := .nilFunc) (by kernel_rfl) rfl⟩
instance : Scalar Try.prog 125 := ⟨_, Try.underlying125, rfl⟩
instance : Sz Try.prog 126 (.nilFunc) 1 8 := ⟨by kernel_rfl⟩
instance : ZeroC Try.prog 126 [.nilFunc] := ⟨zeroC_of (z := .nilFunc) (by kernel_rfl) rfl⟩
instance : Scalar Try.prog 126 := ⟨_, Try.underlying126, rfl⟩
instance : Sz Try.prog 127 (.nilFunc) 1 8 := ⟨by kernel_rfl⟩
instance : ZeroC Try.prog 127 [.nilFunc] := ⟨zeroC_of (z := .nilFunc) (by kernel_rfl) rfl⟩
instance : Scalar Try.prog 127 := ⟨_, Try.underlying127, rfl⟩
instance : Sz Try.prog 128 (.nilFunc) 1 8 := ⟨by kernel_rfl⟩
instance : ZeroC Try.prog 128 [.nilFunc] := ⟨zeroC_of (z := .nilFunc) (by kernel_rfl) rfl⟩
instance : Scalar Try.prog 128 := ⟨_, Try.underlying128, rfl⟩
instance : Sz Try.prog 129 (.agg #[.int .i64 0, .int .i64 0, .int .i64 0]) 3 24 := ⟨by kernel_rfl⟩
instance : ZeroC Try.prog 129 [.int .i64 0, .int .i64 0, .int .i64 0] := ⟨zeroC_of (z := .agg #[.int .i64 0, .int .i64 0, .int .i64 0]) (by kernel_rfl) rfl⟩
instance : Parts Try.prog 129 [(0, 1), (1, 1), (2, 1)] := ⟨.inl ⟨_, Try.underlying129, by kernel_rfl, by kernel_rfl⟩⟩
instance : Aggr Try.prog 129 3 := ⟨⟨_, Try.underlying129, rfl⟩, by kernel_rfl⟩
instance : Fld Try.prog 129 0 0 := ⟨fld_of (by kernel_rfl)⟩
instance : Fld Try.prog 129 1 1 := ⟨fld_of (by kernel_rfl)⟩
instance : Fld Try.prog 129 2 2 := ⟨fld_of (by kernel_rfl)⟩
instance : Sz Try.prog 130 (.agg #[.int .i64 0, .int .i64 0, .int .i64 0]) 3 24 := ⟨by kernel_rfl⟩
instance : ZeroC Try.prog 130 [.int .i64 0, .int .i64 0, .int .i64 0] := ⟨zeroC_of (z := .agg #[.int .i64 0, .int .i64 0, .int .i64 0]) (by kernel_rfl) rfl⟩
instance : Parts Try.prog 130 [(0, 1), (1, 1), (2, 1)] := ⟨.inl ⟨_, Try.underlying130, by kernel_rfl, by kernel_rfl⟩⟩
instance : Aggr Try.prog 130 3 := ⟨⟨_, Try.underlying130, rfl⟩, by kernel_rfl⟩
instance : Fld Try.prog 130 0 0 := ⟨fld_of (by kernel_rfl)⟩
instance : Fld Try.prog 130 1 1 := ⟨fld_of (by kernel_rfl)⟩
instance : Fld Try.prog 130 2 2 := ⟨fld_of (by kernel_rfl)⟩
instance : Sz Try.prog 131 (.nilFunc) 1 8 := ⟨by kernel_rfl⟩
instance : ZeroC Try.prog 131 [.nilFunc] := ⟨zeroC_of (z := .nilFunc) (by kernel_rfl) rfl⟩
instance : Scalar Try.prog 131 := ⟨_, Try.underlying131, rfl⟩
instance : Sz Try.prog 132 (.nilFunc) 1 8 := ⟨by kernel_rfl⟩
instance : ZeroC Try.prog 132 [.nilFunc] := ⟨zeroC_of (z := .nilFunc) (by kernel_rfl) rfl⟩
instance : Scalar Try.prog 132 := ⟨_, Try.underlying132, rfl⟩
instance : Sz Try.prog 133 (.nilFunc) 1 8 := ⟨by kernel_rfl⟩
instance : ZeroC Try.prog 133 [.nilFunc] := ⟨zeroC_of (z := .nilFunc) (by kernel_rfl) rfl⟩
instance : Scalar Try.prog 133 := ⟨_, Try.underlying133, rfl⟩
instance : Sz Try.prog 134 (.nilFunc) 1 8 := ⟨by kernel_rfl⟩
instance : ZeroC Try.prog 134 [.nilFunc] := ⟨zeroC_of (z := .nilFunc) (by kernel_rfl) rfl⟩
instance : Scalar Try.prog 134 := ⟨_, Try.underlying134, rfl⟩
instance : Sz Try.prog 135 (.nilFunc) 1 8 := ⟨by kernel_rfl⟩
instance : ZeroC Try.prog 135 [.nilFunc] := ⟨zeroC_of (z := .nilFunc) (by kernel_rfl) rfl⟩
instance : Scalar Try.prog 135 := ⟨_, Try.underlying135, rfl⟩
instance : Sz Try.prog 136 (.nilFunc) 1 8 := ⟨by kernel_rfl⟩
instance : ZeroC Try.prog 136 [.nilFunc] := ⟨zeroC_of (z := .nilFunc) (by kernel_rfl) rfl⟩
instance : Scalar Try.prog 136 := ⟨_, Try.underlying136, rfl⟩
instance : Sz Try.prog 137 (.nilFunc) 1 8 := ⟨by kernel_rfl⟩
instance : ZeroC Try.prog 137 [.nilFunc] := ⟨zeroC_of (z := .nilFunc) (by kernel_rfl) rfl⟩
instance : Scalar Try.prog 137 := ⟨_, Try.underlying137, rfl⟩
instance : Sz Try.prog 138 (.nilFunc) 1 8 := ⟨by kernel_rfl⟩
instance : ZeroC Try.prog 138 [.nilFunc] := ⟨zeroC_of (z := .nilFunc) (by kernel_rfl) rfl⟩
instance : Scalar Try.prog 138 := ⟨_, Try.underlying138, rfl⟩
instance : Sz Try.prog 139 (.nilFunc) 1 8 := ⟨by kernel_rfl⟩
instance : ZeroC Try.prog 139 [.nilFunc] := ⟨zeroC_of (z := .nilFunc) (by kernel_rfl) rfl⟩
instance : Scalar Try.prog 139 := ⟨_, Try.underlying139, rfl⟩
instance : Sz Try.prog 140 (.agg #[.slice none 0 0, .int .i64 0, .int .i64 0]) 3 40 := ⟨by kernel_rfl⟩
instance : ZeroC Try.prog 140 [.slice none 0 0, .int .i64 0, .int .i64 0] := ⟨zeroC_of (z := .agg #[.slice none 0 0, .int .i64 0, .int .i64 0]) (by kernel_rfl) rfl⟩
instance : Parts Try.prog 140 [(0, 1), (1, 1), (2, 1)] := ⟨.inl ⟨_, Try.underlying140, by kernel_rfl, by kernel_rfl⟩⟩
instance : Aggr Try.prog 140 3 := ⟨⟨_, Try.underlying140, rfl⟩, by kernel_rfl⟩
instance : Fld Try.prog 140 0 0 := ⟨fld_of (by kernel_rfl)⟩
instance : Fld Try.prog 140 1 1 := ⟨fld_of (by kernel_rfl)⟩
instance : Fld Try.prog 140 2 2 := ⟨fld_of (by kernel_rfl)⟩
instance : Sz Try.prog 141 (.agg #[.slice none 0 0, .int .i64 0, .int .i64 0]) 3 40 := ⟨by kernel_rfl⟩
instance : ZeroC Try.prog 141 [.slice none 0 0, .int .i64 0, .int .i64 0] := ⟨zeroC_of (z := .agg #[.slice none 0 0, .int .i64 0, .int .i64 0]) (by kernel_rfl) rfl⟩
instance : Parts Try.prog 141 [(0, 1), (1, 1), (2, 1)] := ⟨.inl ⟨_, Try.underlying141, by kernel_rfl, by kernel_rfl⟩⟩
instance : Aggr Try.prog 141 3 := ⟨⟨_, Try.underlying141, rfl⟩, by kernel_rfl⟩
instance : Fld Try.prog 141 0 0 := ⟨fld_of (by kernel_rfl)⟩
instance : Fld Try.prog 141 1 1 := ⟨fld_of (by kernel_rfl)⟩
instance : Fld Try.prog 141 2 2 := ⟨fld_of (by kernel_rfl)⟩
instance : Sz Try.prog 142 (.nilFunc) 1 8 := ⟨by kernel_rfl⟩
instance : ZeroC Try.prog 142 [.nilFunc] := ⟨zeroC_of (z := .nilFunc) (by kernel_rfl) rfl⟩
instance : Scalar Try.prog 142 := ⟨_, Try.underlying142, rfl⟩
instance : Sz Try.prog 143 (.nilFunc) 1 8 := ⟨by kernel_rfl⟩
instance : ZeroC Try.prog 143 [.nilFunc] := ⟨zeroC_of (z := .nilFunc) (by kernel_rfl) rfl⟩
instance : Scalar Try.prog 143 := ⟨_, Try.underlying143, rfl⟩
instance : Sz Try.prog 144 (.nilFunc) 1 8 := ⟨by kernel_rfl⟩
instance : ZeroC Try.prog 144 [.nilFunc] := ⟨zeroC_of (z := .nilFunc) (by kernel_rfl) rfl⟩
instance : Scalar Try.prog 144 := ⟨_, Try.underlying144, rfl⟩
instance : Sz Try.prog 145 (.nilFunc) 1 8 := ⟨by kernel_rfl⟩
instance : ZeroC Try.prog 145 [.nilFunc] := ⟨zeroC_of (z := .nilFunc) (by kernel_rfl) rfl⟩
instance : Scalar Try.prog 145 := ⟨_, Try.underlying145, rfl⟩
instance : Sz Try.prog 146 (.nilFunc) 1 8 := ⟨by kernel_rfl⟩
instance : ZeroC Try.prog 146 [.nilFunc] := ⟨zeroC_of (z := .nilFunc) (by kernel_rfl) rfl⟩
instance : Scalar Try.prog 146 := ⟨_, Try.underlying146, rfl⟩
instance : Sz Try.prog 147 (.nilFunc) 1 8 := ⟨by kernel_rfl⟩
instance : ZeroC Try.prog 147 [.nilFunc] := ⟨zeroC_of (z := .nilFunc) (by kernel_rfl) rfl⟩
instance : Scalar Try.prog 147 := ⟨_, Try.underlying147, rfl⟩
instance : Sz Try.prog 148 (.nilFunc) 1 8 := ⟨by kernel_rfl⟩
instance : ZeroC Try.prog 148 [.nilFunc] := ⟨zeroC_of (z := .nilFunc) (by kernel_rfl) rfl⟩
instance : Scalar Try.prog 148 := ⟨_, Try.underlying148, rfl⟩
instance : Sz Try.prog 149 (.nilFunc) 1 8 := ⟨by kernel_rfl⟩
instance : ZeroC Try.prog 149 [.nilFunc] := ⟨zeroC_of (z := .nilFunc) (by kernel_rfl) rfl⟩
instance : Scalar Try.prog 149 := ⟨_, Try.underlying149, rfl⟩
instance : Sz Try.prog 150 (.nilFunc) 1 8 := ⟨by kernel_rfl⟩
instance : ZeroC Try.prog 150 [.nilFunc] := ⟨zeroC_of (z := .nilFunc) (by kernel_rfl) rfl⟩
instance : Scalar Try.prog 150 := ⟨_, Try.underlying150, rfl⟩
instance : Sz Try.prog 151 (.nilFunc) 1 8 := ⟨by kernel_rfl⟩
instance : ZeroC Try.prog 151 [.nilFunc] := ⟨zeroC_of (z := .nilFunc) (by kernel_rfl) rfl⟩
instance : Scalar Try.prog 151 := ⟨_, Try.underlying151, rfl⟩
instance : Sz Try.prog 152 (.nilFunc) 1 8 := ⟨by kernel_rfl⟩
instance : ZeroC Try.prog 152 [.nilFunc] := ⟨zeroC_of (z := .nilFunc) (by kernel_rfl) rfl⟩
instance : Scalar Try.prog 152 := ⟨_, Try.underlying152, rfl⟩
instance : Sz Try.prog 153 (.agg #[.int .i64 0, .int .i64 0, .int .i64 0]) 3 24 := ⟨by kernel_rfl⟩
instance : ZeroC Try.prog 153 [.int .i64 0, .int .i64 0, .int .i64 0] := ⟨zeroC_of (z := .agg #[.int .i64 0, .int .i64 0, .int .i64 0]) (by kernel_rfl) rfl⟩
instance : Parts Try.prog 153 [(0, 1), (1, 1), (2, 1)] := ⟨.inl ⟨_, Try.underlying153, by kernel_rfl, by kernel_rfl⟩⟩
instance : Aggr Try.prog 153 3 := ⟨⟨_, Try.underlying153, rfl⟩, by kernel_rfl⟩
instance : Fld Try.prog 153 0 0 := ⟨fld_of (by kernel_rfl)⟩
instance : Fld Try.prog 153 1 1 := ⟨fld_of (by kernel_rfl)⟩
instance : Fld Try.prog 153 2 2 := ⟨fld_of (by kernel_rfl)⟩
instance : Sz Try.prog 154 (.nilFunc) 1 8 := ⟨by kernel_rfl⟩
instance : ZeroC Try.prog 154 [.nilFunc] := ⟨zeroC_of (z := .nilFunc) (by kernel_rfl) rfl⟩
instance : Scalar Try.prog 154 := ⟨_, Try.underlying154, rfl⟩
instance : Sz Try.prog 155 (.nilFunc) 1 8 := ⟨by kernel_rfl⟩
instance : ZeroC Try.prog 155 [.nilFunc] := ⟨zeroC_of (z := .nilFunc) (by kernel_rfl) rfl⟩
instance : Scalar Try.prog 155 := ⟨_, Try.underlying155, rfl⟩
instance : Sz Try.prog 156 (.nilFunc) 1 8 := ⟨by kernel_rfl⟩
instance : ZeroC Try.prog 156 [.nilFunc] := ⟨zeroC_of (z := .nilFunc) (by kernel_rfl) rfl⟩
instance : Scalar Try.prog 156 := ⟨_, Try.underlying156, rfl⟩
instance : Sz Try.prog 157 (.nilFunc) 1 8 := ⟨by kernel_rfl⟩
instance : ZeroC Try.prog 157 [.nilFunc] := ⟨zeroC_of (z := .nilFunc) (by kernel_rfl) rfl⟩
instance : Scalar Try.prog 157 := ⟨_, Try.underlying157, rfl⟩
instance : Sz Try.prog 158 (.nilFunc) 1 8 := ⟨by kernel_rfl⟩
instance : ZeroC Try.prog 158 [.nilFunc] := ⟨zeroC_of (z := .nilFunc) (by kernel_rfl) rfl⟩
instance : Scalar Try.prog 158 := ⟨_, Try.underlying158, rfl⟩
instance : Sz Try.prog 159 (.int .u64 0) 1 8 := ⟨by kernel_rfl⟩
instance : ZeroC Try.prog 159 [.int .u64 0] := ⟨zeroC_of (z := .int .u64 0) (by kernel_rfl) rfl⟩
instance : Scalar Try.prog 159 := ⟨_, Try.underlying159, rfl⟩
instance : Sz Try.prog 160 (.nilFunc) 1 8 := ⟨by kernel_rfl⟩
instance : ZeroC Try.prog 160 [.nilFunc] := ⟨zeroC_of (z := .nilFunc) (by kernel_rfl) rfl⟩
instance : Scalar Try.prog 160 := ⟨_, Try.underlying160, rfl⟩
instance : Sz Try.prog 161 (.nilFunc) 1 8 := ⟨by kernel_rfl⟩
instance : ZeroC Try.prog 161 [.nilFunc] := ⟨zeroC_of (z := .nilFunc) (by kernel_rfl) rfl⟩
instance : Scalar Try.prog 161 := ⟨_, Try.underlying161, rfl⟩
instance : Sz Try.prog 162 (.agg #[.pointer none, .pointer none, .pointer none, .string ⟨#[]⟩]) 4 40 := ⟨by kernel_rfl⟩
instance : ZeroC Try.prog 162 [.pointer none, .pointer none, .pointer none, .string ⟨#[]⟩] := ⟨zeroC_of (z := .agg #[.pointer none, .pointer none, .pointer none, .string ⟨#[]⟩]) (by kernel_rfl) rfl⟩
instance : Parts Try.prog 162 [(0, 1), (1, 1), (2, 1), (3, 1)] := ⟨.inl ⟨_, Try.underlying162, by kernel_rfl, by kernel_rfl⟩⟩
instance : Aggr Try.prog 162 4 := ⟨⟨_, Try.underlying162, rfl⟩, by kernel_rfl⟩
instance : Fld Try.prog 162 0 0 := ⟨fld_of (by kernel_rfl)⟩
instance : Fld Try.prog 162 1 1 := ⟨fld_of (by kernel_rfl)⟩
instance : Fld Try.prog 162 2 2 := ⟨fld_of (by kernel_rfl)⟩
instance : Fld Try.prog 162 3 3 := ⟨fld_of (by kernel_rfl)⟩
instance : Sz Try.prog 163 (.agg #[.pointer none, .pointer none, .pointer none, .string ⟨#[]⟩]) 4 40 := ⟨by kernel_rfl⟩
instance : ZeroC Try.prog 163 [.pointer none, .pointer none, .pointer none, .string ⟨#[]⟩] := ⟨zeroC_of (z := .agg #[.pointer none, .pointer none, .pointer none, .string ⟨#[]⟩]) (by kernel_rfl) rfl⟩
instance : Parts Try.prog 163 [(0, 1), (1, 1), (2, 1), (3, 1)] := ⟨.inl ⟨_, Try.underlying163, by kernel_rfl, by kernel_rfl⟩⟩
instance : Aggr Try.prog 163 4 := ⟨⟨_, Try.underlying163, rfl⟩, by kernel_rfl⟩
instance : Fld Try.prog 163 0 0 := ⟨fld_of (by kernel_rfl)⟩
instance : Fld Try.prog 163 1 1 := ⟨fld_of (by kernel_rfl)⟩
instance : Fld Try.prog 163 2 2 := ⟨fld_of (by kernel_rfl)⟩
instance : Fld Try.prog 163 3 3 := ⟨fld_of (by kernel_rfl)⟩
instance : Sz Try.prog 164 (.agg #[]) 0 0 := ⟨by kernel_rfl⟩
instance : ZeroC Try.prog 164 [] := ⟨zeroC_of (z := .agg #[]) (by kernel_rfl) rfl⟩
instance : Parts Try.prog 164 [] := ⟨.inr ⟨_, _, Try.underlying164, by kernel_rfl, by kernel_rfl⟩⟩
instance : Aggr Try.prog 164 0 := ⟨⟨_, Try.underlying164, rfl⟩, by kernel_rfl⟩
instance : ArrT Try.prog 164 0 16 := ⟨Try.underlying164⟩
instance : Sz Try.prog 165 (.agg #[]) 0 0 := ⟨by kernel_rfl⟩
instance : ZeroC Try.prog 165 [] := ⟨zeroC_of (z := .agg #[]) (by kernel_rfl) rfl⟩
instance : Parts Try.prog 165 [(0, 0)] := ⟨.inl ⟨_, Try.underlying165, by kernel_rfl, by kernel_rfl⟩⟩
instance : Aggr Try.prog 165 0 := ⟨⟨_, Try.underlying165, rfl⟩, by kernel_rfl⟩
instance : Sz Try.prog 166 (.agg #[]) 0 0 := ⟨by kernel_rfl⟩
instance : ZeroC Try.prog 166 [] := ⟨zeroC_of (z := .agg #[]) (by kernel_rfl) rfl⟩
instance : Parts Try.prog 166 [(0, 0)] := ⟨.inl ⟨_, Try.underlying166, by kernel_rfl, by kernel_rfl⟩⟩
instance : Aggr Try.prog 166 0 := ⟨⟨_, Try.underlying166, rfl⟩, by kernel_rfl⟩
instance : Sz Try.prog 167 (.int .u32 0) 1 4 := ⟨by kernel_rfl⟩
instance : ZeroC Try.prog 167 [.int .u32 0] := ⟨zeroC_of (z := .int .u32 0) (by kernel_rfl) rfl⟩
instance : Scalar Try.prog 167 := ⟨_, Try.underlying167, rfl⟩
instance : Sz Try.prog 168 (.int .u8 0) 1 1 := ⟨by kernel_rfl⟩
instance : ZeroC Try.prog 168 [.int .u8 0] := ⟨zeroC_of (z := .int .u8 0) (by kernel_rfl) rfl⟩
instance : Scalar Try.prog 168 := ⟨_, Try.underlying168, rfl⟩
instance : Sz Try.prog 169 (.int .u8 0) 1 1 := ⟨by kernel_rfl⟩
instance : ZeroC Try.prog 169 [.int .u8 0] := ⟨zeroC_of (z := .int .u8 0) (by kernel_rfl) rfl⟩
instance : Scalar Try.prog 169 := ⟨_, Try.underlying169, rfl⟩
instance : Sz Try.prog 170 (.nilFunc) 1 8 := ⟨by kernel_rfl⟩
instance : ZeroC Try.prog 170 [.nilFunc] := ⟨zeroC_of (z := .nilFunc) (by kernel_rfl) rfl⟩
instance : Scalar Try.prog 170 := ⟨_, Try.underlying170, rfl⟩
instance : Sz Try.prog 171 (.pointer none) 1 8 := ⟨by kernel_rfl⟩
instance : ZeroC Try.prog 171 [.pointer none] := ⟨zeroC_of (z := .pointer none) (by kernel_rfl) rfl⟩
instance : Scalar Try.prog 171 := ⟨_, Try.underlying171, rfl⟩
instance : Sz Try.prog 172 (.int .i32 0) 1 4 := ⟨by kernel_rfl⟩
instance : ZeroC Try.prog 172 [.int .i32 0] := ⟨zeroC_of (z := .int .i32 0) (by kernel_rfl) rfl⟩
instance : Scalar Try.prog 172 := ⟨_, Try.underlying172, rfl⟩
instance : Sz Try.prog 173 (.int .i32 0) 1 4 := ⟨by kernel_rfl⟩
instance : ZeroC Try.prog 173 [.int .i32 0] := ⟨zeroC_of (z := .int .i32 0) (by kernel_rfl) rfl⟩
instance : Scalar Try.prog 173 := ⟨_, Try.underlying173, rfl⟩
instance : Sz Try.prog 174 (.agg #[.int .u64 0, .int .u64 0, .int .u32 0, .int .u8 0, .int .u8 0, .int .u8 0, .int .u8 0, .nilFunc, .pointer none, .int .i32 0, .int .i32 0]) 11 48 := ⟨by kernel_rfl⟩
instance : ZeroC Try.prog 174 [.int .u64 0, .int .u64 0, .int .u32 0, .int .u8 0, .int .u8 0, .int .u8 0, .int .u8 0, .nilFunc, .pointer none, .int .i32 0, .int .i32 0] := ⟨zeroC_of (z := .agg #[.int .u64 0, .int .u64 0, .int .u32 0, .int .u8 0, .int .u8 0, .int .u8 0, .int .u8 0, .nilFunc, .pointer none, .int .i32 0, .int .i32 0]) (by kernel_rfl) rfl⟩
instance : Parts Try.prog 174 [(0, 1), (1, 1), (2, 1), (3, 1), (4, 1), (5, 1), (6, 1), (7, 1), (8, 1), (9, 1), (10, 1)] := ⟨.inl ⟨_, Try.underlying174, by kernel_rfl, by kernel_rfl⟩⟩
instance : Aggr Try.prog 174 11 := ⟨⟨_, Try.underlying174, rfl⟩, by kernel_rfl⟩
instance : Fld Try.prog 174 0 0 := ⟨fld_of (by kernel_rfl)⟩
instance : Fld Try.prog 174 1 1 := ⟨fld_of (by kernel_rfl)⟩
instance : Fld Try.prog 174 2 2 := ⟨fld_of (by kernel_rfl)⟩
instance : Fld Try.prog 174 3 3 := ⟨fld_of (by kernel_rfl)⟩
instance : Fld Try.prog 174 4 4 := ⟨fld_of (by kernel_rfl)⟩
instance : Fld Try.prog 174 5 5 := ⟨fld_of (by kernel_rfl)⟩
instance : Fld Try.prog 174 6 6 := ⟨fld_of (by kernel_rfl)⟩
instance : Fld Try.prog 174 7 7 := ⟨fld_of (by kernel_rfl)⟩
instance : Fld Try.prog 174 8 8 := ⟨fld_of (by kernel_rfl)⟩
instance : Fld Try.prog 174 9 9 := ⟨fld_of (by kernel_rfl)⟩
instance : Fld Try.prog 174 10 10 := ⟨fld_of (by kernel_rfl)⟩
instance : Sz Try.prog 175 (.agg #[.int .u64 0, .int .u64 0, .int .u32 0, .int .u8 0, .int .u8 0, .int .u8 0, .int .u8 0, .nilFunc, .pointer none, .int .i32 0, .int .i32 0]) 11 48 := ⟨by kernel_rfl⟩
instance : ZeroC Try.prog 175 [.int .u64 0, .int .u64 0, .int .u32 0, .int .u8 0, .int .u8 0, .int .u8 0, .int .u8 0, .nilFunc, .pointer none, .int .i32 0, .int .i32 0] := ⟨zeroC_of (z := .agg #[.int .u64 0, .int .u64 0, .int .u32 0, .int .u8 0, .int .u8 0, .int .u8 0, .int .u8 0, .nilFunc, .pointer none, .int .i32 0, .int .i32 0]) (by kernel_rfl) rfl⟩
instance : Parts Try.prog 175 [(0, 1), (1, 1), (2, 1), (3, 1), (4, 1), (5, 1), (6, 1), (7, 1), (8, 1), (9, 1), (10, 1)] := ⟨.inl ⟨_, Try.underlying175, by kernel_rfl, by kernel_rfl⟩⟩
instance : Aggr Try.prog 175 11 := ⟨⟨_, Try.underlying175, rfl⟩, by kernel_rfl⟩
instance : Fld Try.prog 175 0 0 := ⟨fld_of (by kernel_rfl)⟩
instance : Fld Try.prog 175 1 1 := ⟨fld_of (by kernel_rfl)⟩
instance : Fld Try.prog 175 2 2 := ⟨fld_of (by kernel_rfl)⟩
instance : Fld Try.prog 175 3 3 := ⟨fld_of (by kernel_rfl)⟩
instance : Fld Try.prog 175 4 4 := ⟨fld_of (by kernel_rfl)⟩
instance : Fld Try.prog 175 5 5 := ⟨fld_of (by kernel_rfl)⟩
instance : Fld Try.prog 175 6 6 := ⟨fld_of (by kernel_rfl)⟩
instance : Fld Try.prog 175 7 7 := ⟨fld_of (by kernel_rfl)⟩
instance : Fld Try.prog 175 8 8 := ⟨fld_of (by kernel_rfl)⟩
instance : Fld Try.prog 175 9 9 := ⟨fld_of (by kernel_rfl)⟩
instance : Fld Try.prog 175 10 10 := ⟨fld_of (by kernel_rfl)⟩
instance : Sz Try.prog 176 (.pointer none) 1 8 := ⟨by kernel_rfl⟩
instance : ZeroC Try.prog 176 [.pointer none] := ⟨zeroC_of (z := .pointer none) (by kernel_rfl) rfl⟩
instance : Scalar Try.prog 176 := ⟨_, Try.underlying176, rfl⟩
end Go.Proofs.Ytlolbmmboendjaa.St
