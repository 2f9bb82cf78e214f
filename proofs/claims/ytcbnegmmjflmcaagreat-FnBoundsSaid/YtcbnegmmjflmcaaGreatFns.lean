/-
  A call of each function of the program that has a body enters it.
-/
import Derived.Test.YtcbnegmmjflmcaaGreatStDraw
import Derived.Test.YtcbnegmmjflmcaaGreatRows
set_option linter.unusedSimpArgs false
set_option linter.unusedVariables false
namespace Go.Proofs.YtcbnegmmjflmcaaGreat.St
theorem mixed : Tryz.prog.follows .mixedOrders = true := by kernel_rfl
theorem en4 : Enters Tryz.prog 4 := enters_of Tryz.func4 (by kernel_rfl) rfl
theorem en5 : Enters Tryz.prog 5 := enters_of Tryz.func5 (by kernel_rfl) rfl
theorem en6 : Enters Tryz.prog 6 := enters_of Tryz.func6 (by kernel_rfl) rfl
theorem en7 : Enters Tryz.prog 7 := enters_of Tryz.func7 (by kernel_rfl) rfl
theorem en8 : Enters Tryz.prog 8 := enters_of Tryz.func8 (by kernel_rfl) rfl
theorem en9 : Enters Tryz.prog 9 := enters_of Tryz.func9 (by kernel_rfl) rfl
theorem en10 : Enters Tryz.prog 10 := enters_of Tryz.func10 (by kernel_rfl) rfl
theorem en11 : Enters Tryz.prog 11 := enters_of Tryz.func11 (by kernel_rfl) rfl
theorem en12 : Enters Tryz.prog 12 := enters_of Tryz.func12 (by kernel_rfl) rfl
theorem en13 : Enters Tryz.prog 13 := enters_of Tryz.func13 (by kernel_rfl) rfl
theorem en14 : Enters Tryz.prog 14 := enters_of Tryz.func14 (by kernel_rfl) rfl
theorem en15 : Enters Tryz.prog 15 := enters_of Tryz.func15 (by kernel_rfl) rfl
theorem en16 : Enters Tryz.prog 16 := enters_of Tryz.func16 (by kernel_rfl) rfl
theorem en17 : Enters Tryz.prog 17 := enters_of Tryz.func17 (by kernel_rfl) rfl
theorem en18 : Enters Tryz.prog 18 := enters_of Tryz.func18 (by kernel_rfl) rfl
theorem en19 : Enters Tryz.prog 19 := enters_of Tryz.func19 (by kernel_rfl) rfl
theorem en20 : Enters Tryz.prog 20 := enters_of Tryz.func20 (by kernel_rfl) rfl
theorem en21 : Enters Tryz.prog 21 := enters_of Tryz.func21 (by kernel_rfl) rfl
theorem en22 : Enters Tryz.prog 22 := enters_of Tryz.func22 (by kernel_rfl) rfl
theorem en23 : Enters Tryz.prog 23 := enters_of Tryz.func23 (by kernel_rfl) rfl
theorem en24 : Enters Tryz.prog 24 := enters_of Tryz.func24 (by kernel_rfl) rfl
theorem en25 : Enters Tryz.prog 25 := enters_of Tryz.func25 (by kernel_rfl) rfl
theorem en26 : Enters Tryz.prog 26 := enters_of Tryz.func26 (by kernel_rfl) rfl
theorem en27 : Enters Tryz.prog 27 := enters_of Tryz.func27 (by kernel_rfl) rfl
theorem en28 : Enters Tryz.prog 28 := enters_of Tryz.func28 (by kernel_rfl) rfl
theorem en29 : Enters Tryz.prog 29 := enters_of Tryz.func29 (by kernel_rfl) rfl
theorem en30 : Enters Tryz.prog 30 := enters_of Tryz.func30 (by kernel_rfl) rfl
theorem en31 : Enters Tryz.prog 31 := enters_of Tryz.func31 (by kernel_rfl) rfl
theorem en32 : Enters Tryz.prog 32 := enters_of Tryz.func32 (by kernel_rfl) rfl
theorem en33 : Enters Tryz.prog 33 := enters_of Tryz.func33 (by kernel_rfl) rfl
theorem en34 : Enters Tryz.prog 34 := enters_of Tryz.func34 (by kernel_rfl) rfl
theorem en35 : Enters Tryz.prog 35 := enters_of Tryz.func35 (by kernel_rfl) rfl
theorem en36 : Enters Tryz.prog 36 := enters_of Tryz.func36 (by kernel_rfl) rfl
theorem en37 : Enters Tryz.prog 37 := enters_of Tryz.func37 (by kernel_rfl) rfl
theorem en38 : Enters Tryz.prog 38 := enters_of Tryz.func38 (by kernel_rfl) rfl
theorem en39 : Enters Tryz.prog 39 := enters_of Tryz.func39 (by kernel_rfl) rfl
theorem en40 : Enters Tryz.prog 40 := enters_of Tryz.func40 (by kernel_rfl) rfl
theorem en41 : Enters Tryz.prog 41 := enters_of Tryz.func41 (by kernel_rfl) rfl
theorem en42 : Enters Tryz.prog 42 := enters_of Tryz.func42 (by kernel_rfl) rfl
theorem en43 : Enters Tryz.prog 43 := enters_of Tryz.func43 (by kernel_rfl) rfl
theorem en44 : Enters Tryz.prog 44 := enters_of Tryz.func44 (by kernel_rfl) rfl
theorem en45 : Enters Tryz.prog 45 := enters_of Tryz.func45 (by kernel_rfl) rfl
theorem en46 : Enters Tryz.prog 46 := enters_of Tryz.func46 (by kernel_rfl) rfl
theorem en47 : Enters Tryz.prog 47 := enters_of Tryz.func47 (by kernel_rfl) rfl
theorem en48 : Enters Tryz.prog 48 := enters_of Tryz.func48 (by kernel_rfl) rfl
theorem en49 : Enters Tryz.prog 49 := enters_of Tryz.func49 (by kernel_rfl) rfl
theorem en50 : Enters Tryz.prog 50 := enters_of Tryz.func50 (by kernel_rfl) rfl
theorem en51 : Enters Tryz.prog 51 := enters_of Tryz.func51 (by kernel_rfl) rfl
theorem en52 : Enters Tryz.prog 52 := enters_of Tryz.func52 (by kernel_rfl) rfl
theorem en53 : Enters Tryz.prog 53 := enters_of Tryz.func53 (by kernel_rfl) rfl
theorem en54 : Enters Tryz.prog 54 := enters_of Tryz.func54 (by kernel_rfl) rfl
theorem en55 : Enters Tryz.prog 55 := enters_of Tryz.func55 (by kernel_rfl) rfl
theorem en56 : Enters Tryz.prog 56 := enters_of Tryz.func56 (by kernel_rfl) rfl
theorem en57 : Enters Tryz.prog 57 := enters_of Tryz.func57 (by kernel_rfl) rfl
instance : En Tryz.prog 57 := ⟨en57⟩
theorem en58 : Enters Tryz.prog 58 := enters_of Tryz.func58 (by kernel_rfl) rfl
instance : En Tryz.prog 58 := ⟨en58⟩
theorem en59 : Enters Tryz.prog 59 := enters_of Tryz.func59 (by kernel_rfl) rfl
theorem en60 : Enters Tryz.prog 60 := enters_of Tryz.func60 (by kernel_rfl) rfl
theorem en61 : Enters Tryz.prog 61 := enters_of Tryz.func61 (by kernel_rfl) rfl
theorem en62 : Enters Tryz.prog 62 := enters_of Tryz.func62 (by kernel_rfl) rfl
theorem en63 : Enters Tryz.prog 63 := enters_of Tryz.func63 (by kernel_rfl) rfl
theorem en64 : Enters Tryz.prog 64 := enters_of Tryz.func64 (by kernel_rfl) rfl
theorem en65 : Enters Tryz.prog 65 := enters_of Tryz.func65 (by kernel_rfl) rfl
theorem en66 : Enters Tryz.prog 66 := enters_of Tryz.func66 (by kernel_rfl) rfl
theorem en67 : Enters Tryz.prog 67 := enters_of Tryz.func67 (by kernel_rfl) rfl
theorem en68 : Enters Tryz.prog 68 := enters_of Tryz.func68 (by kernel_rfl) rfl
theorem en69 : Enters Tryz.prog 69 := enters_of Tryz.func69 (by kernel_rfl) rfl
theorem en70 : Enters Tryz.prog 70 := enters_of Tryz.func70 (by kernel_rfl) rfl
theorem en71 : Enters Tryz.prog 71 := enters_of Tryz.func71 (by kernel_rfl) rfl
theorem en72 : Enters Tryz.prog 72 := enters_of Tryz.func72 (by kernel_rfl) rfl
theorem en73 : Enters Tryz.prog 73 := enters_of Tryz.func73 (by kernel_rfl) rfl
theorem en74 : Enters Tryz.prog 74 := enters_of Tryz.func74 (by kernel_rfl) rfl
instance : En Tryz.prog 74 := ⟨en74⟩
theorem en75 : Enters Tryz.prog 75 := enters_of Tryz.func75 (by kernel_rfl) rfl
theorem en76 : Enters Tryz.prog 76 := enters_of Tryz.func76 (by kernel_rfl) rfl
instance : En Tryz.prog 76 := ⟨en76⟩
theorem en77 : Enters Tryz.prog 77 := enters_of Tryz.func77 (by kernel_rfl) rfl
instance : En Tryz.prog 77 := ⟨en77⟩
theorem en78 : Enters Tryz.prog 78 := enters_of Tryz.func78 (by kernel_rfl) rfl
instance : En Tryz.prog 78 := ⟨en78⟩
theorem en79 : Enters Tryz.prog 79 := enters_of Tryz.func79 (by kernel_rfl) rfl
instance : En Tryz.prog 79 := ⟨en79⟩
theorem en80 : Enters Tryz.prog 80 := enters_of Tryz.func80 (by kernel_rfl) rfl
theorem en81 : Enters Tryz.prog 81 := enters_of Tryz.func81 (by kernel_rfl) rfl
theorem en82 : Enters Tryz.prog 82 := enters_of Tryz.func82 (by kernel_rfl) rfl
theorem en83 : Enters Tryz.prog 83 := enters_of Tryz.func83 (by kernel_rfl) rfl
theorem en84 : Enters Tryz.prog 84 := enters_of Tryz.func84 (by kernel_rfl) rfl
theorem en85 : Enters Tryz.prog 85 := enters_of Tryz.func85 (by kernel_rfl) rfl
theorem en86 : Enters Tryz.prog 86 := enters_of Tryz.func86 (by kernel_rfl) rfl
theorem en87 : Enters Tryz.prog 87 := enters_of Tryz.func87 (by kernel_rfl) rfl
theorem en88 : Enters Tryz.prog 88 := enters_of Tryz.func88 (by kernel_rfl) rfl
theorem en89 : Enters Tryz.prog 89 := enters_of Tryz.func89 (by kernel_rfl) rfl
theorem en90 : Enters Tryz.prog 90 := enters_of Tryz.func90 (by kernel_rfl) rfl
theorem en91 : Enters Tryz.prog 91 := enters_of Tryz.func91 (by kernel_rfl) rfl
theorem en92 : Enters Tryz.prog 92 := enters_of Tryz.func92 (by kernel_rfl) rfl
theorem en93 : Enters Tryz.prog 93 := enters_of Tryz.func93 (by kernel_rfl) rfl
theorem en94 : Enters Tryz.prog 94 := enters_of Tryz.func94 (by kernel_rfl) rfl
instance : En Tryz.prog 94 := ⟨en94⟩
theorem en95 : Enters Tryz.prog 95 := enters_of Tryz.func95 (by kernel_rfl) rfl
instance : En Tryz.prog 95 := ⟨en95⟩
theorem en96 : Enters Tryz.prog 96 := enters_of Tryz.func96 (by kernel_rfl) rfl
theorem en97 : Enters Tryz.prog 97 := enters_of Tryz.func97 (by kernel_rfl) rfl
theorem en98 : Enters Tryz.prog 98 := enters_of Tryz.func98 (by kernel_rfl) rfl
theorem en99 : Enters Tryz.prog 99 := enters_of Tryz.func99 (by kernel_rfl) rfl
theorem en100 : Enters Tryz.prog 100 := enters_of Tryz.func100 (by kernel_rfl) rfl
theorem en101 : Enters Tryz.prog 101 := enters_of Tryz.func101 (by kernel_rfl) rfl
theorem en102 : Enters Tryz.prog 102 := enters_of Tryz.func102 (by kernel_rfl) rfl
theorem en103 : Enters Tryz.prog 103 := enters_of Tryz.func103 (by kernel_rfl) rfl
theorem en104 : Enters Tryz.prog 104 := enters_of Tryz.func104 (by kernel_rfl) rfl
theorem en105 : Enters Tryz.prog 105 := enters_of Tryz.func105 (by kernel_rfl) rfl
theorem en106 : Enters Tryz.prog 106 := enters_of Tryz.func106 (by kernel_rfl) rfl
theorem en107 : Enters Tryz.prog 107 := enters_of Tryz.func107 (by kernel_rfl) rfl
theorem en108 : Enters Tryz.prog 108 := enters_of Tryz.func108 (by kernel_rfl) rfl
theorem en109 : Enters Tryz.prog 109 := enters_of Tryz.func109 (by kernel_rfl) rfl
theorem en110 : Enters Tryz.prog 110 := enters_of Tryz.func110 (by kernel_rfl) rfl
theorem en111 : Enters Tryz.prog 111 := enters_of Tryz.func111 (by kernel_rfl) rfl
theorem en112 : Enters Tryz.prog 112 := enters_of Tryz.func112 (by kernel_rfl) rfl
theorem en113 : Enters Tryz.prog 113 := enters_of Tryz.func113 (by kernel_rfl) rfl
theorem en114 : Enters Tryz.prog 114 := enters_of Tryz.func114 (by kernel_rfl) rfl
instance : Sz Tryz.prog 3 (.int .i64 0) 1 8 := ⟨by kernel_rfl⟩
instance : ZeroC Tryz.prog 3 [.int .i64 0] := ⟨zeroC_of (z := .int .i64 0) (by kernel_rfl) rfl⟩
instance : Scalar Tryz.prog 3 := ⟨_, Tryz.underlying3, rfl⟩
instance : Sz Tryz.prog 4 (.bool false) 1 1 := ⟨by kernel_rfl⟩
instance : Scalar Tryz.prog 4 := ⟨_, Tryz.underlying4, rfl⟩
instance : Sz Tryz.prog 5 (.int .u8 0) 1 1 := ⟨by kernel_rfl⟩
instance : ZeroC Tryz.prog 5 [.int .u8 0] := ⟨zeroC_of (z := .int .u8 0) (by kernel_rfl) rfl⟩
instance : Scalar Tryz.prog 5 := ⟨_, Tryz.underlying5, rfl⟩
instance : Sz Tryz.prog 9 (.string ⟨#[]⟩) 1 16 := ⟨by kernel_rfl⟩
instance : ZeroC Tryz.prog 9 [.string ⟨#[]⟩] := ⟨zeroC_of (z := .string ⟨#[]⟩) (by kernel_rfl) rfl⟩
instance : Scalar Tryz.prog 9 := ⟨_, Tryz.underlying9, rfl⟩
instance : StrT Tryz.prog 9 := ⟨Tryz.underlying9⟩
instance : Scalar Tryz.prog 22 := ⟨_, Tryz.underlying22, rfl⟩
instance : SliceT Tryz.prog 22 5 := ⟨Tryz.underlying22⟩
instance : Sz Tryz.prog 24 (.agg #[.int .i64 0, .int .i64 0, .int .i64 0, .int .i64 0, .bool false, .int .i64 0, .int .i64 0]) 7 56 := ⟨by kernel_rfl⟩
instance : ZeroC Tryz.prog 24 [.int .i64 0, .int .i64 0, .int .i64 0, .int .i64 0, .bool false, .int .i64 0, .int .i64 0] := ⟨zeroC_of (z := .agg #[.int .i64 0, .int .i64 0, .int .i64 0, .int .i64 0, .bool false, .int .i64 0, .int .i64 0]) (by kernel_rfl) rfl⟩
instance : Parts Tryz.prog 24 [(0, 1), (1, 1), (2, 1), (3, 1), (4, 1), (5, 1), (6, 1)] := ⟨.inl ⟨_, Tryz.underlying24, by kernel_rfl, by kernel_rfl⟩⟩
instance : Aggr Tryz.prog 24 7 := ⟨⟨_, Tryz.underlying24, rfl⟩, by kernel_rfl⟩
instance : Fld Tryz.prog 24 0 0 := ⟨fld_of (by kernel_rfl)⟩
instance : Fld Tryz.prog 24 1 1 := ⟨fld_of (by kernel_rfl)⟩
instance : Fld Tryz.prog 24 2 2 := ⟨fld_of (by kernel_rfl)⟩
instance : Fld Tryz.prog 24 3 3 := ⟨fld_of (by kernel_rfl)⟩
instance : Fld Tryz.prog 24 4 4 := ⟨fld_of (by kernel_rfl)⟩
instance : Fld Tryz.prog 24 5 5 := ⟨fld_of (by kernel_rfl)⟩
instance : Fld Tryz.prog 24 6 6 := ⟨fld_of (by kernel_rfl)⟩
instance : Sz Tryz.prog 25 (.slice none 0 0) 1 24 := ⟨by kernel_rfl⟩
instance : Scalar Tryz.prog 25 := ⟨_, Tryz.underlying25, rfl⟩
instance : SliceT Tryz.prog 25 3 := ⟨Tryz.underlying25⟩
instance : Sz Tryz.prog 27 (.agg #[.int .i64 0, .slice none 0 0]) 2 32 := ⟨by kernel_rfl⟩
instance : ZeroC Tryz.prog 27 [.int .i64 0, .slice none 0 0] := ⟨zeroC_of (z := .agg #[.int .i64 0, .slice none 0 0]) (by kernel_rfl) rfl⟩
instance : Parts Tryz.prog 27 [(0, 1), (1, 1)] := ⟨.inl ⟨_, Tryz.underlying27, by kernel_rfl, by kernel_rfl⟩⟩
instance : Aggr Tryz.prog 27 2 := ⟨⟨_, Tryz.underlying27, rfl⟩, by kernel_rfl⟩
instance : Fld Tryz.prog 27 0 0 := ⟨fld_of (by kernel_rfl)⟩
instance : Fld Tryz.prog 27 1 1 := ⟨fld_of (by kernel_rfl)⟩
instance : Sz Tryz.prog 28 (.slice none 0 0) 1 24 := ⟨by kernel_rfl⟩
instance : Scalar Tryz.prog 28 := ⟨_, Tryz.underlying28, rfl⟩
instance : SliceT Tryz.prog 28 108 := ⟨Tryz.underlying28⟩
instance : Sz Tryz.prog 29 (.slice none 0 0) 1 24 := ⟨by kernel_rfl⟩
instance : Scalar Tryz.prog 29 := ⟨_, Tryz.underlying29, rfl⟩
instance : SliceT Tryz.prog 29 42 := ⟨Tryz.underlying29⟩
instance : Sz Tryz.prog 31 (.agg #[.int .i64 0, .int .i64 0, .int .i64 0, .int .i64 0, .bool false, .int .i64 0, .int .i64 0, .int .i64 0, .slice none 0 0, .slice none 0 0, .slice none 0 0, .int .i64 0]) 12 144 := ⟨by kernel_rfl⟩
instance : ZeroC Tryz.prog 31 [.int .i64 0, .int .i64 0, .int .i64 0, .int .i64 0, .bool false, .int .i64 0, .int .i64 0, .int .i64 0, .slice none 0 0, .slice none 0 0, .slice none 0 0, .int .i64 0] := ⟨zeroC_of (z := .agg #[.int .i64 0, .int .i64 0, .int .i64 0, .int .i64 0, .bool false, .int .i64 0, .int .i64 0, .int .i64 0, .slice none 0 0, .slice none 0 0, .slice none 0 0, .int .i64 0]) (by kernel_rfl) rfl⟩
instance : Parts Tryz.prog 31 [(0, 7), (7, 2), (9, 1), (10, 1), (11, 1)] := ⟨.inl ⟨_, Tryz.underlying31, by kernel_rfl, by kernel_rfl⟩⟩
instance : Aggr Tryz.prog 31 12 := ⟨⟨_, Tryz.underlying31, rfl⟩, by kernel_rfl⟩
instance : Fld Tryz.prog 31 0 0 := ⟨fld_of (by kernel_rfl)⟩
instance : Fld Tryz.prog 31 2 9 := ⟨fld_of (by kernel_rfl)⟩
instance : Fld Tryz.prog 31 3 10 := ⟨fld_of (by kernel_rfl)⟩
instance : Sz Tryz.prog 34 (.agg #[.int .i64 0, .int .i64 0, .int .i64 0, .int .i64 0, .int .i64 0]) 5 40 := ⟨by kernel_rfl⟩
instance : ZeroC Tryz.prog 34 [.int .i64 0, .int .i64 0, .int .i64 0, .int .i64 0, .int .i64 0] := ⟨zeroC_of (z := .agg #[.int .i64 0, .int .i64 0, .int .i64 0, .int .i64 0, .int .i64 0]) (by kernel_rfl) rfl⟩
instance : Parts Tryz.prog 34 [(0, 1), (1, 1), (2, 1), (3, 1), (4, 1)] := ⟨.inl ⟨_, Tryz.underlying34, by kernel_rfl, by kernel_rfl⟩⟩
instance : Aggr Tryz.prog 34 5 := ⟨⟨_, Tryz.underlying34, rfl⟩, by kernel_rfl⟩
instance : Fld Tryz.prog 34 1 1 := ⟨fld_of (by kernel_rfl)⟩
instance : Fld Tryz.prog 34 2 2 := ⟨fld_of (by kernel_rfl)⟩
instance : Fld Tryz.prog 34 3 3 := ⟨fld_of (by kernel_rfl)⟩
instance : Fld Tryz.prog 34 4 4 := ⟨fld_of (by kernel_rfl)⟩
instance : Sz Tryz.prog 37 (.agg #[.int .i64 0, .int .i64 0, .int .i64 0]) 3 24 := ⟨by kernel_rfl⟩
instance : ZeroC Tryz.prog 37 [.int .i64 0, .int .i64 0, .int .i64 0] := ⟨zeroC_of (z := .agg #[.int .i64 0, .int .i64 0, .int .i64 0]) (by kernel_rfl) rfl⟩
instance : Parts Tryz.prog 37 [(0, 1), (1, 1), (2, 1)] := ⟨.inl ⟨_, Tryz.underlying37, by kernel_rfl, by kernel_rfl⟩⟩
instance : Aggr Tryz.prog 37 3 := ⟨⟨_, Tryz.underlying37, rfl⟩, by kernel_rfl⟩
instance : Fld Tryz.prog 37 0 0 := ⟨fld_of (by kernel_rfl)⟩
instance : Fld Tryz.prog 37 1 1 := ⟨fld_of (by kernel_rfl)⟩
instance : Fld Tryz.prog 37 2 2 := ⟨fld_of (by kernel_rfl)⟩
instance : Aggr Tryz.prog 38 12 := ⟨⟨_, Tryz.underlying38, rfl⟩, by kernel_rfl⟩
instance : ArrT Tryz.prog 38 4 37 := ⟨Tryz.underlying38⟩
instance : Sz Tryz.prog 40 (.agg #[.int .i64 0, .int .i64 0, .int .i64 0, .int .i64 0, .int .i64 0, .int .i64 0, .int .i64 0, .int .i64 0, .int .i64 0, .int .i64 0, .int .i64 0, .int .i64 0]) 12 96 := ⟨by kernel_rfl⟩
instance : ZeroC Tryz.prog 40 [.int .i64 0, .int .i64 0, .int .i64 0, .int .i64 0, .int .i64 0, .int .i64 0, .int .i64 0, .int .i64 0, .int .i64 0, .int .i64 0, .int .i64 0, .int .i64 0] := ⟨zeroC_of (z := .agg #[.int .i64 0, .int .i64 0, .int .i64 0, .int .i64 0, .int .i64 0, .int .i64 0, .int .i64 0, .int .i64 0, .int .i64 0, .int .i64 0, .int .i64 0, .int .i64 0]) (by kernel_rfl) rfl⟩
instance : Parts Tryz.prog 40 [(0, 12)] := ⟨.inl ⟨_, Tryz.underlying40, by kernel_rfl, by kernel_rfl⟩⟩
instance : Aggr Tryz.prog 40 12 := ⟨⟨_, Tryz.underlying40, rfl⟩, by kernel_rfl⟩
instance : Fld Tryz.prog 40 0 0 := ⟨fld_of (by kernel_rfl)⟩
instance : Sz Tryz.prog 42 (.agg #[.int .i64 0, .int .i64 0, .int .i64 0, .int .i64 0, .int .i64 0, .int .i64 0, .int .i64 0, .int .i64 0, .int .i64 0, .int .i64 0, .int .i64 0, .int .i64 0, .int .i64 0, .int .i64 0, .int .i64 0, .int .i64 0, .int .i64 0, .int .i64 0, .int .i64 0, .int .i64 0, .int .i64 0, .int .i64 0, .int .i64 0, .int .i64 0, .int .i64 0, .int .i64 0]) 26 208 := ⟨by kernel_rfl⟩
instance : ZeroC Tryz.prog 42 [.int .i64 0, .int .i64 0, .int .i64 0, .int .i64 0, .int .i64 0, .int .i64 0, .int .i64 0, .int .i64 0, .int .i64 0, .int .i64 0, .int .i64 0, .int .i64 0, .int .i64 0, .int .i64 0, .int .i64 0, .int .i64 0, .int .i64 0, .int .i64 0, .int .i64 0, .int .i64 0, .int .i64 0, .int .i64 0, .int .i64 0, .int .i64 0, .int .i64 0, .int .i64 0] := ⟨zeroC_of (z := .agg #[.int .i64 0, .int .i64 0, .int .i64 0, .int .i64 0, .int .i64 0, .int .i64 0, .int .i64 0, .int .i64 0, .int .i64 0, .int .i64 0, .int .i64 0, .int .i64 0, .int .i64 0, .int .i64 0, .int .i64 0, .int .i64 0, .int .i64 0, .int .i64 0, .int .i64 0, .int .i64 0, .int .i64 0, .int .i64 0, .int .i64 0, .int .i64 0, .int .i64 0, .int .i64 0]) (by kernel_rfl) rfl⟩
instance : Parts Tryz.prog 42 [(0, 12), (12, 12), (24, 1), (25, 1)] := ⟨.inl ⟨_, Tryz.underlying42, by kernel_rfl, by kernel_rfl⟩⟩
instance : Aggr Tryz.prog 42 26 := ⟨⟨_, Tryz.underlying42, rfl⟩, by kernel_rfl⟩
instance : Fld Tryz.prog 42 0 0 := ⟨fld_of (by kernel_rfl)⟩
instance : Fld Tryz.prog 42 1 12 := ⟨fld_of (by kernel_rfl)⟩
instance : Fld Tryz.prog 42 3 25 := ⟨fld_of (by kernel_rfl)⟩
instance : Sz Tryz.prog 44 (.agg #[.int .i64 0, .int .i64 0, .int .i64 0, .int .i64 0, .int .i64 0, .int .i64 0]) 6 48 := ⟨by kernel_rfl⟩
instance : ZeroC Tryz.prog 44 [.int .i64 0, .int .i64 0, .int .i64 0, .int .i64 0, .int .i64 0, .int .i64 0] := ⟨zeroC_of (z := .agg #[.int .i64 0, .int .i64 0, .int .i64 0, .int .i64 0, .int .i64 0, .int .i64 0]) (by kernel_rfl) rfl⟩
instance : Parts Tryz.prog 44 [(0, 3), (3, 3)] := ⟨.inl ⟨_, Tryz.underlying44, by kernel_rfl, by kernel_rfl⟩⟩
instance : Aggr Tryz.prog 44 6 := ⟨⟨_, Tryz.underlying44, rfl⟩, by kernel_rfl⟩
instance : Fld Tryz.prog 44 0 0 := ⟨fld_of (by kernel_rfl)⟩
instance : Fld Tryz.prog 44 1 3 := ⟨fld_of (by kernel_rfl)⟩
instance : Sz Tryz.prog 48 (.slice none 0 0) 1 24 := ⟨by kernel_rfl⟩
instance : ZeroC Tryz.prog 48 [.slice none 0 0] := ⟨zeroC_of (z := .slice none 0 0) (by kernel_rfl) rfl⟩
instance : Scalar Tryz.prog 48 := ⟨_, Tryz.underlying48, rfl⟩
instance : SliceT Tryz.prog 48 55 := ⟨Tryz.underlying48⟩
instance : ZeroC Tryz.prog 51 [.int .i64 0, .int .i64 0, .int .i64 0, .int .i64 0, .int .i64 0, .int .i64 0, .int .i64 0, .int .i64 0, .int .i64 0] := ⟨zeroC_of (z := .agg #[.int .i64 0, .int .i64 0, .int .i64 0, .int .i64 0, .int .i64 0, .int .i64 0, .int .i64 0, .int .i64 0, .int .i64 0]) (by kernel_rfl) rfl⟩
instance : Parts Tryz.prog 51 [(0, 3), (3, 3), (6, 3)] := ⟨.inr ⟨_, _, Tryz.underlying51, by kernel_rfl, by kernel_rfl⟩⟩
instance : Aggr Tryz.prog 51 9 := ⟨⟨_, Tryz.underlying51, rfl⟩, by kernel_rfl⟩
instance : ArrT Tryz.prog 51 3 37 := ⟨Tryz.underlying51⟩
instance : ZeroC Tryz.prog 53 [.int .i64 0, .int .i64 0, .int .i64 0, .int .i64 0, .int .i64 0, .int .i64 0, .int .i64 0, .int .i64 0, .int .i64 0] := ⟨zeroC_of (z := .agg #[.int .i64 0, .int .i64 0, .int .i64 0, .int .i64 0, .int .i64 0, .int .i64 0, .int .i64 0, .int .i64 0, .int .i64 0]) (by kernel_rfl) rfl⟩
instance : Parts Tryz.prog 53 [(0, 9)] := ⟨.inl ⟨_, Tryz.underlying53, by kernel_rfl, by kernel_rfl⟩⟩
instance : Fld Tryz.prog 53 0 0 := ⟨fld_of (by kernel_rfl)⟩
instance : Sz Tryz.prog 55 (.agg #[.int .i64 0, .int .i64 0, .int .i64 0, .int .i64 0, .int .i64 0, .int .i64 0, .int .i64 0, .int .i64 0, .int .i64 0, .int .i64 0, .int .i64 0, .int .i64 0]) 12 96 := ⟨by kernel_rfl⟩
instance : ZeroC Tryz.prog 55 [.int .i64 0, .int .i64 0, .int .i64 0, .int .i64 0, .int .i64 0, .int .i64 0, .int .i64 0, .int .i64 0, .int .i64 0, .int .i64 0, .int .i64 0, .int .i64 0] := ⟨zeroC_of (z := .agg #[.int .i64 0, .int .i64 0, .int .i64 0, .int .i64 0, .int .i64 0, .int .i64 0, .int .i64 0, .int .i64 0, .int .i64 0, .int .i64 0, .int .i64 0, .int .i64 0]) (by kernel_rfl) rfl⟩
instance : Parts Tryz.prog 55 [(0, 9), (9, 1), (10, 1), (11, 1)] := ⟨.inl ⟨_, Tryz.underlying55, by kernel_rfl, by kernel_rfl⟩⟩
instance : Aggr Tryz.prog 55 12 := ⟨⟨_, Tryz.underlying55, rfl⟩, by kernel_rfl⟩
instance : Fld Tryz.prog 55 0 0 := ⟨fld_of (by kernel_rfl)⟩
instance : ZeroC Tryz.prog 72 [.int .i64 0, .int .i64 0, .int .i64 0] := ⟨zeroC_of (z := .agg #[.int .i64 0, .int .i64 0, .int .i64 0]) (by kernel_rfl) rfl⟩
instance : Parts Tryz.prog 72 [(0, 1), (1, 1), (2, 1)] := ⟨.inl ⟨_, Tryz.underlying72, by kernel_rfl, by kernel_rfl⟩⟩
instance : Aggr Tryz.prog 72 3 := ⟨⟨_, Tryz.underlying72, rfl⟩, by kernel_rfl⟩
instance : Fld Tryz.prog 72 0 0 := ⟨fld_of (by kernel_rfl)⟩
instance : Fld Tryz.prog 72 1 1 := ⟨fld_of (by kernel_rfl)⟩
instance : Fld Tryz.prog 72 2 2 := ⟨fld_of (by kernel_rfl)⟩
instance : Sz Tryz.prog 75 (.agg #[.int .i64 0, .int .i64 0, .int .i64 0]) 3 24 := ⟨by kernel_rfl⟩
instance : ZeroC Tryz.prog 75 [.int .i64 0, .int .i64 0, .int .i64 0] := ⟨zeroC_of (z := .agg #[.int .i64 0, .int .i64 0, .int .i64 0]) (by kernel_rfl) rfl⟩
instance : Parts Tryz.prog 75 [(0, 3)] := ⟨.inl ⟨_, Tryz.underlying75, by kernel_rfl, by kernel_rfl⟩⟩
instance : Aggr Tryz.prog 75 3 := ⟨⟨_, Tryz.underlying75, rfl⟩, by kernel_rfl⟩
instance : Fld Tryz.prog 75 0 0 := ⟨fld_of (by kernel_rfl)⟩
instance : ZeroC Tryz.prog 81 [.slice none 0 0, .int .i64 0, .int .i64 0] := ⟨zeroC_of (z := .agg #[.slice none 0 0, .int .i64 0, .int .i64 0]) (by kernel_rfl) rfl⟩
instance : Parts Tryz.prog 81 [(0, 1), (1, 1), (2, 1)] := ⟨.inl ⟨_, Tryz.underlying81, by kernel_rfl, by kernel_rfl⟩⟩
instance : Fld Tryz.prog 81 0 0 := ⟨fld_of (by kernel_rfl)⟩
instance : Fld Tryz.prog 81 1 1 := ⟨fld_of (by kernel_rfl)⟩
instance : Fld Tryz.prog 81 2 2 := ⟨fld_of (by kernel_rfl)⟩
instance : SliceT Tryz.prog 82 34 := ⟨Tryz.underlying82⟩
instance : Sz Tryz.prog 91 (.nilFunc) 1 8 := ⟨by kernel_rfl⟩
instance : ZeroC Tryz.prog 91 [.nilFunc] := ⟨zeroC_of (z := .nilFunc) (by kernel_rfl) rfl⟩
instance : Scalar Tryz.prog 91 := ⟨_, Tryz.underlying91, rfl⟩
instance : Sz Tryz.prog 95 (.slice none 0 0) 1 24 := ⟨by kernel_rfl⟩
instance : ZeroC Tryz.prog 95 [.slice none 0 0] := ⟨zeroC_of (z := .slice none 0 0) (by kernel_rfl) rfl⟩
instance : Scalar Tryz.prog 95 := ⟨_, Tryz.underlying95, rfl⟩
instance : SliceT Tryz.prog 95 37 := ⟨Tryz.underlying95⟩
instance : Sz Tryz.prog 105 (.slice none 0 0) 1 24 := ⟨by kernel_rfl⟩
instance : Scalar Tryz.prog 105 := ⟨_, Tryz.underlying105, rfl⟩
instance : SliceT Tryz.prog 105 155 := ⟨Tryz.underlying105⟩
instance : Sz Tryz.prog 106 (.slice none 0 0) 1 24 := ⟨by kernel_rfl⟩
instance : Scalar Tryz.prog 106 := ⟨_, Tryz.underlying106, rfl⟩
instance : SliceT Tryz.prog 106 150 := ⟨Tryz.underlying106⟩
instance : Sz Tryz.prog 108 (.agg #[.slice none 0 0, .slice none 0 0]) 2 48 := ⟨by kernel_rfl⟩
instance : ZeroC Tryz.prog 108 [.slice none 0 0, .slice none 0 0] := ⟨zeroC_of (z := .agg #[.slice none 0 0, .slice none 0 0]) (by kernel_rfl) rfl⟩
instance : Parts Tryz.prog 108 [(0, 1), (1, 1)] := ⟨.inl ⟨_, Tryz.underlying108, by kernel_rfl, by kernel_rfl⟩⟩
instance : Aggr Tryz.prog 108 2 := ⟨⟨_, Tryz.underlying108, rfl⟩, by kernel_rfl⟩
instance : Fld Tryz.prog 108 0 0 := ⟨fld_of (by kernel_rfl)⟩
instance : Fld Tryz.prog 108 1 1 := ⟨fld_of (by kernel_rfl)⟩
instance : ZeroC Tryz.prog 113 [.int .i64 0, .int .i64 0, .int .i64 0, .int .i64 0, .int .i64 0, .int .i64 0, .int .i64 0, .int .i64 0, .int .i64 0] := ⟨zeroC_of (z := .agg #[.int .i64 0, .int .i64 0, .int .i64 0, .int .i64 0, .int .i64 0, .int .i64 0, .int .i64 0, .int .i64 0, .int .i64 0]) (by kernel_rfl) rfl⟩
instance : Parts Tryz.prog 113 [(0, 1), (1, 1), (2, 1), (3, 1), (4, 1), (5, 1), (6, 1), (7, 1), (8, 1)] := ⟨.inr ⟨_, _, Tryz.underlying113, by kernel_rfl, by kernel_rfl⟩⟩
instance : Aggr Tryz.prog 113 9 := ⟨⟨_, Tryz.underlying113, rfl⟩, by kernel_rfl⟩
instance : ArrT Tryz.prog 113 9 3 := ⟨Tryz.underlying113⟩
instance : Sz Tryz.prog 115 (.agg #[.int .i64 0, .int .i64 0, .int .i64 0, .int .i64 0, .int .i64 0, .int .i64 0, .int .i64 0, .int .i64 0, .int .i64 0, .int .i64 0, .int .i64 0, .int .i64 0]) 12 96 := ⟨by kernel_rfl⟩
instance : ZeroC Tryz.prog 115 [.int .i64 0, .int .i64 0, .int .i64 0, .int .i64 0, .int .i64 0, .int .i64 0, .int .i64 0, .int .i64 0, .int .i64 0, .int .i64 0, .int .i64 0, .int .i64 0] := ⟨zeroC_of (z := .agg #[.int .i64 0, .int .i64 0, .int .i64 0, .int .i64 0, .int .i64 0, .int .i64 0, .int .i64 0, .int .i64 0, .int .i64 0, .int .i64 0, .int .i64 0, .int .i64 0]) (by kernel_rfl) rfl⟩
instance : Parts Tryz.prog 115 [(0, 9), (9, 3)] := ⟨.inl ⟨_, Tryz.underlying115, by kernel_rfl, by kernel_rfl⟩⟩
instance : Aggr Tryz.prog 115 12 := ⟨⟨_, Tryz.underlying115, rfl⟩, by kernel_rfl⟩
instance : Fld Tryz.prog 115 0 0 := ⟨fld_of (by kernel_rfl)⟩
instance : Fld Tryz.prog 115 1 9 := ⟨fld_of (by kernel_rfl)⟩
instance : SliceT Tryz.prog 117 115 := ⟨Tryz.underlying117⟩
instance : Sz Tryz.prog 137 (.agg #[.int .i64 0, .int .i64 0, .int .i64 0, .int .i64 0]) 4 32 := ⟨by kernel_rfl⟩
instance : ZeroC Tryz.prog 137 [.int .i64 0, .int .i64 0, .int .i64 0, .int .i64 0] := ⟨zeroC_of (z := .agg #[.int .i64 0, .int .i64 0, .int .i64 0, .int .i64 0]) (by kernel_rfl) rfl⟩
instance : Parts Tryz.prog 137 [(0, 1), (1, 1), (2, 1), (3, 1)] := ⟨.inr ⟨_, _, Tryz.underlying137, by kernel_rfl, by kernel_rfl⟩⟩
instance : ArrT Tryz.prog 137 4 3 := ⟨Tryz.underlying137⟩
instance : Scalar Tryz.prog 138 := ⟨_, Tryz.underlying138, rfl⟩
instance : SliceT Tryz.prog 138 145 := ⟨Tryz.underlying138⟩
instance : ZeroC Tryz.prog 143 [.slice none 0 0, .int .i64 0, .slice none 0 0, .slice none 0 0, .int .i64 0] := ⟨zeroC_of (z := .agg #[.slice none 0 0, .int .i64 0, .slice none 0 0, .slice none 0 0, .int .i64 0]) (by kernel_rfl) rfl⟩
instance : Parts Tryz.prog 143 [(0, 1), (1, 1), (2, 2), (4, 1)] := ⟨.inl ⟨_, Tryz.underlying143, by kernel_rfl, by kernel_rfl⟩⟩
instance : Fld Tryz.prog 143 0 0 := ⟨fld_of (by kernel_rfl)⟩
instance : Fld Tryz.prog 143 1 1 := ⟨fld_of (by kernel_rfl)⟩
instance : Fld Tryz.prog 143 2 2 := ⟨fld_of (by kernel_rfl)⟩
instance : Fld Tryz.prog 143 3 4 := ⟨fld_of (by kernel_rfl)⟩
instance : Sz Tryz.prog 145 (.agg #[.int .i64 0, .string ⟨#[]⟩, .int .i64 0, .int .i64 0]) 4 40 := ⟨by kernel_rfl⟩
instance : ZeroC Tryz.prog 145 [.int .i64 0, .string ⟨#[]⟩, .int .i64 0, .int .i64 0] := ⟨zeroC_of (z := .agg #[.int .i64 0, .string ⟨#[]⟩, .int .i64 0, .int .i64 0]) (by kernel_rfl) rfl⟩
instance : Parts Tryz.prog 145 [(0, 1), (1, 1), (2, 1), (3, 1)] := ⟨.inl ⟨_, Tryz.underlying145, by kernel_rfl, by kernel_rfl⟩⟩
instance : Aggr Tryz.prog 145 4 := ⟨⟨_, Tryz.underlying145, rfl⟩, by kernel_rfl⟩
instance : Fld Tryz.prog 145 0 0 := ⟨fld_of (by kernel_rfl)⟩
instance : Fld Tryz.prog 145 1 1 := ⟨fld_of (by kernel_rfl)⟩
instance : Fld Tryz.prog 145 2 2 := ⟨fld_of (by kernel_rfl)⟩
instance : Fld Tryz.prog 145 3 3 := ⟨fld_of (by kernel_rfl)⟩
instance : Sz Tryz.prog 150 (.agg #[.string ⟨#[]⟩, .int .i64 0]) 2 24 := ⟨by kernel_rfl⟩
instance : ZeroC Tryz.prog 150 [.string ⟨#[]⟩, .int .i64 0] := ⟨zeroC_of (z := .agg #[.string ⟨#[]⟩, .int .i64 0]) (by kernel_rfl) rfl⟩
instance : Parts Tryz.prog 150 [(0, 1), (1, 1)] := ⟨.inl ⟨_, Tryz.underlying150, by kernel_rfl, by kernel_rfl⟩⟩
instance : Aggr Tryz.prog 150 2 := ⟨⟨_, Tryz.underlying150, rfl⟩, by kernel_rfl⟩
instance : Fld Tryz.prog 150 0 0 := ⟨fld_of (by kernel_rfl)⟩
instance : Fld Tryz.prog 150 1 1 := ⟨fld_of (by kernel_rfl)⟩
instance : Sz Tryz.prog 155 (.agg #[.int .i64 0, .string ⟨#[]⟩, .int .i64 0, .slice none 0 0]) 4 56 := ⟨by kernel_rfl⟩
instance : ZeroC Tryz.prog 155 [.int .i64 0, .string ⟨#[]⟩, .int .i64 0, .slice none 0 0] := ⟨zeroC_of (z := .agg #[.int .i64 0, .string ⟨#[]⟩, .int .i64 0, .slice none 0 0]) (by kernel_rfl) rfl⟩
instance : Parts Tryz.prog 155 [(0, 1), (1, 1), (2, 1), (3, 1)] := ⟨.inl ⟨_, Tryz.underlying155, by kernel_rfl, by kernel_rfl⟩⟩
instance : Aggr Tryz.prog 155 4 := ⟨⟨_, Tryz.underlying155, rfl⟩, by kernel_rfl⟩
instance : Fld Tryz.prog 155 0 0 := ⟨fld_of (by kernel_rfl)⟩
instance : Fld Tryz.prog 155 1 1 := ⟨fld_of (by kernel_rfl)⟩
instance : Fld Tryz.prog 155 2 2 := ⟨fld_of (by kernel_rfl)⟩
instance : Fld Tryz.prog 155 3 3 := ⟨fld_of (by kernel_rfl)⟩
instance : SliceT Tryz.prog 165 9 := ⟨Tryz.underlying165⟩
end Go.Proofs.YtcbnegmmjflmcaaGreat.St
