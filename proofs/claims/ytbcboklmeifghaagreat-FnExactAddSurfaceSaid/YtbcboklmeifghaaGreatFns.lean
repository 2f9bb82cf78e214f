/-
  A call of each function of the program that has a body enters it.
-/
import Derived.Test.YtbcboklmeifghaaGreatStDraw
import Derived.Test.YtbcboklmeifghaaGreatRows
set_option linter.unusedSimpArgs false
set_option linter.unusedVariables false
namespace Go.Proofs.YtbcboklmeifghaaGreat.St
theorem mixed : Tryz.prog.follows .mixedOrders = true := by kernel_rfl
theorem en3 : Enters Tryz.prog 3 := enters_of Tryz.func3 (by kernel_rfl) rfl
instance : En Tryz.prog 3 := ⟨en3⟩
theorem en4 : Enters Tryz.prog 4 := enters_of Tryz.func4 (by kernel_rfl) rfl
instance : En Tryz.prog 4 := ⟨en4⟩
theorem en5 : Enters Tryz.prog 5 := enters_of Tryz.func5 (by kernel_rfl) rfl
instance : En Tryz.prog 5 := ⟨en5⟩
theorem en6 : Enters Tryz.prog 6 := enters_of Tryz.func6 (by kernel_rfl) rfl
instance : En Tryz.prog 6 := ⟨en6⟩
theorem en7 : Enters Tryz.prog 7 := enters_of Tryz.func7 (by kernel_rfl) rfl
instance : En Tryz.prog 7 := ⟨en7⟩
theorem en8 : Enters Tryz.prog 8 := enters_of Tryz.func8 (by kernel_rfl) rfl
instance : En Tryz.prog 8 := ⟨en8⟩
theorem en9 : Enters Tryz.prog 9 := enters_of Tryz.func9 (by kernel_rfl) rfl
instance : En Tryz.prog 9 := ⟨en9⟩
theorem en10 : Enters Tryz.prog 10 := enters_of Tryz.func10 (by kernel_rfl) rfl
instance : En Tryz.prog 10 := ⟨en10⟩
theorem en11 : Enters Tryz.prog 11 := enters_of Tryz.func11 (by kernel_rfl) rfl
instance : En Tryz.prog 11 := ⟨en11⟩
theorem en12 : Enters Tryz.prog 12 := enters_of Tryz.func12 (by kernel_rfl) rfl
instance : En Tryz.prog 12 := ⟨en12⟩
theorem en13 : Enters Tryz.prog 13 := enters_of Tryz.func13 (by kernel_rfl) rfl
instance : En Tryz.prog 13 := ⟨en13⟩
theorem en14 : Enters Tryz.prog 14 := enters_of Tryz.func14 (by kernel_rfl) rfl
instance : En Tryz.prog 14 := ⟨en14⟩
theorem en15 : Enters Tryz.prog 15 := enters_of Tryz.func15 (by kernel_rfl) rfl
instance : En Tryz.prog 15 := ⟨en15⟩
theorem en16 : Enters Tryz.prog 16 := enters_of Tryz.func16 (by kernel_rfl) rfl
instance : En Tryz.prog 16 := ⟨en16⟩
theorem en17 : Enters Tryz.prog 17 := enters_of Tryz.func17 (by kernel_rfl) rfl
instance : En Tryz.prog 17 := ⟨en17⟩
theorem en18 : Enters Tryz.prog 18 := enters_of Tryz.func18 (by kernel_rfl) rfl
instance : En Tryz.prog 18 := ⟨en18⟩
theorem en19 : Enters Tryz.prog 19 := enters_of Tryz.func19 (by kernel_rfl) rfl
instance : En Tryz.prog 19 := ⟨en19⟩
theorem en20 : Enters Tryz.prog 20 := enters_of Tryz.func20 (by kernel_rfl) rfl
instance : En Tryz.prog 20 := ⟨en20⟩
theorem en21 : Enters Tryz.prog 21 := enters_of Tryz.func21 (by kernel_rfl) rfl
instance : En Tryz.prog 21 := ⟨en21⟩
theorem en22 : Enters Tryz.prog 22 := enters_of Tryz.func22 (by kernel_rfl) rfl
instance : En Tryz.prog 22 := ⟨en22⟩
theorem en23 : Enters Tryz.prog 23 := enters_of Tryz.func23 (by kernel_rfl) rfl
instance : En Tryz.prog 23 := ⟨en23⟩
theorem en24 : Enters Tryz.prog 24 := enters_of Tryz.func24 (by kernel_rfl) rfl
instance : En Tryz.prog 24 := ⟨en24⟩
theorem en25 : Enters Tryz.prog 25 := enters_of Tryz.func25 (by kernel_rfl) rfl
instance : En Tryz.prog 25 := ⟨en25⟩
theorem en26 : Enters Tryz.prog 26 := enters_of Tryz.func26 (by kernel_rfl) rfl
instance : En Tryz.prog 26 := ⟨en26⟩
theorem en27 : Enters Tryz.prog 27 := enters_of Tryz.func27 (by kernel_rfl) rfl
instance : En Tryz.prog 27 := ⟨en27⟩
theorem en28 : Enters Tryz.prog 28 := enters_of Tryz.func28 (by kernel_rfl) rfl
instance : En Tryz.prog 28 := ⟨en28⟩
theorem en29 : Enters Tryz.prog 29 := enters_of Tryz.func29 (by kernel_rfl) rfl
instance : En Tryz.prog 29 := ⟨en29⟩
theorem en30 : Enters Tryz.prog 30 := enters_of Tryz.func30 (by kernel_rfl) rfl
instance : En Tryz.prog 30 := ⟨en30⟩
theorem en31 : Enters Tryz.prog 31 := enters_of Tryz.func31 (by kernel_rfl) rfl
instance : En Tryz.prog 31 := ⟨en31⟩
theorem en32 : Enters Tryz.prog 32 := enters_of Tryz.func32 (by kernel_rfl) rfl
instance : En Tryz.prog 32 := ⟨en32⟩
theorem en33 : Enters Tryz.prog 33 := enters_of Tryz.func33 (by kernel_rfl) rfl
instance : En Tryz.prog 33 := ⟨en33⟩
theorem en34 : Enters Tryz.prog 34 := enters_of Tryz.func34 (by kernel_rfl) rfl
instance : En Tryz.prog 34 := ⟨en34⟩
theorem en35 : Enters Tryz.prog 35 := enters_of Tryz.func35 (by kernel_rfl) rfl
instance : En Tryz.prog 35 := ⟨en35⟩
theorem en36 : Enters Tryz.prog 36 := enters_of Tryz.func36 (by kernel_rfl) rfl
instance : En Tryz.prog 36 := ⟨en36⟩
theorem en37 : Enters Tryz.prog 37 := enters_of Tryz.func37 (by kernel_rfl) rfl
instance : En Tryz.prog 37 := ⟨en37⟩
theorem en38 : Enters Tryz.prog 38 := enters_of Tryz.func38 (by kernel_rfl) rfl
instance : En Tryz.prog 38 := ⟨en38⟩
theorem en39 : Enters Tryz.prog 39 := enters_of Tryz.func39 (by kernel_rfl) rfl
instance : En Tryz.prog 39 := ⟨en39⟩
theorem en40 : Enters Tryz.prog 40 := enters_of Tryz.func40 (by kernel_rfl) rfl
instance : En Tryz.prog 40 := ⟨en40⟩
theorem en41 : Enters Tryz.prog 41 := enters_of Tryz.func41 (by kernel_rfl) rfl
instance : En Tryz.prog 41 := ⟨en41⟩
theorem en42 : Enters Tryz.prog 42 := enters_of Tryz.func42 (by kernel_rfl) rfl
instance : En Tryz.prog 42 := ⟨en42⟩
theorem en43 : Enters Tryz.prog 43 := enters_of Tryz.func43 (by kernel_rfl) rfl
instance : En Tryz.prog 43 := ⟨en43⟩
theorem en44 : Enters Tryz.prog 44 := enters_of Tryz.func44 (by kernel_rfl) rfl
instance : En Tryz.prog 44 := ⟨en44⟩
theorem en45 : Enters Tryz.prog 45 := enters_of Tryz.func45 (by kernel_rfl) rfl
instance : En Tryz.prog 45 := ⟨en45⟩
theorem en46 : Enters Tryz.prog 46 := enters_of Tryz.func46 (by kernel_rfl) rfl
instance : En Tryz.prog 46 := ⟨en46⟩
theorem en47 : Enters Tryz.prog 47 := enters_of Tryz.func47 (by kernel_rfl) rfl
instance : En Tryz.prog 47 := ⟨en47⟩
theorem en48 : Enters Tryz.prog 48 := enters_of Tryz.func48 (by kernel_rfl) rfl
instance : En Tryz.prog 48 := ⟨en48⟩
theorem en49 : Enters Tryz.prog 49 := enters_of Tryz.func49 (by kernel_rfl) rfl
instance : En Tryz.prog 49 := ⟨en49⟩
theorem en50 : Enters Tryz.prog 50 := enters_of Tryz.func50 (by kernel_rfl) rfl
instance : En Tryz.prog 50 := ⟨en50⟩
theorem en51 : Enters Tryz.prog 51 := enters_of Tryz.func51 (by kernel_rfl) rfl
instance : En Tryz.prog 51 := ⟨en51⟩
theorem en52 : Enters Tryz.prog 52 := enters_of Tryz.func52 (by kernel_rfl) rfl
instance : En Tryz.prog 52 := ⟨en52⟩
theorem en53 : Enters Tryz.prog 53 := enters_of Tryz.func53 (by kernel_rfl) rfl
instance : En Tryz.prog 53 := ⟨en53⟩
theorem en54 : Enters Tryz.prog 54 := enters_of Tryz.func54 (by kernel_rfl) rfl
instance : En Tryz.prog 54 := ⟨en54⟩
theorem en55 : Enters Tryz.prog 55 := enters_of Tryz.func55 (by kernel_rfl) rfl
instance : En Tryz.prog 55 := ⟨en55⟩
theorem en56 : Enters Tryz.prog 56 := enters_of Tryz.func56 (by kernel_rfl) rfl
instance : En Tryz.prog 56 := ⟨en56⟩
theorem en57 : Enters Tryz.prog 57 := enters_of Tryz.func57 (by kernel_rfl) rfl
instance : En Tryz.prog 57 := ⟨en57⟩
theorem en58 : Enters Tryz.prog 58 := enters_of Tryz.func58 (by kernel_rfl) rfl
instance : En Tryz.prog 58 := ⟨en58⟩
theorem en59 : Enters Tryz.prog 59 := enters_of Tryz.func59 (by kernel_rfl) rfl
instance : En Tryz.prog 59 := ⟨en59⟩
theorem en60 : Enters Tryz.prog 60 := enters_of Tryz.func60 (by kernel_rfl) rfl
instance : En Tryz.prog 60 := ⟨en60⟩
theorem en61 : Enters Tryz.prog 61 := enters_of Tryz.func61 (by kernel_rfl) rfl
instance : En Tryz.prog 61 := ⟨en61⟩
theorem en62 : Enters Tryz.prog 62 := enters_of Tryz.func62 (by kernel_rfl) rfl
instance : En Tryz.prog 62 := ⟨en62⟩
theorem en63 : Enters Tryz.prog 63 := enters_of Tryz.func63 (by kernel_rfl) rfl
instance : En Tryz.prog 63 := ⟨en63⟩
theorem en64 : Enters Tryz.prog 64 := enters_of Tryz.func64 (by kernel_rfl) rfl
instance : En Tryz.prog 64 := ⟨en64⟩
theorem en65 : Enters Tryz.prog 65 := enters_of Tryz.func65 (by kernel_rfl) rfl
instance : En Tryz.prog 65 := ⟨en65⟩
theorem en66 : Enters Tryz.prog 66 := enters_of Tryz.func66 (by kernel_rfl) rfl
instance : En Tryz.prog 66 := ⟨en66⟩
theorem en67 : Enters Tryz.prog 67 := enters_of Tryz.func67 (by kernel_rfl) rfl
instance : En Tryz.prog 67 := ⟨en67⟩
theorem en68 : Enters Tryz.prog 68 := enters_of Tryz.func68 (by kernel_rfl) rfl
instance : En Tryz.prog 68 := ⟨en68⟩
theorem en69 : Enters Tryz.prog 69 := enters_of Tryz.func69 (by kernel_rfl) rfl
instance : En Tryz.prog 69 := ⟨en69⟩
theorem en70 : Enters Tryz.prog 70 := enters_of Tryz.func70 (by kernel_rfl) rfl
instance : En Tryz.prog 70 := ⟨en70⟩
theorem en71 : Enters Tryz.prog 71 := enters_of Tryz.func71 (by kernel_rfl) rfl
instance : En Tryz.prog 71 := ⟨en71⟩
theorem en72 : Enters Tryz.prog 72 := enters_of Tryz.func72 (by kernel_rfl) rfl
instance : En Tryz.prog 72 := ⟨en72⟩
theorem en73 : Enters Tryz.prog 73 := enters_of Tryz.func73 (by kernel_rfl) rfl
instance : En Tryz.prog 73 := ⟨en73⟩
theorem en74 : Enters Tryz.prog 74 := enters_of Tryz.func74 (by kernel_rfl) rfl
instance : En Tryz.prog 74 := ⟨en74⟩
theorem en75 : Enters Tryz.prog 75 := enters_of Tryz.func75 (by kernel_rfl) rfl
instance : En Tryz.prog 75 := ⟨en75⟩
theorem en76 : Enters Tryz.prog 76 := enters_of Tryz.func76 (by kernel_rfl) rfl
instance : En Tryz.prog 76 := ⟨en76⟩
theorem en77 : Enters Tryz.prog 77 := enters_of Tryz.func77 (by kernel_rfl) rfl
instance : En Tryz.prog 77 := ⟨en77⟩
theorem en78 : Enters Tryz.prog 78 := enters_of Tryz.func78 (by kernel_rfl) rfl
instance : En Tryz.prog 78 := ⟨en78⟩
theorem en79 : Enters Tryz.prog 79 := enters_of Tryz.func79 (by kernel_rfl) rfl
instance : En Tryz.prog 79 := ⟨en79⟩
theorem en80 : Enters Tryz.prog 80 := enters_of Tryz.func80 (by kernel_rfl) rfl
instance : En Tryz.prog 80 := ⟨en80⟩
theorem en81 : Enters Tryz.prog 81 := enters_of Tryz.func81 (by kernel_rfl) rfl
instance : En Tryz.prog 81 := ⟨en81⟩
theorem en82 : Enters Tryz.prog 82 := enters_of Tryz.func82 (by kernel_rfl) rfl
instance : En Tryz.prog 82 := ⟨en82⟩
theorem en83 : Enters Tryz.prog 83 := enters_of Tryz.func83 (by kernel_rfl) rfl
instance : En Tryz.prog 83 := ⟨en83⟩
theorem en84 : Enters Tryz.prog 84 := enters_of Tryz.func84 (by kernel_rfl) rfl
instance : En Tryz.prog 84 := ⟨en84⟩
theorem en85 : Enters Tryz.prog 85 := enters_of Tryz.func85 (by kernel_rfl) rfl
instance : En Tryz.prog 85 := ⟨en85⟩
theorem en86 : Enters Tryz.prog 86 := enters_of Tryz.func86 (by kernel_rfl) rfl
instance : En Tryz.prog 86 := ⟨en86⟩
theorem en87 : Enters Tryz.prog 87 := enters_of Tryz.func87 (by kernel_rfl) rfl
instance : En Tryz.prog 87 := ⟨en87⟩
theorem en88 : Enters Tryz.prog 88 := enters_of Tryz.func88 (by kernel_rfl) rfl
instance : En Tryz.prog 88 := ⟨en88⟩
theorem en89 : Enters Tryz.prog 89 := enters_of Tryz.func89 (by kernel_rfl) rfl
instance : En Tryz.prog 89 := ⟨en89⟩
theorem en90 : Enters Tryz.prog 90 := enters_of Tryz.func90 (by kernel_rfl) rfl
instance : En Tryz.prog 90 := ⟨en90⟩
theorem en91 : Enters Tryz.prog 91 := enters_of Tryz.func91 (by kernel_rfl) rfl
instance : En Tryz.prog 91 := ⟨en91⟩
theorem en92 : Enters Tryz.prog 92 := enters_of Tryz.func92 (by kernel_rfl) rfl
instance : En Tryz.prog 92 := ⟨en92⟩
theorem en93 : Enters Tryz.prog 93 := enters_of Tryz.func93 (by kernel_rfl) rfl
instance : En Tryz.prog 93 := ⟨en93⟩
theorem en94 : Enters Tryz.prog 94 := enters_of Tryz.func94 (by kernel_rfl) rfl
instance : En Tryz.prog 94 := ⟨en94⟩
theorem en95 : Enters Tryz.prog 95 := enters_of Tryz.func95 (by kernel_rfl) rfl
instance : En Tryz.prog 95 := ⟨en95⟩
theorem en96 : Enters Tryz.prog 96 := enters_of Tryz.func96 (by kernel_rfl) rfl
instance : En Tryz.prog 96 := ⟨en96⟩
theorem en97 : Enters Tryz.prog 97 := enters_of Tryz.func97 (by kernel_rfl) rfl
instance : En Tryz.prog 97 := ⟨en97⟩
theorem en98 : Enters Tryz.prog 98 := enters_of Tryz.func98 (by kernel_rfl) rfl
instance : En Tryz.prog 98 := ⟨en98⟩
theorem en99 : Enters Tryz.prog 99 := enters_of Tryz.func99 (by kernel_rfl) rfl
instance : En Tryz.prog 99 := ⟨en99⟩
theorem en100 : Enters Tryz.prog 100 := enters_of Tryz.func100 (by kernel_rfl) rfl
instance : En Tryz.prog 100 := ⟨en100⟩
theorem en101 : Enters Tryz.prog 101 := enters_of Tryz.func101 (by kernel_rfl) rfl
instance : En Tryz.prog 101 := ⟨en101⟩
theorem en102 : Enters Tryz.prog 102 := enters_of Tryz.func102 (by kernel_rfl) rfl
instance : En Tryz.prog 102 := ⟨en102⟩
theorem en103 : Enters Tryz.prog 103 := enters_of Tryz.func103 (by kernel_rfl) rfl
instance : En Tryz.prog 103 := ⟨en103⟩
theorem en104 : Enters Tryz.prog 104 := enters_of Tryz.func104 (by kernel_rfl) rfl
instance : En Tryz.prog 104 := ⟨en104⟩
theorem en105 : Enters Tryz.prog 105 := enters_of Tryz.func105 (by kernel_rfl) rfl
instance : En Tryz.prog 105 := ⟨en105⟩
theorem en106 : Enters Tryz.prog 106 := enters_of Tryz.func106 (by kernel_rfl) rfl
instance : En Tryz.prog 106 := ⟨en106⟩
theorem en107 : Enters Tryz.prog 107 := enters_of Tryz.func107 (by kernel_rfl) rfl
instance : En Tryz.prog 107 := ⟨en107⟩
theorem en108 : Enters Tryz.prog 108 := enters_of Tryz.func108 (by kernel_rfl) rfl
instance : En Tryz.prog 108 := ⟨en108⟩
theorem en109 : Enters Tryz.prog 109 := enters_of Tryz.func109 (by kernel_rfl) rfl
instance : En Tryz.prog 109 := ⟨en109⟩
theorem en110 : Enters Tryz.prog 110 := enters_of Tryz.func110 (by kernel_rfl) rfl
instance : En Tryz.prog 110 := ⟨en110⟩
theorem en111 : Enters Tryz.prog 111 := enters_of Tryz.func111 (by kernel_rfl) rfl
instance : En Tryz.prog 111 := ⟨en111⟩
theorem en112 : Enters Tryz.prog 112 := enters_of Tryz.func112 (by kernel_rfl) rfl
instance : En Tryz.prog 112 := ⟨en112⟩
theorem en113 : Enters Tryz.prog 113 := enters_of Tryz.func113 (by kernel_rfl) rfl
instance : En Tryz.prog 113 := ⟨en113⟩
theorem en114 : Enters Tryz.prog 114 := enters_of Tryz.func114 (by kernel_rfl) rfl
instance : En Tryz.prog 114 := ⟨en114⟩
theorem en115 : Enters Tryz.prog 115 := enters_of Tryz.func115 (by kernel_rfl) rfl
instance : En Tryz.prog 115 := ⟨en115⟩
theorem en116 : Enters Tryz.prog 116 := enters_of Tryz.func116 (by kernel_rfl) rfl
instance : En Tryz.prog 116 := ⟨en116⟩
theorem en117 : Enters Tryz.prog 117 := enters_of Tryz.func117 (by kernel_rfl) rfl
instance : En Tryz.prog 117 := ⟨en117⟩
theorem en118 : Enters Tryz.prog 118 := enters_of Tryz.func118 (by kernel_rfl) rfl
instance : En Tryz.prog 118 := ⟨en118⟩
theorem en119 : Enters Tryz.prog 119 := enters_of Tryz.func119 (by kernel_rfl) rfl
instance : En Tryz.prog 119 := ⟨en119⟩
theorem en120 : Enters Tryz.prog 120 := enters_of Tryz.func120 (by kernel_rfl) rfl
instance : En Tryz.prog 120 := ⟨en120⟩
theorem en121 : Enters Tryz.prog 121 := enters_of Tryz.func121 (by kernel_rfl) rfl
instance : En Tryz.prog 121 := ⟨en121⟩
theorem en122 : Enters Tryz.prog 122 := enters_of Tryz.func122 (by kernel_rfl) rfl
instance : En Tryz.prog 122 := ⟨en122⟩
theorem en123 : Enters Tryz.prog 123 := enters_of Tryz.func123 (by kernel_rfl) rfl
instance : En Tryz.prog 123 := ⟨en123⟩
theorem en124 : Enters Tryz.prog 124 := enters_of Tryz.func124 (by kernel_rfl) rfl
instance : En Tryz.prog 124 := ⟨en124⟩
theorem en125 : Enters Tryz.prog 125 := enters_of Tryz.func125 (by kernel_rfl) rfl
instance : En Tryz.prog 125 := ⟨en125⟩
theorem en126 : Enters Tryz.prog 126 := enters_of Tryz.func126 (by kernel_rfl) rfl
instance : En Tryz.prog 126 := ⟨en126⟩
theorem en127 : Enters Tryz.prog 127 := enters_of Tryz.func127 (by kernel_rfl) rfl
instance : En Tryz.prog 127 := ⟨en127⟩
theorem en128 : Enters Tryz.prog 128 := enters_of Tryz.func128 (by kernel_rfl) rfl
instance : En Tryz.prog 128 := ⟨en128⟩
theorem en129 : Enters Tryz.prog 129 := enters_of Tryz.func129 (by kernel_rfl) rfl
instance : En Tryz.prog 129 := ⟨en129⟩
theorem en130 : Enters Tryz.prog 130 := enters_of Tryz.func130 (by kernel_rfl) rfl
instance : En Tryz.prog 130 := ⟨en130⟩
theorem en131 : Enters Tryz.prog 131 := enters_of Tryz.func131 (by kernel_rfl) rfl
instance : En Tryz.prog 131 := ⟨en131⟩
theorem en132 : Enters Tryz.prog 132 := enters_of Tryz.func132 (by kernel_rfl) rfl
instance : En Tryz.prog 132 := ⟨en132⟩
theorem en133 : Enters Tryz.prog 133 := enters_of Tryz.func133 (by kernel_rfl) rfl
instance : En Tryz.prog 133 := ⟨en133⟩
theorem en134 : Enters Tryz.prog 134 := enters_of Tryz.func134 (by kernel_rfl) rfl
instance : En Tryz.prog 134 := ⟨en134⟩
theorem en135 : Enters Tryz.prog 135 := enters_of Tryz.func135 (by kernel_rfl) rfl
instance : En Tryz.prog 135 := ⟨en135⟩
theorem en136 : Enters Tryz.prog 136 := enters_of Tryz.func136 (by kernel_rfl) rfl
instance : En Tryz.prog 136 := ⟨en136⟩
theorem en137 : Enters Tryz.prog 137 := enters_of Tryz.func137 (by kernel_rfl) rfl
instance : En Tryz.prog 137 := ⟨en137⟩
theorem en138 : Enters Tryz.prog 138 := enters_of Tryz.func138 (by kernel_rfl) rfl
instance : En Tryz.prog 138 := ⟨en138⟩
theorem en139 : Enters Tryz.prog 139 := enters_of Tryz.func139 (by kernel_rfl) rfl
instance : En Tryz.prog 139 := ⟨en139⟩
theorem en140 : Enters Tryz.prog 140 := enters_of Tryz.func140 (by kernel_rfl) rfl
instance : En Tryz.prog 140 := ⟨en140⟩
theorem en141 : Enters Tryz.prog 141 := enters_of Tryz.func141 (by kernel_rfl) rfl
instance : En Tryz.prog 141 := ⟨en141⟩
theorem en142 : Enters Tryz.prog 142 := enters_of Tryz.func142 (by kernel_rfl) rfl
instance : En Tryz.prog 142 := ⟨en142⟩
theorem en143 : Enters Tryz.prog 143 := enters_of Tryz.func143 (by kernel_rfl) rfl
instance : En Tryz.prog 143 := ⟨en143⟩
theorem en144 : Enters Tryz.prog 144 := enters_of Tryz.func144 (by kernel_rfl) rfl
instance : En Tryz.prog 144 := ⟨en144⟩
theorem en145 : Enters Tryz.prog 145 := enters_of Tryz.func145 (by kernel_rfl) rfl
instance : En Tryz.prog 145 := ⟨en145⟩
theorem en146 : Enters Tryz.prog 146 := enters_of Tryz.func146 (by kernel_rfl) rfl
instance : En Tryz.prog 146 := ⟨en146⟩
theorem en147 : Enters Tryz.prog 147 := enters_of Tryz.func147 (by kernel_rfl) rfl
instance : En Tryz.prog 147 := ⟨en147⟩
theorem en148 : Enters Tryz.prog 148 := enters_of Tryz.func148 (by kernel_rfl) rfl
instance : En Tryz.prog 148 := ⟨en148⟩
theorem en149 : Enters Tryz.prog 149 := enters_of Tryz.func149 (by kernel_rfl) rfl
instance : En Tryz.prog 149 := ⟨en149⟩
theorem en150 : Enters Tryz.prog 150 := enters_of Tryz.func150 (by kernel_rfl) rfl
instance : En Tryz.prog 150 := ⟨en150⟩
theorem en151 : Enters Tryz.prog 151 := enters_of Tryz.func151 (by kernel_rfl) rfl
instance : En Tryz.prog 151 := ⟨en151⟩
theorem en152 : Enters Tryz.prog 152 := enters_of Tryz.func152 (by kernel_rfl) rfl
instance : En Tryz.prog 152 := ⟨en152⟩
theorem en153 : Enters Tryz.prog 153 := enters_of Tryz.func153 (by kernel_rfl) rfl
instance : En Tryz.prog 153 := ⟨en153⟩
theorem en154 : Enters Tryz.prog 154 := enters_of Tryz.func154 (by kernel_rfl) rfl
instance : En Tryz.prog 154 := ⟨en154⟩
theorem en155 : Enters Tryz.prog 155 := enters_of Tryz.func155 (by kernel_rfl) rfl
instance : En Tryz.prog 155 := ⟨en155⟩
theorem en156 : Enters Tryz.prog 156 := enters_of Tryz.func156 (by kernel_rfl) rfl
instance : En Tryz.prog 156 := ⟨en156⟩
theorem en157 : Enters Tryz.prog 157 := enters_of Tryz.func157 (by kernel_rfl) rfl
instance : En Tryz.prog 157 := ⟨en157⟩
theorem en158 : Enters Tryz.prog 158 := enters_of Tryz.func158 (by kernel_rfl) rfl
instance : En Tryz.prog 158 := ⟨en158⟩
theorem en159 : Enters Tryz.prog 159 := enters_of Tryz.func159 (by kernel_rfl) rfl
instance : En Tryz.prog 159 := ⟨en159⟩
theorem en160 : Enters Tryz.prog 160 := enters_of Tryz.func160 (by kernel_rfl) rfl
instance : En Tryz.prog 160 := ⟨en160⟩
theorem en161 : Enters Tryz.prog 161 := enters_of Tryz.func161 (by kernel_rfl) rfl
instance : En Tryz.prog 161 := ⟨en161⟩
theorem en162 : Enters Tryz.prog 162 := enters_of Tryz.func162 (by kernel_rfl) rfl
instance : En Tryz.prog 162 := ⟨en162⟩
theorem en163 : Enters Tryz.prog 163 := enters_of Tryz.func163 (by kernel_rfl) rfl
instance : En Tryz.prog 163 := ⟨en163⟩
theorem en164 : Enters Tryz.prog 164 := enters_of Tryz.func164 (by kernel_rfl) rfl
instance : En Tryz.prog 164 := ⟨en164⟩
theorem en165 : Enters Tryz.prog 165 := enters_of Tryz.func165 (by kernel_rfl) rfl
instance : En Tryz.prog 165 := ⟨en165⟩
instance : Sz Tryz.prog 1 (.nilFunc) 1 8 := ⟨by kernel_rfl⟩
instance : ZeroC Tryz.prog 1 [.nilFunc] := ⟨zeroC_of (z := .nilFunc) (by kernel_rfl) rfl⟩
instance : Scalar Tryz.prog 1 := ⟨_, Tryz.underlying1, rfl⟩
instance : Sz Tryz.prog 2 (.int .i64 0) 1 8 := ⟨by kernel_rfl⟩
instance : ZeroC Tryz.prog 2 [.int .i64 0] := ⟨zeroC_of (z := .int .i64 0) (by kernel_rfl) rfl⟩
instance : Scalar Tryz.prog 2 := ⟨_, Tryz.underlying2, rfl⟩
instance : Sz Tryz.prog 3 (.int .i64 0) 1 8 := ⟨by kernel_rfl⟩
instance : ZeroC Tryz.prog 3 [.int .i64 0] := ⟨zeroC_of (z := .int .i64 0) (by kernel_rfl) rfl⟩
instance : Scalar Tryz.prog 3 := ⟨_, Tryz.underlying3, rfl⟩
instance : Sz Tryz.prog 4 (.bool false) 1 1 := ⟨by kernel_rfl⟩
instance : ZeroC Tryz.prog 4 [.bool false] := ⟨zeroC_of (z := .bool false) (by kernel_rfl) rfl⟩
instance : Scalar Tryz.prog 4 := ⟨_, Tryz.underlying4, rfl⟩
instance : BoolT Tryz.prog 4 := ⟨Tryz.underlying4⟩
instance : Sz Tryz.prog 5 (.int .u8 0) 1 1 := ⟨by kernel_rfl⟩
instance : ZeroC Tryz.prog 5 [.int .u8 0] := ⟨zeroC_of (z := .int .u8 0) (by kernel_rfl) rfl⟩
instance : Scalar Tryz.prog 5 := ⟨_, Tryz.underlying5, rfl⟩
instance : Sz Tryz.prog 6 (.int .u8 0) 1 1 := ⟨by kernel_rfl⟩
instance : ZeroC Tryz.prog 6 [.int .u8 0] := ⟨zeroC_of (z := .int .u8 0) (by kernel_rfl) rfl⟩
instance : Scalar Tryz.prog 6 := ⟨_, Tryz.underlying6, rfl⟩
instance : Sz Tryz.prog 7 (.agg #[.int .i64 0, .int .i64 0, .bool false, .int .u8 0]) 4 24 := ⟨by kernel_rfl⟩
instance : ZeroC Tryz.prog 7 [.int .i64 0, .int .i64 0, .bool false, .int .u8 0] := ⟨zeroC_of (z := .agg #[.int .i64 0, .int .i64 0, .bool false, .int .u8 0]) (by kernel_rfl) rfl⟩
instance : Parts Tryz.prog 7 [(0, 1), (1, 1), (2, 1), (3, 1)] := ⟨.inl ⟨_, Tryz.underlying7, by kernel_rfl, by kernel_rfl⟩⟩
instance : Aggr Tryz.prog 7 4 := ⟨⟨_, Tryz.underlying7, rfl⟩, by kernel_rfl⟩
instance : Fld Tryz.prog 7 0 0 := ⟨fld_of (by kernel_rfl)⟩
instance : Fld Tryz.prog 7 1 1 := ⟨fld_of (by kernel_rfl)⟩
instance : Fld Tryz.prog 7 2 2 := ⟨fld_of (by kernel_rfl)⟩
instance : Fld Tryz.prog 7 3 3 := ⟨fld_of (by kernel_rfl)⟩
instance : Sz Tryz.prog 8 (.agg #[.int .i64 0, .int .i64 0, .bool false, .int .u8 0]) 4 24 := ⟨by kernel_rfl⟩
instance : ZeroC Tryz.prog 8 [.int .i64 0, .int .i64 0, .bool false, .int .u8 0] := ⟨zeroC_of (z := .agg #[.int .i64 0, .int .i64 0, .bool false, .int .u8 0]) (by kernel_rfl) rfl⟩
instance : Parts Tryz.prog 8 [(0, 1), (1, 1), (2, 1), (3, 1)] := ⟨.inl ⟨_, Tryz.underlying8, by kernel_rfl, by kernel_rfl⟩⟩
instance : Aggr Tryz.prog 8 4 := ⟨⟨_, Tryz.underlying8, rfl⟩, by kernel_rfl⟩
instance : Fld Tryz.prog 8 0 0 := ⟨fld_of (by kernel_rfl)⟩
instance : Fld Tryz.prog 8 1 1 := ⟨fld_of (by kernel_rfl)⟩
instance : Fld Tryz.prog 8 2 2 := ⟨fld_of (by kernel_rfl)⟩
instance : Fld Tryz.prog 8 3 3 := ⟨fld_of (by kernel_rfl)⟩
instance : Sz Tryz.prog 9 (.string ⟨#[]⟩) 1 16 := ⟨by kernel_rfl⟩
instance : ZeroC Tryz.prog 9 [.string ⟨#[]⟩] := ⟨zeroC_of (z := .string ⟨#[]⟩) (by kernel_rfl) rfl⟩
instance : Scalar Tryz.prog 9 := ⟨_, Tryz.underlying9, rfl⟩
instance : StrT Tryz.prog 9 := ⟨Tryz.underlying9⟩
instance : Sz Tryz.prog 10 (.string ⟨#[]⟩) 1 16 := ⟨by kernel_rfl⟩
instance : ZeroC Tryz.prog 10 [.string ⟨#[]⟩] := ⟨zeroC_of (z := .string ⟨#[]⟩) (by kernel_rfl) rfl⟩
instance : Scalar Tryz.prog 10 := ⟨_, Tryz.underlying10, rfl⟩
instance : StrT Tryz.prog 10 := ⟨Tryz.underlying10⟩
instance : Sz Tryz.prog 11 (.string ⟨#[]⟩) 1 16 := ⟨by kernel_rfl⟩
instance : ZeroC Tryz.prog 11 [.string ⟨#[]⟩] := ⟨zeroC_of (z := .string ⟨#[]⟩) (by kernel_rfl) rfl⟩
instance : Scalar Tryz.prog 11 := ⟨_, Tryz.underlying11, rfl⟩
instance : StrT Tryz.prog 11 := ⟨Tryz.underlying11⟩
instance : Sz Tryz.prog 12 (.int .u64 0) 1 8 := ⟨by kernel_rfl⟩
instance : ZeroC Tryz.prog 12 [.int .u64 0] := ⟨zeroC_of (z := .int .u64 0) (by kernel_rfl) rfl⟩
instance : Scalar Tryz.prog 12 := ⟨_, Tryz.underlying12, rfl⟩
instance : Sz Tryz.prog 13 (.agg #[.string ⟨#[]⟩, .int .u64 0]) 2 24 := ⟨by kernel_rfl⟩
instance : ZeroC Tryz.prog 13 [.string ⟨#[]⟩, .int .u64 0] := ⟨zeroC_of (z := .agg #[.string ⟨#[]⟩, .int .u64 0]) (by kernel_rfl) rfl⟩
instance : Parts Tryz.prog 13 [(0, 1), (1, 1)] := ⟨.inl ⟨_, Tryz.underlying13, by kernel_rfl, by kernel_rfl⟩⟩
instance : Aggr Tryz.prog 13 2 := ⟨⟨_, Tryz.underlying13, rfl⟩, by kernel_rfl⟩
instance : Fld Tryz.prog 13 0 0 := ⟨fld_of (by kernel_rfl)⟩
instance : Fld Tryz.prog 13 1 1 := ⟨fld_of (by kernel_rfl)⟩
instance : Sz Tryz.prog 16 (.pointer none) 1 8 := ⟨by kernel_rfl⟩
instance : ZeroC Tryz.prog 16 [.pointer none] := ⟨zeroC_of (z := .pointer none) (by kernel_rfl) rfl⟩
instance : Scalar Tryz.prog 16 := ⟨_, Tryz.underlying16, rfl⟩
instance : Sz Tryz.prog 17 (.pointer none) 1 8 := ⟨by kernel_rfl⟩
instance : ZeroC Tryz.prog 17 [.pointer none] := ⟨zeroC_of (z := .pointer none) (by kernel_rfl) rfl⟩
instance : Scalar Tryz.prog 17 := ⟨_, Tryz.underlying17, rfl⟩
instance : Sz Tryz.prog 18 (.agg #[.pointer none]) 1 8 := ⟨by kernel_rfl⟩
instance : ZeroC Tryz.prog 18 [.pointer none] := ⟨zeroC_of (z := .agg #[.pointer none]) (by kernel_rfl) rfl⟩
instance : Parts Tryz.prog 18 [(0, 1)] := ⟨.inl ⟨_, Tryz.underlying18, by kernel_rfl, by kernel_rfl⟩⟩
instance : Aggr Tryz.prog 18 1 := ⟨⟨_, Tryz.underlying18, rfl⟩, by kernel_rfl⟩
instance : Fld Tryz.prog 18 0 0 := ⟨fld_of (by kernel_rfl)⟩
instance : Sz Tryz.prog 19 (.agg #[.pointer none]) 1 8 := ⟨by kernel_rfl⟩
instance : ZeroC Tryz.prog 19 [.pointer none] := ⟨zeroC_of (z := .agg #[.pointer none]) (by kernel_rfl) rfl⟩
instance : Parts Tryz.prog 19 [(0, 1)] := ⟨.inl ⟨_, Tryz.underlying19, by kernel_rfl, by kernel_rfl⟩⟩
instance : Aggr Tryz.prog 19 1 := ⟨⟨_, Tryz.underlying19, rfl⟩, by kernel_rfl⟩
instance : Fld Tryz.prog 19 0 0 := ⟨fld_of (by kernel_rfl)⟩
instance : Sz Tryz.prog 21 (.int .i32 0) 1 4 := ⟨by kernel_rfl⟩
instance : ZeroC Tryz.prog 21 [.int .i32 0] := ⟨zeroC_of (z := .int .i32 0) (by kernel_rfl) rfl⟩
instance : Scalar Tryz.prog 21 := ⟨_, Tryz.underlying21, rfl⟩
instance : Sz Tryz.prog 22 (.agg #[.int .i64 0, .int .i64 0, .int .i64 0, .int .i64 0, .bool false, .int .i64 0, .int .i64 0]) 7 56 := ⟨by kernel_rfl⟩
instance : ZeroC Tryz.prog 22 [.int .i64 0, .int .i64 0, .int .i64 0, .int .i64 0, .bool false, .int .i64 0, .int .i64 0] := ⟨zeroC_of (z := .agg #[.int .i64 0, .int .i64 0, .int .i64 0, .int .i64 0, .bool false, .int .i64 0, .int .i64 0]) (by kernel_rfl) rfl⟩
instance : Parts Tryz.prog 22 [(0, 1), (1, 1), (2, 1), (3, 1), (4, 1), (5, 1), (6, 1)] := ⟨.inl ⟨_, Tryz.underlying22, by kernel_rfl, by kernel_rfl⟩⟩
instance : Aggr Tryz.prog 22 7 := ⟨⟨_, Tryz.underlying22, rfl⟩, by kernel_rfl⟩
instance : Fld Tryz.prog 22 0 0 := ⟨fld_of (by kernel_rfl)⟩
instance : Fld Tryz.prog 22 1 1 := ⟨fld_of (by kernel_rfl)⟩
instance : Fld Tryz.prog 22 2 2 := ⟨fld_of (by kernel_rfl)⟩
instance : Fld Tryz.prog 22 3 3 := ⟨fld_of (by kernel_rfl)⟩
instance : Fld Tryz.prog 22 4 4 := ⟨fld_of (by kernel_rfl)⟩
instance : Fld Tryz.prog 22 5 5 := ⟨fld_of (by kernel_rfl)⟩
instance : Fld Tryz.prog 22 6 6 := ⟨fld_of (by kernel_rfl)⟩
instance : Sz Tryz.prog 23 (.agg #[.int .i64 0, .int .i64 0, .int .i64 0, .int .i64 0, .bool false, .int .i64 0, .int .i64 0]) 7 56 := ⟨by kernel_rfl⟩
instance : ZeroC Tryz.prog 23 [.int .i64 0, .int .i64 0, .int .i64 0, .int .i64 0, .bool false, .int .i64 0, .int .i64 0] := ⟨zeroC_of (z := .agg #[.int .i64 0, .int .i64 0, .int .i64 0, .int .i64 0, .bool false, .int .i64 0, .int .i64 0]) (by kernel_rfl) rfl⟩
instance : Parts Tryz.prog 23 [(0, 1), (1, 1), (2, 1), (3, 1), (4, 1), (5, 1), (6, 1)] := ⟨.inl ⟨_, Tryz.underlying23, by kernel_rfl, by kernel_rfl⟩⟩
instance : Aggr Tryz.prog 23 7 := ⟨⟨_, Tryz.underlying23, rfl⟩, by kernel_rfl⟩
instance : Fld Tryz.prog 23 0 0 := ⟨fld_of (by kernel_rfl)⟩
instance : Fld Tryz.prog 23 1 1 := ⟨fld_of (by kernel_rfl)⟩
instance : Fld Tryz.prog 23 2 2 := ⟨fld_of (by kernel_rfl)⟩
instance : Fld Tryz.prog 23 3 3 := ⟨fld_of (by kernel_rfl)⟩
instance : Fld Tryz.prog 23 4 4 := ⟨fld_of (by kernel_rfl)⟩
instance : Fld Tryz.prog 23 5 5 := ⟨fld_of (by kernel_rfl)⟩
instance : Fld Tryz.prog 23 6 6 := ⟨fld_of (by kernel_rfl)⟩
instance : Sz Tryz.prog 24 (.slice none 0 0) 1 24 := ⟨by kernel_rfl⟩
instance : ZeroC Tryz.prog 24 [.slice none 0 0] := ⟨zeroC_of (z := .slice none 0 0) (by kernel_rfl) rfl⟩
instance : Scalar Tryz.prog 24 := ⟨_, Tryz.underlying24, rfl⟩
instance : SliceT Tryz.prog 24 3 := ⟨Tryz.underlying24⟩
instance : Sz Tryz.prog 25 (.agg #[.int .i64 0, .slice none 0 0]) 2 32 := ⟨by kernel_rfl⟩
instance : ZeroC Tryz.prog 25 [.int .i64 0, .slice none 0 0] := ⟨zeroC_of (z := .agg #[.int .i64 0, .slice none 0 0]) (by kernel_rfl) rfl⟩
instance : Parts Tryz.prog 25 [(0, 1), (1, 1)] := ⟨.inl ⟨_, Tryz.underlying25, by kernel_rfl, by kernel_rfl⟩⟩
instance : Aggr Tryz.prog 25 2 := ⟨⟨_, Tryz.underlying25, rfl⟩, by kernel_rfl⟩
instance : Fld Tryz.prog 25 0 0 := ⟨fld_of (by kernel_rfl)⟩
instance : Fld Tryz.prog 25 1 1 := ⟨fld_of (by kernel_rfl)⟩
instance : Sz Tryz.prog 26 (.agg #[.int .i64 0, .slice none 0 0]) 2 32 := ⟨by kernel_rfl⟩
instance : ZeroC Tryz.prog 26 [.int .i64 0, .slice none 0 0] := ⟨zeroC_of (z := .agg #[.int .i64 0, .slice none 0 0]) (by kernel_rfl) rfl⟩
instance : Parts Tryz.prog 26 [(0, 1), (1, 1)] := ⟨.inl ⟨_, Tryz.underlying26, by kernel_rfl, by kernel_rfl⟩⟩
instance : Aggr Tryz.prog 26 2 := ⟨⟨_, Tryz.underlying26, rfl⟩, by kernel_rfl⟩
instance : Fld Tryz.prog 26 0 0 := ⟨fld_of (by kernel_rfl)⟩
instance : Fld Tryz.prog 26 1 1 := ⟨fld_of (by kernel_rfl)⟩
instance : Sz Tryz.prog 27 (.slice none 0 0) 1 24 := ⟨by kernel_rfl⟩
instance : ZeroC Tryz.prog 27 [.slice none 0 0] := ⟨zeroC_of (z := .slice none 0 0) (by kernel_rfl) rfl⟩
instance : Scalar Tryz.prog 27 := ⟨_, Tryz.underlying27, rfl⟩
instance : SliceT Tryz.prog 27 98 := ⟨Tryz.underlying27⟩
instance : Sz Tryz.prog 28 (.slice none 0 0) 1 24 := ⟨by kernel_rfl⟩
instance : ZeroC Tryz.prog 28 [.slice none 0 0] := ⟨zeroC_of (z := .slice none 0 0) (by kernel_rfl) rfl⟩
instance : Scalar Tryz.prog 28 := ⟨_, Tryz.underlying28, rfl⟩
instance : SliceT Tryz.prog 28 37 := ⟨Tryz.underlying28⟩
instance : Sz Tryz.prog 29 (.agg #[.int .i64 0, .int .i64 0, .int .i64 0, .int .i64 0, .bool false, .int .i64 0, .int .i64 0, .int .i64 0, .slice none 0 0, .slice none 0 0, .slice none 0 0, .int .i64 0]) 12 144 := ⟨by kernel_rfl⟩
instance : ZeroC Tryz.prog 29 [.int .i64 0, .int .i64 0, .int .i64 0, .int .i64 0, .bool false, .int .i64 0, .int .i64 0, .int .i64 0, .slice none 0 0, .slice none 0 0, .slice none 0 0, .int .i64 0] := ⟨zeroC_of (z := .agg #[.int .i64 0, .int .i64 0, .int .i64 0, .int .i64 0, .bool false, .int .i64 0, .int .i64 0, .int .i64 0, .slice none 0 0, .slice none 0 0, .slice none 0 0, .int .i64 0]) (by kernel_rfl) rfl⟩
instance : Parts Tryz.prog 29 [(0, 7), (7, 2), (9, 1), (10, 1), (11, 1)] := ⟨.inl ⟨_, Tryz.underlying29, by kernel_rfl, by kernel_rfl⟩⟩
instance : Aggr Tryz.prog 29 12 := ⟨⟨_, Tryz.underlying29, rfl⟩, by kernel_rfl⟩
instance : Fld Tryz.prog 29 0 0 := ⟨fld_of (by kernel_rfl)⟩
instance : Fld Tryz.prog 29 1 7 := ⟨fld_of (by kernel_rfl)⟩
instance : Fld Tryz.prog 29 2 9 := ⟨fld_of (by kernel_rfl)⟩
instance : Fld Tryz.prog 29 3 10 := ⟨fld_of (by kernel_rfl)⟩
instance : Fld Tryz.prog 29 4 11 := ⟨fld_of (by kernel_rfl)⟩
instance : Sz Tryz.prog 30 (.agg #[.int .i64 0, .int .i64 0, .int .i64 0, .int .i64 0, .bool false, .int .i64 0, .int .i64 0, .int .i64 0, .slice none 0 0, .slice none 0 0, .slice none 0 0, .int .i64 0]) 12 144 := ⟨by kernel_rfl⟩
instance : ZeroC Tryz.prog 30 [.int .i64 0, .int .i64 0, .int .i64 0, .int .i64 0, .bool false, .int .i64 0, .int .i64 0, .int .i64 0, .slice none 0 0, .slice none 0 0, .slice none 0 0, .int .i64 0] := ⟨zeroC_of (z := .agg #[.int .i64 0, .int .i64 0, .int .i64 0, .int .i64 0, .bool false, .int .i64 0, .int .i64 0, .int .i64 0, .slice none 0 0, .slice none 0 0, .slice none 0 0, .int .i64 0]) (by kernel_rfl) rfl⟩
instance : Parts Tryz.prog 30 [(0, 7), (7, 2), (9, 1), (10, 1), (11, 1)] := ⟨.inl ⟨_, Tryz.underlying30, by kernel_rfl, by kernel_rfl⟩⟩
instance : Aggr Tryz.prog 30 12 := ⟨⟨_, Tryz.underlying30, rfl⟩, by kernel_rfl⟩
instance : Fld Tryz.prog 30 0 0 := ⟨fld_of (by kernel_rfl)⟩
instance : Fld Tryz.prog 30 1 7 := ⟨fld_of (by kernel_rfl)⟩
instance : Fld Tryz.prog 30 2 9 := ⟨fld_of (by kernel_rfl)⟩
instance : Fld Tryz.prog 30 3 10 := ⟨fld_of (by kernel_rfl)⟩
instance : Fld Tryz.prog 30 4 11 := ⟨fld_of (by kernel_rfl)⟩
instance : Sz Tryz.prog 31 (.agg #[.int .i64 0, .int .i64 0, .int .i64 0]) 3 24 := ⟨by kernel_rfl⟩
instance : ZeroC Tryz.prog 31 [.int .i64 0, .int .i64 0, .int .i64 0] := ⟨zeroC_of (z := .agg #[.int .i64 0, .int .i64 0, .int .i64 0]) (by kernel_rfl) rfl⟩
instance : Parts Tryz.prog 31 [(0, 1), (1, 1), (2, 1)] := ⟨.inl ⟨_, Tryz.underlying31, by kernel_rfl, by kernel_rfl⟩⟩
instance : Aggr Tryz.prog 31 3 := ⟨⟨_, Tryz.underlying31, rfl⟩, by kernel_rfl⟩
instance : Fld Tryz.prog 31 0 0 := ⟨fld_of (by kernel_rfl)⟩
instance : Fld Tryz.prog 31 1 1 := ⟨fld_of (by kernel_rfl)⟩
instance : Fld Tryz.prog 31 2 2 := ⟨fld_of (by kernel_rfl)⟩
instance : Sz Tryz.prog 32 (.agg #[.int .i64 0, .int .i64 0, .int .i64 0]) 3 24 := ⟨by kernel_rfl⟩
instance : ZeroC Tryz.prog 32 [.int .i64 0, .int .i64 0, .int .i64 0] := ⟨zeroC_of (z := .agg #[.int .i64 0, .int .i64 0, .int .i64 0]) (by kernel_rfl) rfl⟩
instance : Parts Tryz.prog 32 [(0, 1), (1, 1), (2, 1)] := ⟨.inl ⟨_, Tryz.underlying32, by kernel_rfl, by kernel_rfl⟩⟩
instance : Aggr Tryz.prog 32 3 := ⟨⟨_, Tryz.underlying32, rfl⟩, by kernel_rfl⟩
instance : Fld Tryz.prog 32 0 0 := ⟨fld_of (by kernel_rfl)⟩
instance : Fld Tryz.prog 32 1 1 := ⟨fld_of (by kernel_rfl)⟩
instance : Fld Tryz.prog 32 2 2 := ⟨fld_of (by kernel_rfl)⟩
instance : Sz Tryz.prog 33 (.agg #[.int .i64 0, .int .i64 0, .int .i64 0, .int .i64 0, .int .i64 0, .int .i64 0, .int .i64 0, .int .i64 0, .int .i64 0, .int .i64 0, .int .i64 0, .int .i64 0]) 12 96 := ⟨by kernel_rfl⟩
instance : ZeroC Tryz.prog 33 [.int .i64 0, .int .i64 0, .int .i64 0, .int .i64 0, .int .i64 0, .int .i64 0, .int .i64 0, .int .i64 0, .int .i64 0, .int .i64 0, .int .i64 0, .int .i64 0] := ⟨zeroC_of (z := .agg #[.int .i64 0, .int .i64 0, .int .i64 0, .int .i64 0, .int .i64 0, .int .i64 0, .int .i64 0, .int .i64 0, .int .i64 0, .int .i64 0, .int .i64 0, .int .i64 0]) (by kernel_rfl) rfl⟩
instance : Parts Tryz.prog 33 [(0, 3), (3, 3), (6, 3), (9, 3)] := ⟨.inr ⟨_, _, Tryz.underlying33, by kernel_rfl, by kernel_rfl⟩⟩
instance : Aggr Tryz.prog 33 12 := ⟨⟨_, Tryz.underlying33, rfl⟩, by kernel_rfl⟩
instance : ArrT Tryz.prog 33 4 32 := ⟨Tryz.underlying33⟩
instance : Sz Tryz.prog 34 (.agg #[.int .i64 0, .int .i64 0, .int .i64 0, .int .i64 0, .int .i64 0, .int .i64 0, .int .i64 0, .int .i64 0, .int .i64 0, .int .i64 0, .int .i64 0, .int .i64 0]) 12 96 := ⟨by kernel_rfl⟩
instance : ZeroC Tryz.prog 34 [.int .i64 0, .int .i64 0, .int .i64 0, .int .i64 0, .int .i64 0, .int .i64 0, .int .i64 0, .int .i64 0, .int .i64 0, .int .i64 0, .int .i64 0, .int .i64 0] := ⟨zeroC_of (z := .agg #[.int .i64 0, .int .i64 0, .int .i64 0, .int .i64 0, .int .i64 0, .int .i64 0, .int .i64 0, .int .i64 0, .int .i64 0, .int .i64 0, .int .i64 0, .int .i64 0]) (by kernel_rfl) rfl⟩
instance : Parts Tryz.prog 34 [(0, 12)] := ⟨.inl ⟨_, Tryz.underlying34, by kernel_rfl, by kernel_rfl⟩⟩
instance : Aggr Tryz.prog 34 12 := ⟨⟨_, Tryz.underlying34, rfl⟩, by kernel_rfl⟩
instance : Fld Tryz.prog 34 0 0 := ⟨fld_of (by kernel_rfl)⟩
instance : Sz Tryz.prog 35 (.agg #[.int .i64 0, .int .i64 0, .int .i64 0, .int .i64 0, .int .i64 0, .int .i64 0, .int .i64 0, .int .i64 0, .int .i64 0, .int .i64 0, .int .i64 0, .int .i64 0]) 12 96 := ⟨by kernel_rfl⟩
instance : ZeroC Tryz.prog 35 [.int .i64 0, .int .i64 0, .int .i64 0, .int .i64 0, .int .i64 0, .int .i64 0, .int .i64 0, .int .i64 0, .int .i64 0, .int .i64 0, .int .i64 0, .int .i64 0] := ⟨zeroC_of (z := .agg #[.int .i64 0, .int .i64 0, .int .i64 0, .int .i64 0, .int .i64 0, .int .i64 0, .int .i64 0, .int .i64 0, .int .i64 0, .int .i64 0, .int .i64 0, .int .i64 0]) (by kernel_rfl) rfl⟩
instance : Parts Tryz.prog 35 [(0, 12)] := ⟨.inl ⟨_, Tryz.underlying35, by kernel_rfl, by kernel_rfl⟩⟩
instance : Aggr Tryz.prog 35 12 := ⟨⟨_, Tryz.underlying35, rfl⟩, by kernel_rfl⟩
instance : Fld Tryz.prog 35 0 0 := ⟨fld_of (by kernel_rfl)⟩
instance : Sz Tryz.prog 36 (.agg #[.int .i64 0, .int .i64 0, .int .i64 0, .int .i64 0, .int .i64 0, .int .i64 0, .int .i64 0, .int .i64 0, .int .i64 0, .int .i64 0, .int .i64 0, .int .i64 0, .int .i64 0, .int .i64 0, .int .i64 0, .int .i64 0, .int .i64 0, .int .i64 0, .int .i64 0, .int .i64 0, .int .i64 0, .int .i64 0, .int .i64 0, .int .i64 0, .int .i64 0, .int .i64 0]) 26 208 := ⟨by kernel_rfl⟩
instance : ZeroC Tryz.prog 36 [.int .i64 0, .int .i64 0, .int .i64 0, .int .i64 0, .int .i64 0, .int .i64 0, .int .i64 0, .int .i64 0, .int .i64 0, .int .i64 0, .int .i64 0, .int .i64 0, .int .i64 0, .int .i64 0, .int .i64 0, .int .i64 0, .int .i64 0, .int .i64 0, .int .i64 0, .int .i64 0, .int .i64 0, .int .i64 0, .int .i64 0, .int .i64 0, .int .i64 0, .int .i64 0] := ⟨zeroC_of (z := .agg #[.int .i64 0, .int .i64 0, .int .i64 0, .int .i64 0, .int .i64 0, .int .i64 0, .int .i64 0, .int .i64 0, .int .i64 0, .int .i64 0, .int .i64 0, .int .i64 0, .int .i64 0, .int .i64 0, .int .i64 0, .int .i64 0, .int .i64 0, .int .i64 0, .int .i64 0, .int .i64 0, .int .i64 0, .int .i64 0, .int .i64 0, .int .i64 0, .int .i64 0, .int .i64 0]) (by kernel_rfl) rfl⟩
instance : Parts Tryz.prog 36 [(0, 12), (12, 12), (24, 1), (25, 1)] := ⟨.inl ⟨_, Tryz.underlying36, by kernel_rfl, by kernel_rfl⟩⟩
instance : Aggr Tryz.prog 36 26 := ⟨⟨_, Tryz.underlying36, rfl⟩, by kernel_rfl⟩
instance : Fld Tryz.prog 36 0 0 := ⟨fld_of (by kernel_rfl)⟩
instance : Fld Tryz.prog 36 1 12 := ⟨fld_of (by kernel_rfl)⟩
instance : Fld Tryz.prog 36 2 24 := ⟨fld_of (by kernel_rfl)⟩
instance : Fld Tryz.prog 36 3 25 := ⟨fld_of (by kernel_rfl)⟩
instance : Sz Tryz.prog 37 (.agg #[.int .i64 0, .int .i64 0, .int .i64 0, .int .i64 0, .int .i64 0, .int .i64 0, .int .i64 0, .int .i64 0, .int .i64 0, .int .i64 0, .int .i64 0, .int .i64 0, .int .i64 0, .int .i64 0, .int .i64 0, .int .i64 0, .int .i64 0, .int .i64 0, .int .i64 0, .int .i64 0, .int .i64 0, .int .i64 0, .int .i64 0, .int .i64 0, .int .i64 0, .int .i64 0]) 26 208 := ⟨by kernel_rfl⟩
instance : ZeroC Tryz.prog 37 [.int .i64 0, .int .i64 0, .int .i64 0, .int .i64 0, .int .i64 0, .int .i64 0, .int .i64 0, .int .i64 0, .int .i64 0, .int .i64 0, .int .i64 0, .int .i64 0, .int .i64 0, .int .i64 0, .int .i64 0, .int .i64 0, .int .i64 0, .int .i64 0, .int .i64 0, .int .i64 0, .int .i64 0, .int .i64 0, .int .i64 0, .int .i64 0, .int .i64 0, .int .i64 0] := ⟨zeroC_of (z := .agg #[.int .i64 0, .int .i64 0, .int .i64 0, .int .i64 0, .int .i64 0, .int .i64 0, .int .i64 0, .int .i64 0, .int .i64 0, .int .i64 0, .int .i64 0, .int .i64 0, .int .i64 0, .int .i64 0, .int .i64 0, .int .i64 0, .int .i64 0, .int .i64 0, .int .i64 0, .int .i64 0, .int .i64 0, .int .i64 0, .int .i64 0, .int .i64 0, .int .i64 0, .int .i64 0]) (by kernel_rfl) rfl⟩
instance : Parts Tryz.prog 37 [(0, 12), (12, 12), (24, 1), (25, 1)] := ⟨.inl ⟨_, Tryz.underlying37, by kernel_rfl, by kernel_rfl⟩⟩
instance : Aggr Tryz.prog 37 26 := ⟨⟨_, Tryz.underlying37, rfl⟩, by kernel_rfl⟩
instance : Fld Tryz.prog 37 0 0 := ⟨fld_of (by kernel_rfl)⟩
instance : Fld Tryz.prog 37 1 12 := ⟨fld_of (by kernel_rfl)⟩
instance : Fld Tryz.prog 37 2 24 := ⟨fld_of (by kernel_rfl)⟩
instance : Fld Tryz.prog 37 3 25 := ⟨fld_of (by kernel_rfl)⟩
instance : Sz Tryz.prog 39 (.agg #[.int .i64 0, .int .i64 0, .int .i64 0, .int .i64 0, .bool false, .int .i64 0, .int .i64 0]) 7 56 := ⟨by kernel_rfl⟩
instance : ZeroC Tryz.prog 39 [.int .i64 0, .int .i64 0, .int .i64 0, .int .i64 0, .bool false, .int .i64 0, .int .i64 0] := ⟨zeroC_of (z := .agg #[.int .i64 0, .int .i64 0, .int .i64 0, .int .i64 0, .bool false, .int .i64 0, .int .i64 0]) (by kernel_rfl) rfl⟩
instance : Parts Tryz.prog 39 [(0, 1), (1, 1), (2, 1), (3, 1), (4, 1), (5, 1), (6, 1)] := ⟨.inl ⟨_, Tryz.underlying39, by kernel_rfl, by kernel_rfl⟩⟩
instance : Aggr Tryz.prog 39 7 := ⟨⟨_, Tryz.underlying39, rfl⟩, by kernel_rfl⟩
instance : Fld Tryz.prog 39 0 0 := ⟨fld_of (by kernel_rfl)⟩
instance : Fld Tryz.prog 39 1 1 := ⟨fld_of (by kernel_rfl)⟩
instance : Fld Tryz.prog 39 2 2 := ⟨fld_of (by kernel_rfl)⟩
instance : Fld Tryz.prog 39 3 3 := ⟨fld_of (by kernel_rfl)⟩
instance : Fld Tryz.prog 39 4 4 := ⟨fld_of (by kernel_rfl)⟩
instance : Fld Tryz.prog 39 5 5 := ⟨fld_of (by kernel_rfl)⟩
instance : Fld Tryz.prog 39 6 6 := ⟨fld_of (by kernel_rfl)⟩
instance : Sz Tryz.prog 40 (.agg #[.int .i64 0, .slice none 0 0]) 2 32 := ⟨by kernel_rfl⟩
instance : ZeroC Tryz.prog 40 [.int .i64 0, .slice none 0 0] := ⟨zeroC_of (z := .agg #[.int .i64 0, .slice none 0 0]) (by kernel_rfl) rfl⟩
instance : Parts Tryz.prog 40 [(0, 1), (1, 1)] := ⟨.inl ⟨_, Tryz.underlying40, by kernel_rfl, by kernel_rfl⟩⟩
instance : Aggr Tryz.prog 40 2 := ⟨⟨_, Tryz.underlying40, rfl⟩, by kernel_rfl⟩
instance : Fld Tryz.prog 40 0 0 := ⟨fld_of (by kernel_rfl)⟩
instance : Fld Tryz.prog 40 1 1 := ⟨fld_of (by kernel_rfl)⟩
instance : Sz Tryz.prog 41 (.slice none 0 0) 1 24 := ⟨by kernel_rfl⟩
instance : ZeroC Tryz.prog 41 [.slice none 0 0] := ⟨zeroC_of (z := .slice none 0 0) (by kernel_rfl) rfl⟩
instance : Scalar Tryz.prog 41 := ⟨_, Tryz.underlying41, rfl⟩
instance : SliceT Tryz.prog 41 102 := ⟨Tryz.underlying41⟩
instance : Sz Tryz.prog 42 (.slice none 0 0) 1 24 := ⟨by kernel_rfl⟩
instance : ZeroC Tryz.prog 42 [.slice none 0 0] := ⟨zeroC_of (z := .slice none 0 0) (by kernel_rfl) rfl⟩
instance : Scalar Tryz.prog 42 := ⟨_, Tryz.underlying42, rfl⟩
instance : SliceT Tryz.prog 42 53 := ⟨Tryz.underlying42⟩
instance : Sz Tryz.prog 43 (.agg #[.int .i64 0, .int .i64 0, .int .i64 0, .int .i64 0, .bool false, .int .i64 0, .int .i64 0, .int .i64 0, .slice none 0 0, .slice none 0 0, .slice none 0 0, .int .i64 0]) 12 144 := ⟨by kernel_rfl⟩
instance : ZeroC Tryz.prog 43 [.int .i64 0, .int .i64 0, .int .i64 0, .int .i64 0, .bool false, .int .i64 0, .int .i64 0, .int .i64 0, .slice none 0 0, .slice none 0 0, .slice none 0 0, .int .i64 0] := ⟨zeroC_of (z := .agg #[.int .i64 0, .int .i64 0, .int .i64 0, .int .i64 0, .bool false, .int .i64 0, .int .i64 0, .int .i64 0, .slice none 0 0, .slice none 0 0, .slice none 0 0, .int .i64 0]) (by kernel_rfl) rfl⟩
instance : Parts Tryz.prog 43 [(0, 7), (7, 2), (9, 1), (10, 1), (11, 1)] := ⟨.inl ⟨_, Tryz.underlying43, by kernel_rfl, by kernel_rfl⟩⟩
instance : Aggr Tryz.prog 43 12 := ⟨⟨_, Tryz.underlying43, rfl⟩, by kernel_rfl⟩
instance : Fld Tryz.prog 43 0 0 := ⟨fld_of (by kernel_rfl)⟩
instance : Fld Tryz.prog 43 1 7 := ⟨fld_of (by kernel_rfl)⟩
instance : Fld Tryz.prog 43 2 9 := ⟨fld_of (by kernel_rfl)⟩
instance : Fld Tryz.prog 43 3 10 := ⟨fld_of (by kernel_rfl)⟩
instance : Fld Tryz.prog 43 4 11 := ⟨fld_of (by kernel_rfl)⟩
instance : Sz Tryz.prog 44 (.agg #[.int .i64 0, .int .i64 0, .int .i64 0, .int .i64 0, .bool false, .int .i64 0, .int .i64 0, .int .i64 0, .slice none 0 0, .slice none 0 0, .slice none 0 0, .int .i64 0]) 12 144 := ⟨by kernel_rfl⟩
instance : ZeroC Tryz.prog 44 [.int .i64 0, .int .i64 0, .int .i64 0, .int .i64 0, .bool false, .int .i64 0, .int .i64 0, .int .i64 0, .slice none 0 0, .slice none 0 0, .slice none 0 0, .int .i64 0] := ⟨zeroC_of (z := .agg #[.int .i64 0, .int .i64 0, .int .i64 0, .int .i64 0, .bool false, .int .i64 0, .int .i64 0, .int .i64 0, .slice none 0 0, .slice none 0 0, .slice none 0 0, .int .i64 0]) (by kernel_rfl) rfl⟩
instance : Parts Tryz.prog 44 [(0, 7), (7, 2), (9, 1), (10, 1), (11, 1)] := ⟨.inl ⟨_, Tryz.underlying44, by kernel_rfl, by kernel_rfl⟩⟩
instance : Aggr Tryz.prog 44 12 := ⟨⟨_, Tryz.underlying44, rfl⟩, by kernel_rfl⟩
instance : Fld Tryz.prog 44 0 0 := ⟨fld_of (by kernel_rfl)⟩
instance : Fld Tryz.prog 44 1 7 := ⟨fld_of (by kernel_rfl)⟩
instance : Fld Tryz.prog 44 2 9 := ⟨fld_of (by kernel_rfl)⟩
instance : Fld Tryz.prog 44 3 10 := ⟨fld_of (by kernel_rfl)⟩
instance : Fld Tryz.prog 44 4 11 := ⟨fld_of (by kernel_rfl)⟩
instance : Sz Tryz.prog 48 (.agg #[.int .i64 0, .int .i64 0, .int .i64 0]) 3 24 := ⟨by kernel_rfl⟩
instance : ZeroC Tryz.prog 48 [.int .i64 0, .int .i64 0, .int .i64 0] := ⟨zeroC_of (z := .agg #[.int .i64 0, .int .i64 0, .int .i64 0]) (by kernel_rfl) rfl⟩
instance : Parts Tryz.prog 48 [(0, 1), (1, 1), (2, 1)] := ⟨.inl ⟨_, Tryz.underlying48, by kernel_rfl, by kernel_rfl⟩⟩
instance : Aggr Tryz.prog 48 3 := ⟨⟨_, Tryz.underlying48, rfl⟩, by kernel_rfl⟩
instance : Fld Tryz.prog 48 0 0 := ⟨fld_of (by kernel_rfl)⟩
instance : Fld Tryz.prog 48 1 1 := ⟨fld_of (by kernel_rfl)⟩
instance : Fld Tryz.prog 48 2 2 := ⟨fld_of (by kernel_rfl)⟩
instance : Sz Tryz.prog 49 (.agg #[.int .i64 0, .int .i64 0, .int .i64 0, .int .i64 0, .int .i64 0, .int .i64 0, .int .i64 0, .int .i64 0, .int .i64 0, .int .i64 0, .int .i64 0, .int .i64 0]) 12 96 := ⟨by kernel_rfl⟩
instance : ZeroC Tryz.prog 49 [.int .i64 0, .int .i64 0, .int .i64 0, .int .i64 0, .int .i64 0, .int .i64 0, .int .i64 0, .int .i64 0, .int .i64 0, .int .i64 0, .int .i64 0, .int .i64 0] := ⟨zeroC_of (z := .agg #[.int .i64 0, .int .i64 0, .int .i64 0, .int .i64 0, .int .i64 0, .int .i64 0, .int .i64 0, .int .i64 0, .int .i64 0, .int .i64 0, .int .i64 0, .int .i64 0]) (by kernel_rfl) rfl⟩
instance : Parts Tryz.prog 49 [(0, 3), (3, 3), (6, 3), (9, 3)] := ⟨.inr ⟨_, _, Tryz.underlying49, by kernel_rfl, by kernel_rfl⟩⟩
instance : Aggr Tryz.prog 49 12 := ⟨⟨_, Tryz.underlying49, rfl⟩, by kernel_rfl⟩
instance : ArrT Tryz.prog 49 4 48 := ⟨Tryz.underlying49⟩
instance : Sz Tryz.prog 50 (.agg #[.int .i64 0, .int .i64 0, .int .i64 0, .int .i64 0, .int .i64 0, .int .i64 0, .int .i64 0, .int .i64 0, .int .i64 0, .int .i64 0, .int .i64 0, .int .i64 0]) 12 96 := ⟨by kernel_rfl⟩
instance : ZeroC Tryz.prog 50 [.int .i64 0, .int .i64 0, .int .i64 0, .int .i64 0, .int .i64 0, .int .i64 0, .int .i64 0, .int .i64 0, .int .i64 0, .int .i64 0, .int .i64 0, .int .i64 0] := ⟨zeroC_of (z := .agg #[.int .i64 0, .int .i64 0, .int .i64 0, .int .i64 0, .int .i64 0, .int .i64 0, .int .i64 0, .int .i64 0, .int .i64 0, .int .i64 0, .int .i64 0, .int .i64 0]) (by kernel_rfl) rfl⟩
instance : Parts Tryz.prog 50 [(0, 12)] := ⟨.inl ⟨_, Tryz.underlying50, by kernel_rfl, by kernel_rfl⟩⟩
instance : Aggr Tryz.prog 50 12 := ⟨⟨_, Tryz.underlying50, rfl⟩, by kernel_rfl⟩
instance : Fld Tryz.prog 50 0 0 := ⟨fld_of (by kernel_rfl)⟩
instance : Sz Tryz.prog 51 (.agg #[.int .i64 0, .int .i64 0, .int .i64 0, .int .i64 0, .int .i64 0, .int .i64 0, .int .i64 0, .int .i64 0, .int .i64 0, .int .i64 0, .int .i64 0, .int .i64 0]) 12 96 := ⟨by kernel_rfl⟩
instance : ZeroC Tryz.prog 51 [.int .i64 0, .int .i64 0, .int .i64 0, .int .i64 0, .int .i64 0, .int .i64 0, .int .i64 0, .int .i64 0, .int .i64 0, .int .i64 0, .int .i64 0, .int .i64 0] := ⟨zeroC_of (z := .agg #[.int .i64 0, .int .i64 0, .int .i64 0, .int .i64 0, .int .i64 0, .int .i64 0, .int .i64 0, .int .i64 0, .int .i64 0, .int .i64 0, .int .i64 0, .int .i64 0]) (by kernel_rfl) rfl⟩
instance : Parts Tryz.prog 51 [(0, 12)] := ⟨.inl ⟨_, Tryz.underlying51, by kernel_rfl, by kernel_rfl⟩⟩
instance : Aggr Tryz.prog 51 12 := ⟨⟨_, Tryz.underlying51, rfl⟩, by kernel_rfl⟩
instance : Fld Tryz.prog 51 0 0 := ⟨fld_of (by kernel_rfl)⟩
instance : Sz Tryz.prog 52 (.agg #[.int .i64 0, .int .i64 0, .int .i64 0, .int .i64 0, .int .i64 0, .int .i64 0, .int .i64 0, .int .i64 0, .int .i64 0, .int .i64 0, .int .i64 0, .int .i64 0, .int .i64 0, .int .i64 0, .int .i64 0, .int .i64 0, .int .i64 0, .int .i64 0, .int .i64 0, .int .i64 0, .int .i64 0, .int .i64 0, .int .i64 0, .int .i64 0, .int .i64 0, .int .i64 0]) 26 208 := ⟨by kernel_rfl⟩
instance : ZeroC Tryz.prog 52 [.int .i64 0, .int .i64 0, .int .i64 0, .int .i64 0, .int .i64 0, .int .i64 0, .int .i64 0, .int .i64 0, .int .i64 0, .int .i64 0, .int .i64 0, .int .i64 0, .int .i64 0, .int .i64 0, .int .i64 0, .int .i64 0, .int .i64 0, .int .i64 0, .int .i64 0, .int .i64 0, .int .i64 0, .int .i64 0, .int .i64 0, .int .i64 0, .int .i64 0, .int .i64 0] := ⟨zeroC_of (z := .agg #[.int .i64 0, .int .i64 0, .int .i64 0, .int .i64 0, .int .i64 0, .int .i64 0, .int .i64 0, .int .i64 0, .int .i64 0, .int .i64 0, .int .i64 0, .int .i64 0, .int .i64 0, .int .i64 0, .int .i64 0, .int .i64 0, .int .i64 0, .int .i64 0, .int .i64 0, .int .i64 0, .int .i64 0, .int .i64 0, .int .i64 0, .int .i64 0, .int .i64 0, .int .i64 0]) (by kernel_rfl) rfl⟩
instance : Parts Tryz.prog 52 [(0, 12), (12, 12), (24, 1), (25, 1)] := ⟨.inl ⟨_, Tryz.underlying52, by kernel_rfl, by kernel_rfl⟩⟩
instance : Aggr Tryz.prog 52 26 := ⟨⟨_, Tryz.underlying52, rfl⟩, by kernel_rfl⟩
instance : Fld Tryz.prog 52 0 0 := ⟨fld_of (by kernel_rfl)⟩
instance : Fld Tryz.prog 52 1 12 := ⟨fld_of (by kernel_rfl)⟩
instance : Fld Tryz.prog 52 2 24 := ⟨fld_of (by kernel_rfl)⟩
instance : Fld Tryz.prog 52 3 25 := ⟨fld_of (by kernel_rfl)⟩
instance : Sz Tryz.prog 53 (.agg #[.int .i64 0, .int .i64 0, .int .i64 0, .int .i64 0, .int .i64 0, .int .i64 0, .int .i64 0, .int .i64 0, .int .i64 0, .int .i64 0, .int .i64 0, .int .i64 0, .int .i64 0, .int .i64 0, .int .i64 0, .int .i64 0, .int .i64 0, .int .i64 0, .int .i64 0, .int .i64 0, .int .i64 0, .int .i64 0, .int .i64 0, .int .i64 0, .int .i64 0, .int .i64 0]) 26 208 := ⟨by kernel_rfl⟩
instance : ZeroC Tryz.prog 53 [.int .i64 0, .int .i64 0, .int .i64 0, .int .i64 0, .int .i64 0, .int .i64 0, .int .i64 0, .int .i64 0, .int .i64 0, .int .i64 0, .int .i64 0, .int .i64 0, .int .i64 0, .int .i64 0, .int .i64 0, .int .i64 0, .int .i64 0, .int .i64 0, .int .i64 0, .int .i64 0, .int .i64 0, .int .i64 0, .int .i64 0, .int .i64 0, .int .i64 0, .int .i64 0] := ⟨zeroC_of (z := .agg #[.int .i64 0, .int .i64 0, .int .i64 0, .int .i64 0, .int .i64 0, .int .i64 0, .int .i64 0, .int .i64 0, .int .i64 0, .int .i64 0, .int .i64 0, .int .i64 0, .int .i64 0, .int .i64 0, .int .i64 0, .int .i64 0, .int .i64 0, .int .i64 0, .int .i64 0, .int .i64 0, .int .i64 0, .int .i64 0, .int .i64 0, .int .i64 0, .int .i64 0, .int .i64 0]) (by kernel_rfl) rfl⟩
instance : Parts Tryz.prog 53 [(0, 12), (12, 12), (24, 1), (25, 1)] := ⟨.inl ⟨_, Tryz.underlying53, by kernel_rfl, by kernel_rfl⟩⟩
instance : Aggr Tryz.prog 53 26 := ⟨⟨_, Tryz.underlying53, rfl⟩, by kernel_rfl⟩
instance : Fld Tryz.prog 53 0 0 := ⟨fld_of (by kernel_rfl)⟩
instance : Fld Tryz.prog 53 1 12 := ⟨fld_of (by kernel_rfl)⟩
instance : Fld Tryz.prog 53 2 24 := ⟨fld_of (by kernel_rfl)⟩
instance : Fld Tryz.prog 53 3 25 := ⟨fld_of (by kernel_rfl)⟩
instance : Sz Tryz.prog 58 (.agg #[.int .i64 0, .int .i64 0, .int .i64 0, .int .i64 0]) 4 32 := ⟨by kernel_rfl⟩
instance : ZeroC Tryz.prog 58 [.int .i64 0, .int .i64 0, .int .i64 0, .int .i64 0] := ⟨zeroC_of (z := .agg #[.int .i64 0, .int .i64 0, .int .i64 0, .int .i64 0]) (by kernel_rfl) rfl⟩
instance : Parts Tryz.prog 58 [(0, 1), (1, 1), (2, 1), (3, 1)] := ⟨.inl ⟨_, Tryz.underlying58, by kernel_rfl, by kernel_rfl⟩⟩
instance : Aggr Tryz.prog 58 4 := ⟨⟨_, Tryz.underlying58, rfl⟩, by kernel_rfl⟩
instance : Fld Tryz.prog 58 0 0 := ⟨fld_of (by kernel_rfl)⟩
instance : Fld Tryz.prog 58 1 1 := ⟨fld_of (by kernel_rfl)⟩
instance : Fld Tryz.prog 58 2 2 := ⟨fld_of (by kernel_rfl)⟩
instance : Fld Tryz.prog 58 3 3 := ⟨fld_of (by kernel_rfl)⟩
instance : Sz Tryz.prog 59 (.agg #[.int .i64 0, .int .i64 0, .int .i64 0, .int .i64 0]) 4 32 := ⟨by kernel_rfl⟩
instance : ZeroC Tryz.prog 59 [.int .i64 0, .int .i64 0, .int .i64 0, .int .i64 0] := ⟨zeroC_of (z := .agg #[.int .i64 0, .int .i64 0, .int .i64 0, .int .i64 0]) (by kernel_rfl) rfl⟩
instance : Parts Tryz.prog 59 [(0, 1), (1, 1), (2, 1), (3, 1)] := ⟨.inl ⟨_, Tryz.underlying59, by kernel_rfl, by kernel_rfl⟩⟩
instance : Aggr Tryz.prog 59 4 := ⟨⟨_, Tryz.underlying59, rfl⟩, by kernel_rfl⟩
instance : Fld Tryz.prog 59 0 0 := ⟨fld_of (by kernel_rfl)⟩
instance : Fld Tryz.prog 59 1 1 := ⟨fld_of (by kernel_rfl)⟩
instance : Fld Tryz.prog 59 2 2 := ⟨fld_of (by kernel_rfl)⟩
instance : Fld Tryz.prog 59 3 3 := ⟨fld_of (by kernel_rfl)⟩
instance : Sz Tryz.prog 61 (.agg #[.int .i64 0, .int .i64 0, .int .i64 0, .int .i64 0]) 4 32 := ⟨by kernel_rfl⟩
instance : ZeroC Tryz.prog 61 [.int .i64 0, .int .i64 0, .int .i64 0, .int .i64 0] := ⟨zeroC_of (z := .agg #[.int .i64 0, .int .i64 0, .int .i64 0, .int .i64 0]) (by kernel_rfl) rfl⟩
instance : Parts Tryz.prog 61 [(0, 1), (1, 1), (2, 1), (3, 1)] := ⟨.inl ⟨_, Tryz.underlying61, by kernel_rfl, by kernel_rfl⟩⟩
instance : Aggr Tryz.prog 61 4 := ⟨⟨_, Tryz.underlying61, rfl⟩, by kernel_rfl⟩
instance : Fld Tryz.prog 61 0 0 := ⟨fld_of (by kernel_rfl)⟩
instance : Fld Tryz.prog 61 1 1 := ⟨fld_of (by kernel_rfl)⟩
instance : Fld Tryz.prog 61 2 2 := ⟨fld_of (by kernel_rfl)⟩
instance : Fld Tryz.prog 61 3 3 := ⟨fld_of (by kernel_rfl)⟩
instance : Sz Tryz.prog 76 (.pointer none) 1 8 := ⟨by kernel_rfl⟩
instance : ZeroC Tryz.prog 76 [.pointer none] := ⟨zeroC_of (z := .pointer none) (by kernel_rfl) rfl⟩
instance : Scalar Tryz.prog 76 := ⟨_, Tryz.underlying76, rfl⟩
instance : Sz Tryz.prog 86 (.agg #[.int .i64 0, .int .i64 0, .int .i64 0, .int .i64 0, .int .i64 0, .int .i64 0]) 6 48 := ⟨by kernel_rfl⟩
instance : ZeroC Tryz.prog 86 [.int .i64 0, .int .i64 0, .int .i64 0, .int .i64 0, .int .i64 0, .int .i64 0] := ⟨zeroC_of (z := .agg #[.int .i64 0, .int .i64 0, .int .i64 0, .int .i64 0, .int .i64 0, .int .i64 0]) (by kernel_rfl) rfl⟩
instance : Parts Tryz.prog 86 [(0, 3), (3, 3)] := ⟨.inl ⟨_, Tryz.underlying86, by kernel_rfl, by kernel_rfl⟩⟩
instance : Aggr Tryz.prog 86 6 := ⟨⟨_, Tryz.underlying86, rfl⟩, by kernel_rfl⟩
instance : Fld Tryz.prog 86 0 0 := ⟨fld_of (by kernel_rfl)⟩
instance : Fld Tryz.prog 86 1 3 := ⟨fld_of (by kernel_rfl)⟩
instance : Sz Tryz.prog 87 (.agg #[.int .i64 0, .int .i64 0, .int .i64 0, .int .i64 0, .int .i64 0, .int .i64 0]) 6 48 := ⟨by kernel_rfl⟩
instance : ZeroC Tryz.prog 87 [.int .i64 0, .int .i64 0, .int .i64 0, .int .i64 0, .int .i64 0, .int .i64 0] := ⟨zeroC_of (z := .agg #[.int .i64 0, .int .i64 0, .int .i64 0, .int .i64 0, .int .i64 0, .int .i64 0]) (by kernel_rfl) rfl⟩
instance : Parts Tryz.prog 87 [(0, 3), (3, 3)] := ⟨.inl ⟨_, Tryz.underlying87, by kernel_rfl, by kernel_rfl⟩⟩
instance : Aggr Tryz.prog 87 6 := ⟨⟨_, Tryz.underlying87, rfl⟩, by kernel_rfl⟩
instance : Fld Tryz.prog 87 0 0 := ⟨fld_of (by kernel_rfl)⟩
instance : Fld Tryz.prog 87 1 3 := ⟨fld_of (by kernel_rfl)⟩
instance : Sz Tryz.prog 95 (.slice none 0 0) 1 24 := ⟨by kernel_rfl⟩
instance : ZeroC Tryz.prog 95 [.slice none 0 0] := ⟨zeroC_of (z := .slice none 0 0) (by kernel_rfl) rfl⟩
instance : Scalar Tryz.prog 95 := ⟨_, Tryz.underlying95, rfl⟩
instance : SliceT Tryz.prog 95 156 := ⟨Tryz.underlying95⟩
instance : Sz Tryz.prog 96 (.slice none 0 0) 1 24 := ⟨by kernel_rfl⟩
instance : ZeroC Tryz.prog 96 [.slice none 0 0] := ⟨zeroC_of (z := .slice none 0 0) (by kernel_rfl) rfl⟩
instance : Scalar Tryz.prog 96 := ⟨_, Tryz.underlying96, rfl⟩
instance : SliceT Tryz.prog 96 158 := ⟨Tryz.underlying96⟩
instance : Sz Tryz.prog 97 (.agg #[.slice none 0 0, .slice none 0 0]) 2 48 := ⟨by kernel_rfl⟩
instance : ZeroC Tryz.prog 97 [.slice none 0 0, .slice none 0 0] := ⟨zeroC_of (z := .agg #[.slice none 0 0, .slice none 0 0]) (by kernel_rfl) rfl⟩
instance : Parts Tryz.prog 97 [(0, 1), (1, 1)] := ⟨.inl ⟨_, Tryz.underlying97, by kernel_rfl, by kernel_rfl⟩⟩
instance : Aggr Tryz.prog 97 2 := ⟨⟨_, Tryz.underlying97, rfl⟩, by kernel_rfl⟩
instance : Fld Tryz.prog 97 0 0 := ⟨fld_of (by kernel_rfl)⟩
instance : Fld Tryz.prog 97 1 1 := ⟨fld_of (by kernel_rfl)⟩
instance : Sz Tryz.prog 98 (.agg #[.slice none 0 0, .slice none 0 0]) 2 48 := ⟨by kernel_rfl⟩
instance : ZeroC Tryz.prog 98 [.slice none 0 0, .slice none 0 0] := ⟨zeroC_of (z := .agg #[.slice none 0 0, .slice none 0 0]) (by kernel_rfl) rfl⟩
instance : Parts Tryz.prog 98 [(0, 1), (1, 1)] := ⟨.inl ⟨_, Tryz.underlying98, by kernel_rfl, by kernel_rfl⟩⟩
instance : Aggr Tryz.prog 98 2 := ⟨⟨_, Tryz.underlying98, rfl⟩, by kernel_rfl⟩
instance : Fld Tryz.prog 98 0 0 := ⟨fld_of (by kernel_rfl)⟩
instance : Fld Tryz.prog 98 1 1 := ⟨fld_of (by kernel_rfl)⟩
instance : Sz Tryz.prog 99 (.slice none 0 0) 1 24 := ⟨by kernel_rfl⟩
instance : ZeroC Tryz.prog 99 [.slice none 0 0] := ⟨zeroC_of (z := .slice none 0 0) (by kernel_rfl) rfl⟩
instance : Scalar Tryz.prog 99 := ⟨_, Tryz.underlying99, rfl⟩
instance : SliceT Tryz.prog 99 132 := ⟨Tryz.underlying99⟩
instance : Sz Tryz.prog 100 (.slice none 0 0) 1 24 := ⟨by kernel_rfl⟩
instance : ZeroC Tryz.prog 100 [.slice none 0 0] := ⟨zeroC_of (z := .slice none 0 0) (by kernel_rfl) rfl⟩
instance : Scalar Tryz.prog 100 := ⟨_, Tryz.underlying100, rfl⟩
instance : SliceT Tryz.prog 100 136 := ⟨Tryz.underlying100⟩
instance : Sz Tryz.prog 101 (.agg #[.slice none 0 0, .slice none 0 0]) 2 48 := ⟨by kernel_rfl⟩
instance : ZeroC Tryz.prog 101 [.slice none 0 0, .slice none 0 0] := ⟨zeroC_of (z := .agg #[.slice none 0 0, .slice none 0 0]) (by kernel_rfl) rfl⟩
instance : Parts Tryz.prog 101 [(0, 1), (1, 1)] := ⟨.inl ⟨_, Tryz.underlying101, by kernel_rfl, by kernel_rfl⟩⟩
instance : Aggr Tryz.prog 101 2 := ⟨⟨_, Tryz.underlying101, rfl⟩, by kernel_rfl⟩
instance : Fld Tryz.prog 101 0 0 := ⟨fld_of (by kernel_rfl)⟩
instance : Fld Tryz.prog 101 1 1 := ⟨fld_of (by kernel_rfl)⟩
instance : Sz Tryz.prog 102 (.agg #[.slice none 0 0, .slice none 0 0]) 2 48 := ⟨by kernel_rfl⟩
instance : ZeroC Tryz.prog 102 [.slice none 0 0, .slice none 0 0] := ⟨zeroC_of (z := .agg #[.slice none 0 0, .slice none 0 0]) (by kernel_rfl) rfl⟩
instance : Parts Tryz.prog 102 [(0, 1), (1, 1)] := ⟨.inl ⟨_, Tryz.underlying102, by kernel_rfl, by kernel_rfl⟩⟩
instance : Aggr Tryz.prog 102 2 := ⟨⟨_, Tryz.underlying102, rfl⟩, by kernel_rfl⟩
instance : Fld Tryz.prog 102 0 0 := ⟨fld_of (by kernel_rfl)⟩
instance : Fld Tryz.prog 102 1 1 := ⟨fld_of (by kernel_rfl)⟩
instance : Sz Tryz.prog 105 (.nilFunc) 1 8 := ⟨by kernel_rfl⟩
instance : ZeroC Tryz.prog 105 [.nilFunc] := ⟨zeroC_of (z := .nilFunc) (by kernel_rfl) rfl⟩
instance : Scalar Tryz.prog 105 := ⟨_, Tryz.underlying105, rfl⟩
instance : Sz Tryz.prog 108 (.nilFunc) 1 8 := ⟨by kernel_rfl⟩
instance : ZeroC Tryz.prog 108 [.nilFunc] := ⟨zeroC_of (z := .nilFunc) (by kernel_rfl) rfl⟩
instance : Scalar Tryz.prog 108 := ⟨_, Tryz.underlying108, rfl⟩
instance : Sz Tryz.prog 109 (.nilFunc) 1 8 := ⟨by kernel_rfl⟩
instance : ZeroC Tryz.prog 109 [.nilFunc] := ⟨zeroC_of (z := .nilFunc) (by kernel_rfl) rfl⟩
instance : Scalar Tryz.prog 109 := ⟨_, Tryz.underlying109, rfl⟩
instance : Sz Tryz.prog 110 (.nilFunc) 1 8 := ⟨by kernel_rfl⟩
instance : ZeroC Tryz.prog 110 [.nilFunc] := ⟨zeroC_of (z := .nilFunc) (by kernel_rfl) rfl⟩
instance : Scalar Tryz.prog 110 := ⟨_, Tryz.underlying110, rfl⟩
instance : Sz Tryz.prog 111 (.nilFunc) 1 8 := ⟨by kernel_rfl⟩
instance : ZeroC Tryz.prog 111 [.nilFunc] := ⟨zeroC_of (z := .nilFunc) (by kernel_rfl) rfl⟩
instance : Scalar Tryz.prog 111 := ⟨_, Tryz.underlying111, rfl⟩
instance : Sz Tryz.prog 112 (.nilFunc) 1 8 := ⟨by kernel_rfl⟩
instance : ZeroC Tryz.prog 112 [.nilFunc] := ⟨zeroC_of (z := .nilFunc) (by kernel_rfl) rfl⟩
instance : Scalar Tryz.prog 112 := ⟨_, Tryz.underlying112, rfl⟩
instance : Sz Tryz.prog 114 (.nilFunc) 1 8 := ⟨by kernel_rfl⟩
instance : ZeroC Tryz.prog 114 [.nilFunc] := ⟨zeroC_of (z := .nilFunc) (by kernel_rfl) rfl⟩
instance : Scalar Tryz.prog 114 := ⟨_, Tryz.underlying114, rfl⟩
instance : Sz Tryz.prog 115 (.nilFunc) 1 8 := ⟨by kernel_rfl⟩
instance : ZeroC Tryz.prog 115 [.nilFunc] := ⟨zeroC_of (z := .nilFunc) (by kernel_rfl) rfl⟩
instance : Scalar Tryz.prog 115 := ⟨_, Tryz.underlying115, rfl⟩
instance : Sz Tryz.prog 116 (.nilFunc) 1 8 := ⟨by kernel_rfl⟩
instance : ZeroC Tryz.prog 116 [.nilFunc] := ⟨zeroC_of (z := .nilFunc) (by kernel_rfl) rfl⟩
instance : Scalar Tryz.prog 116 := ⟨_, Tryz.underlying116, rfl⟩
instance : Sz Tryz.prog 117 (.nilFunc) 1 8 := ⟨by kernel_rfl⟩
instance : ZeroC Tryz.prog 117 [.nilFunc] := ⟨zeroC_of (z := .nilFunc) (by kernel_rfl) rfl⟩
instance : Scalar Tryz.prog 117 := ⟨_, Tryz.underlying117, rfl⟩
instance : Sz Tryz.prog 118 (.nilFunc) 1 8 := ⟨by kernel_rfl⟩
instance : ZeroC Tryz.prog 118 [.nilFunc] := ⟨zeroC_of (z := .nilFunc) (by kernel_rfl) rfl⟩
instance : Scalar Tryz.prog 118 := ⟨_, Tryz.underlying118, rfl⟩
instance : Sz Tryz.prog 120 (.nilFunc) 1 8 := ⟨by kernel_rfl⟩
instance : ZeroC Tryz.prog 120 [.nilFunc] := ⟨zeroC_of (z := .nilFunc) (by kernel_rfl) rfl⟩
instance : Scalar Tryz.prog 120 := ⟨_, Tryz.underlying120, rfl⟩
instance : Sz Tryz.prog 121 (.nilFunc) 1 8 := ⟨by kernel_rfl⟩
instance : ZeroC Tryz.prog 121 [.nilFunc] := ⟨zeroC_of (z := .nilFunc) (by kernel_rfl) rfl⟩
instance : Scalar Tryz.prog 121 := ⟨_, Tryz.underlying121, rfl⟩
instance : Sz Tryz.prog 122 (.nilFunc) 1 8 := ⟨by kernel_rfl⟩
instance : ZeroC Tryz.prog 122 [.nilFunc] := ⟨zeroC_of (z := .nilFunc) (by kernel_rfl) rfl⟩
instance : Scalar Tryz.prog 122 := ⟨_, Tryz.underlying122, rfl⟩
instance : Sz Tryz.prog 125 (.slice none 0 0) 1 24 := ⟨by kernel_rfl⟩
instance : ZeroC Tryz.prog 125 [.slice none 0 0] := ⟨zeroC_of (z := .slice none 0 0) (by kernel_rfl) rfl⟩
instance : Scalar Tryz.prog 125 := ⟨_, Tryz.underlying125, rfl⟩
instance : SliceT Tryz.prog 125 87 := ⟨Tryz.underlying125⟩
instance : Sz Tryz.prog 131 (.agg #[.int .i64 0, .string ⟨#[]⟩, .int .i64 0, .slice none 0 0]) 4 56 := ⟨by kernel_rfl⟩
instance : ZeroC Tryz.prog 131 [.int .i64 0, .string ⟨#[]⟩, .int .i64 0, .slice none 0 0] := ⟨zeroC_of (z := .agg #[.int .i64 0, .string ⟨#[]⟩, .int .i64 0, .slice none 0 0]) (by kernel_rfl) rfl⟩
instance : Parts Tryz.prog 131 [(0, 1), (1, 1), (2, 1), (3, 1)] := ⟨.inl ⟨_, Tryz.underlying131, by kernel_rfl, by kernel_rfl⟩⟩
instance : Aggr Tryz.prog 131 4 := ⟨⟨_, Tryz.underlying131, rfl⟩, by kernel_rfl⟩
instance : Fld Tryz.prog 131 0 0 := ⟨fld_of (by kernel_rfl)⟩
instance : Fld Tryz.prog 131 1 1 := ⟨fld_of (by kernel_rfl)⟩
instance : Fld Tryz.prog 131 2 2 := ⟨fld_of (by kernel_rfl)⟩
instance : Fld Tryz.prog 131 3 3 := ⟨fld_of (by kernel_rfl)⟩
instance : Sz Tryz.prog 132 (.agg #[.int .i64 0, .string ⟨#[]⟩, .int .i64 0, .slice none 0 0]) 4 56 := ⟨by kernel_rfl⟩
instance : ZeroC Tryz.prog 132 [.int .i64 0, .string ⟨#[]⟩, .int .i64 0, .slice none 0 0] := ⟨zeroC_of (z := .agg #[.int .i64 0, .string ⟨#[]⟩, .int .i64 0, .slice none 0 0]) (by kernel_rfl) rfl⟩
instance : Parts Tryz.prog 132 [(0, 1), (1, 1), (2, 1), (3, 1)] := ⟨.inl ⟨_, Tryz.underlying132, by kernel_rfl, by kernel_rfl⟩⟩
instance : Aggr Tryz.prog 132 4 := ⟨⟨_, Tryz.underlying132, rfl⟩, by kernel_rfl⟩
instance : Fld Tryz.prog 132 0 0 := ⟨fld_of (by kernel_rfl)⟩
instance : Fld Tryz.prog 132 1 1 := ⟨fld_of (by kernel_rfl)⟩
instance : Fld Tryz.prog 132 2 2 := ⟨fld_of (by kernel_rfl)⟩
instance : Fld Tryz.prog 132 3 3 := ⟨fld_of (by kernel_rfl)⟩
instance : Sz Tryz.prog 135 (.agg #[.string ⟨#[]⟩, .int .i64 0]) 2 24 := ⟨by kernel_rfl⟩
instance : ZeroC Tryz.prog 135 [.string ⟨#[]⟩, .int .i64 0] := ⟨zeroC_of (z := .agg #[.string ⟨#[]⟩, .int .i64 0]) (by kernel_rfl) rfl⟩
instance : Parts Tryz.prog 135 [(0, 1), (1, 1)] := ⟨.inl ⟨_, Tryz.underlying135, by kernel_rfl, by kernel_rfl⟩⟩
instance : Aggr Tryz.prog 135 2 := ⟨⟨_, Tryz.underlying135, rfl⟩, by kernel_rfl⟩
instance : Fld Tryz.prog 135 0 0 := ⟨fld_of (by kernel_rfl)⟩
instance : Fld Tryz.prog 135 1 1 := ⟨fld_of (by kernel_rfl)⟩
instance : Sz Tryz.prog 136 (.agg #[.string ⟨#[]⟩, .int .i64 0]) 2 24 := ⟨by kernel_rfl⟩
instance : ZeroC Tryz.prog 136 [.string ⟨#[]⟩, .int .i64 0] := ⟨zeroC_of (z := .agg #[.string ⟨#[]⟩, .int .i64 0]) (by kernel_rfl) rfl⟩
instance : Parts Tryz.prog 136 [(0, 1), (1, 1)] := ⟨.inl ⟨_, Tryz.underlying136, by kernel_rfl, by kernel_rfl⟩⟩
instance : Aggr Tryz.prog 136 2 := ⟨⟨_, Tryz.underlying136, rfl⟩, by kernel_rfl⟩
instance : Fld Tryz.prog 136 0 0 := ⟨fld_of (by kernel_rfl)⟩
instance : Fld Tryz.prog 136 1 1 := ⟨fld_of (by kernel_rfl)⟩
instance : Sz Tryz.prog 140 (.nilFunc) 1 8 := ⟨by kernel_rfl⟩
instance : ZeroC Tryz.prog 140 [.nilFunc] := ⟨zeroC_of (z := .nilFunc) (by kernel_rfl) rfl⟩
instance : Scalar Tryz.prog 140 := ⟨_, Tryz.underlying140, rfl⟩
instance : Sz Tryz.prog 148 (.nilFunc) 1 8 := ⟨by kernel_rfl⟩
instance : ZeroC Tryz.prog 148 [.nilFunc] := ⟨zeroC_of (z := .nilFunc) (by kernel_rfl) rfl⟩
instance : Scalar Tryz.prog 148 := ⟨_, Tryz.underlying148, rfl⟩
instance : Sz Tryz.prog 154 (.slice none 0 0) 1 24 := ⟨by kernel_rfl⟩
instance : ZeroC Tryz.prog 154 [.slice none 0 0] := ⟨zeroC_of (z := .slice none 0 0) (by kernel_rfl) rfl⟩
instance : Scalar Tryz.prog 154 := ⟨_, Tryz.underlying154, rfl⟩
instance : SliceT Tryz.prog 154 48 := ⟨Tryz.underlying154⟩
instance : Sz Tryz.prog 156 (.agg #[.int .i64 0, .string ⟨#[]⟩, .int .i64 0, .slice none 0 0]) 4 56 := ⟨by kernel_rfl⟩
instance : ZeroC Tryz.prog 156 [.int .i64 0, .string ⟨#[]⟩, .int .i64 0, .slice none 0 0] := ⟨zeroC_of (z := .agg #[.int .i64 0, .string ⟨#[]⟩, .int .i64 0, .slice none 0 0]) (by kernel_rfl) rfl⟩
instance : Parts Tryz.prog 156 [(0, 1), (1, 1), (2, 1), (3, 1)] := ⟨.inl ⟨_, Tryz.underlying156, by kernel_rfl, by kernel_rfl⟩⟩
instance : Aggr Tryz.prog 156 4 := ⟨⟨_, Tryz.underlying156, rfl⟩, by kernel_rfl⟩
instance : Fld Tryz.prog 156 0 0 := ⟨fld_of (by kernel_rfl)⟩
instance : Fld Tryz.prog 156 1 1 := ⟨fld_of (by kernel_rfl)⟩
instance : Fld Tryz.prog 156 2 2 := ⟨fld_of (by kernel_rfl)⟩
instance : Fld Tryz.prog 156 3 3 := ⟨fld_of (by kernel_rfl)⟩
instance : Sz Tryz.prog 158 (.agg #[.string ⟨#[]⟩, .int .i64 0]) 2 24 := ⟨by kernel_rfl⟩
instance : ZeroC Tryz.prog 158 [.string ⟨#[]⟩, .int .i64 0] := ⟨zeroC_of (z := .agg #[.string ⟨#[]⟩, .int .i64 0]) (by kernel_rfl) rfl⟩
instance : Parts Tryz.prog 158 [(0, 1), (1, 1)] := ⟨.inl ⟨_, Tryz.underlying158, by kernel_rfl, by kernel_rfl⟩⟩
instance : Aggr Tryz.prog 158 2 := ⟨⟨_, Tryz.underlying158, rfl⟩, by kernel_rfl⟩
instance : Fld Tryz.prog 158 0 0 := ⟨fld_of (by kernel_rfl)⟩
instance : Fld Tryz.prog 158 1 1 := ⟨fld_of (by kernel_rfl)⟩
instance : Sz Tryz.prog 161 (.slice none 0 0) 1 24 := ⟨by kernel_rfl⟩
instance : ZeroC Tryz.prog 161 [.slice none 0 0] := ⟨zeroC_of (z := .slice none 0 0) (by kernel_rfl) rfl⟩
instance : Scalar Tryz.prog 161 := ⟨_, Tryz.underlying161, rfl⟩
instance : SliceT Tryz.prog 161 9 := ⟨Tryz.underlying161⟩
instance : Sz Tryz.prog 164 (.map none) 1 8 := ⟨by kernel_rfl⟩
instance : ZeroC Tryz.prog 164 [.map none] := ⟨zeroC_of (z := .map none) (by kernel_rfl) rfl⟩
instance : Scalar Tryz.prog 164 := ⟨_, Tryz.underlying164, rfl⟩
instance : Sz Tryz.prog 167 (.nilIface) 1 16 := ⟨by kernel_rfl⟩
instance : ZeroC Tryz.prog 167 [.nilIface] := ⟨zeroC_of (z := .nilIface) (by kernel_rfl) rfl⟩
instance : Scalar Tryz.prog 167 := ⟨_, Tryz.underlying167, rfl⟩
instance : Sz Tryz.prog 168 (.nilIface) 1 16 := ⟨by kernel_rfl⟩
instance : ZeroC Tryz.prog 168 [.nilIface] := ⟨zeroC_of (z := .nilIface) (by kernel_rfl) rfl⟩
instance : Scalar Tryz.prog 168 := ⟨_, Tryz.underlying168, rfl⟩
instance : Sz Tryz.prog 175 (.slice none 0 0) 1 24 := ⟨by kernel_rfl⟩
instance : ZeroC Tryz.prog 175 [.slice none 0 0] := ⟨zeroC_of (z := .slice none 0 0) (by kernel_rfl) rfl⟩
instance : Scalar Tryz.prog 175 := ⟨_, Tryz.underlying175, rfl⟩
instance : SliceT Tryz.prog 175 5 := ⟨Tryz.underlying175⟩
instance : Sz Tryz.prog 178 (.agg #[.int .i64 0, .int .i64 0, .int .i64 0]) 3 24 := ⟨by kernel_rfl⟩
instance : ZeroC Tryz.prog 178 [.int .i64 0, .int .i64 0, .int .i64 0] := ⟨zeroC_of (z := .agg #[.int .i64 0, .int .i64 0, .int .i64 0]) (by kernel_rfl) rfl⟩
instance : Parts Tryz.prog 178 [(0, 3)] := ⟨.inl ⟨_, Tryz.underlying178, by kernel_rfl, by kernel_rfl⟩⟩
instance : Aggr Tryz.prog 178 3 := ⟨⟨_, Tryz.underlying178, rfl⟩, by kernel_rfl⟩
instance : Fld Tryz.prog 178 0 0 := ⟨fld_of (by kernel_rfl)⟩
instance : Sz Tryz.prog 179 (.agg #[.int .i64 0, .int .i64 0, .int .i64 0]) 3 24 := ⟨by kernel_rfl⟩
instance : ZeroC Tryz.prog 179 [.int .i64 0, .int .i64 0, .int .i64 0] := ⟨zeroC_of (z := .agg #[.int .i64 0, .int .i64 0, .int .i64 0]) (by kernel_rfl) rfl⟩
instance : Parts Tryz.prog 179 [(0, 3)] := ⟨.inl ⟨_, Tryz.underlying179, by kernel_rfl, by kernel_rfl⟩⟩
instance : Aggr Tryz.prog 179 3 := ⟨⟨_, Tryz.underlying179, rfl⟩, by kernel_rfl⟩
instance : Fld Tryz.prog 179 0 0 := ⟨fld_of (by kernel_rfl)⟩
instance : Sz Tryz.prog 183 (.nilFunc) 1 8 := ⟨by kernel_rfl⟩
instance : ZeroC Tryz.prog 183 [.nilFunc] := ⟨zeroC_of (z := .nilFunc) (by kernel_rfl) rfl⟩
instance : Scalar Tryz.prog 183 := ⟨_, Tryz.underlying183, rfl⟩
instance : Sz Tryz.prog 184 (.agg #[.int .i64 0, .string ⟨#[]⟩, .int .i64 0, .slice none 0 0]) 4 56 := ⟨by kernel_rfl⟩
instance : ZeroC Tryz.prog 184 [.int .i64 0, .string ⟨#[]⟩, .int .i64 0, .slice none 0 0] := ⟨zeroC_of (z := .agg #[.int .i64 0, .string ⟨#[]⟩, .int .i64 0, .slice none 0 0]) (by kernel_rfl) rfl⟩
instance : Parts Tryz.prog 184 [(0, 4)] := ⟨.inl ⟨_, Tryz.underlying184, by kernel_rfl, by kernel_rfl⟩⟩
instance : Aggr Tryz.prog 184 4 := ⟨⟨_, Tryz.underlying184, rfl⟩, by kernel_rfl⟩
instance : Fld Tryz.prog 184 0 0 := ⟨fld_of (by kernel_rfl)⟩
instance : Sz Tryz.prog 185 (.agg #[.int .i64 0, .string ⟨#[]⟩, .int .i64 0, .slice none 0 0]) 4 56 := ⟨by kernel_rfl⟩
instance : ZeroC Tryz.prog 185 [.int .i64 0, .string ⟨#[]⟩, .int .i64 0, .slice none 0 0] := ⟨zeroC_of (z := .agg #[.int .i64 0, .string ⟨#[]⟩, .int .i64 0, .slice none 0 0]) (by kernel_rfl) rfl⟩
instance : Parts Tryz.prog 185 [(0, 4)] := ⟨.inl ⟨_, Tryz.underlying185, by kernel_rfl, by kernel_rfl⟩⟩
instance : Aggr Tryz.prog 185 4 := ⟨⟨_, Tryz.underlying185, rfl⟩, by kernel_rfl⟩
instance : Fld Tryz.prog 185 0 0 := ⟨fld_of (by kernel_rfl)⟩
instance : Sz Tryz.prog 186 (.agg #[.int .i64 0, .string ⟨#[]⟩, .int .i64 0, .slice none 0 0]) 4 56 := ⟨by kernel_rfl⟩
instance : ZeroC Tryz.prog 186 [.int .i64 0, .string ⟨#[]⟩, .int .i64 0, .slice none 0 0] := ⟨zeroC_of (z := .agg #[.int .i64 0, .string ⟨#[]⟩, .int .i64 0, .slice none 0 0]) (by kernel_rfl) rfl⟩
instance : Parts Tryz.prog 186 [(0, 4)] := ⟨.inl ⟨_, Tryz.underlying186, by kernel_rfl, by kernel_rfl⟩⟩
instance : Aggr Tryz.prog 186 4 := ⟨⟨_, Tryz.underlying186, rfl⟩, by kernel_rfl⟩
instance : Fld Tryz.prog 186 0 0 := ⟨fld_of (by kernel_rfl)⟩
instance : Sz Tryz.prog 187 (.agg #[.int .i64 0, .string ⟨#[]⟩, .int .i64 0, .slice none 0 0]) 4 56 := ⟨by kernel_rfl⟩
instance : ZeroC Tryz.prog 187 [.int .i64 0, .string ⟨#[]⟩, .int .i64 0, .slice none 0 0] := ⟨zeroC_of (z := .agg #[.int .i64 0, .string ⟨#[]⟩, .int .i64 0, .slice none 0 0]) (by kernel_rfl) rfl⟩
instance : Parts Tryz.prog 187 [(0, 4)] := ⟨.inl ⟨_, Tryz.underlying187, by kernel_rfl, by kernel_rfl⟩⟩
instance : Aggr Tryz.prog 187 4 := ⟨⟨_, Tryz.underlying187, rfl⟩, by kernel_rfl⟩
instance : Fld Tryz.prog 187 0 0 := ⟨fld_of (by kernel_rfl)⟩
instance : Sz Tryz.prog 199 (.agg #[]) 0 0 := ⟨by kernel_rfl⟩
instance : ZeroC Tryz.prog 199 [] := ⟨zeroC_of (z := .agg #[]) (by kernel_rfl) rfl⟩
instance : Parts Tryz.prog 199 [] := ⟨.inr ⟨_, _, Tryz.underlying199, by kernel_rfl, by kernel_rfl⟩⟩
instance : Aggr Tryz.prog 199 0 := ⟨⟨_, Tryz.underlying199, rfl⟩, by kernel_rfl⟩
instance : ArrT Tryz.prog 199 0 16 := ⟨Tryz.underlying199⟩
instance : Sz Tryz.prog 200 (.agg #[]) 0 0 := ⟨by kernel_rfl⟩
instance : ZeroC Tryz.prog 200 [] := ⟨zeroC_of (z := .agg #[]) (by kernel_rfl) rfl⟩
instance : Parts Tryz.prog 200 [(0, 0)] := ⟨.inl ⟨_, Tryz.underlying200, by kernel_rfl, by kernel_rfl⟩⟩
instance : Aggr Tryz.prog 200 0 := ⟨⟨_, Tryz.underlying200, rfl⟩, by kernel_rfl⟩
instance : Sz Tryz.prog 201 (.agg #[]) 0 0 := ⟨by kernel_rfl⟩
instance : ZeroC Tryz.prog 201 [] := ⟨zeroC_of (z := .agg #[]) (by kernel_rfl) rfl⟩
instance : Parts Tryz.prog 201 [(0, 0)] := ⟨.inl ⟨_, Tryz.underlying201, by kernel_rfl, by kernel_rfl⟩⟩
instance : Aggr Tryz.prog 201 0 := ⟨⟨_, Tryz.underlying201, rfl⟩, by kernel_rfl⟩
instance : Sz Tryz.prog 202 (.int .u32 0) 1 4 := ⟨by kernel_rfl⟩
instance : ZeroC Tryz.prog 202 [.int .u32 0] := ⟨zeroC_of (z := .int .u32 0) (by kernel_rfl) rfl⟩
instance : Scalar Tryz.prog 202 := ⟨_, Tryz.underlying202, rfl⟩
instance : Sz Tryz.prog 203 (.int .u8 0) 1 1 := ⟨by kernel_rfl⟩
instance : ZeroC Tryz.prog 203 [.int .u8 0] := ⟨zeroC_of (z := .int .u8 0) (by kernel_rfl) rfl⟩
instance : Scalar Tryz.prog 203 := ⟨_, Tryz.underlying203, rfl⟩
instance : Sz Tryz.prog 204 (.int .u8 0) 1 1 := ⟨by kernel_rfl⟩
instance : ZeroC Tryz.prog 204 [.int .u8 0] := ⟨zeroC_of (z := .int .u8 0) (by kernel_rfl) rfl⟩
instance : Scalar Tryz.prog 204 := ⟨_, Tryz.underlying204, rfl⟩
instance : Sz Tryz.prog 205 (.nilFunc) 1 8 := ⟨by kernel_rfl⟩
instance : ZeroC Tryz.prog 205 [.nilFunc] := ⟨zeroC_of (z := .nilFunc) (by kernel_rfl) rfl⟩
instance : Scalar Tryz.prog 205 := ⟨_, Tryz.underlying205, rfl⟩
instance : Sz Tryz.prog 206 (.pointer none) 1 8 := ⟨by kernel_rfl⟩
instance : ZeroC Tryz.prog 206 [.pointer none] := ⟨zeroC_of (z := .pointer none) (by kernel_rfl) rfl⟩
instance : Scalar Tryz.prog 206 := ⟨_, Tryz.underlying206, rfl⟩
instance : Sz Tryz.prog 207 (.int .i32 0) 1 4 := ⟨by kernel_rfl⟩
instance : ZeroC Tryz.prog 207 [.int .i32 0] := ⟨zeroC_of (z := .int .i32 0) (by kernel_rfl) rfl⟩
instance : Scalar Tryz.prog 207 := ⟨_, Tryz.underlying207, rfl⟩
instance : Sz Tryz.prog 208 (.int .i32 0) 1 4 := ⟨by kernel_rfl⟩
instance : ZeroC Tryz.prog 208 [.int .i32 0] := ⟨zeroC_of (z := .int .i32 0) (by kernel_rfl) rfl⟩
instance : Scalar Tryz.prog 208 := ⟨_, Tryz.underlying208, rfl⟩
instance : Sz Tryz.prog 209 (.agg #[.int .u64 0, .int .u64 0, .int .u32 0, .int .u8 0, .int .u8 0, .int .u8 0, .int .u8 0, .nilFunc, .pointer none, .int .i32 0, .int .i32 0]) 11 48 := ⟨by kernel_rfl⟩
instance : ZeroC Tryz.prog 209 [.int .u64 0, .int .u64 0, .int .u32 0, .int .u8 0, .int .u8 0, .int .u8 0, .int .u8 0, .nilFunc, .pointer none, .int .i32 0, .int .i32 0] := ⟨zeroC_of (z := .agg #[.int .u64 0, .int .u64 0, .int .u32 0, .int .u8 0, .int .u8 0, .int .u8 0, .int .u8 0, .nilFunc, .pointer none, .int .i32 0, .int .i32 0]) (by kernel_rfl) rfl⟩
instance : Parts Tryz.prog 209 [(0, 1), (1, 1), (2, 1), (3, 1), (4, 1), (5, 1), (6, 1), (7, 1), (8, 1), (9, 1), (10, 1)] := ⟨.inl ⟨_, Tryz.underlying209, by kernel_rfl, by kernel_rfl⟩⟩
instance : Aggr Tryz.prog 209 11 := ⟨⟨_, Tryz.underlying209, rfl⟩, by kernel_rfl⟩
instance : Fld Tryz.prog 209 0 0 := ⟨fld_of (by kernel_rfl)⟩
instance : Fld Tryz.prog 209 1 1 := ⟨fld_of (by kernel_rfl)⟩
instance : Fld Tryz.prog 209 2 2 := ⟨fld_of (by kernel_rfl)⟩
instance : Fld Tryz.prog 209 3 3 := ⟨fld_of (by kernel_rfl)⟩
instance : Fld Tryz.prog 209 4 4 := ⟨fld_of (by kernel_rfl)⟩
instance : Fld Tryz.prog 209 5 5 := ⟨fld_of (by kernel_rfl)⟩
instance : Fld Tryz.prog 209 6 6 := ⟨fld_of (by kernel_rfl)⟩
instance : Fld Tryz.prog 209 7 7 := ⟨fld_of (by kernel_rfl)⟩
instance : Fld Tryz.prog 209 8 8 := ⟨fld_of (by kernel_rfl)⟩
instance : Fld Tryz.prog 209 9 9 := ⟨fld_of (by kernel_rfl)⟩
instance : Fld Tryz.prog 209 10 10 := ⟨fld_of (by kernel_rfl)⟩
instance : Sz Tryz.prog 210 (.agg #[.int .u64 0, .int .u64 0, .int .u32 0, .int .u8 0, .int .u8 0, .int .u8 0, .int .u8 0, .nilFunc, .pointer none, .int .i32 0, .int .i32 0]) 11 48 := ⟨by kernel_rfl⟩
instance : ZeroC Tryz.prog 210 [.int .u64 0, .int .u64 0, .int .u32 0, .int .u8 0, .int .u8 0, .int .u8 0, .int .u8 0, .nilFunc, .pointer none, .int .i32 0, .int .i32 0] := ⟨zeroC_of (z := .agg #[.int .u64 0, .int .u64 0, .int .u32 0, .int .u8 0, .int .u8 0, .int .u8 0, .int .u8 0, .nilFunc, .pointer none, .int .i32 0, .int .i32 0]) (by kernel_rfl) rfl⟩
instance : Parts Tryz.prog 210 [(0, 1), (1, 1), (2, 1), (3, 1), (4, 1), (5, 1), (6, 1), (7, 1), (8, 1), (9, 1), (10, 1)] := ⟨.inl ⟨_, Tryz.underlying210, by kernel_rfl, by kernel_rfl⟩⟩
instance : Aggr Tryz.prog 210 11 := ⟨⟨_, Tryz.underlying210, rfl⟩, by kernel_rfl⟩
instance : Fld Tryz.prog 210 0 0 := ⟨fld_of (by kernel_rfl)⟩
instance : Fld Tryz.prog 210 1 1 := ⟨fld_of (by kernel_rfl)⟩
instance : Fld Tryz.prog 210 2 2 := ⟨fld_of (by kernel_rfl)⟩
instance : Fld Tryz.prog 210 3 3 := ⟨fld_of (by kernel_rfl)⟩
instance : Fld Tryz.prog 210 4 4 := ⟨fld_of (by kernel_rfl)⟩
instance : Fld Tryz.prog 210 5 5 := ⟨fld_of (by kernel_rfl)⟩
instance : Fld Tryz.prog 210 6 6 := ⟨fld_of (by kernel_rfl)⟩
instance : Fld Tryz.prog 210 7 7 := ⟨fld_of (by kernel_rfl)⟩
instance : Fld Tryz.prog 210 8 8 := ⟨fld_of (by kernel_rfl)⟩
instance : Fld Tryz.prog 210 9 9 := ⟨fld_of (by kernel_rfl)⟩
instance : Fld Tryz.prog 210 10 10 := ⟨fld_of (by kernel_rfl)⟩
end Go.Proofs.YtbcboklmeifghaaGreat.St
