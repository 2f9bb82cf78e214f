/-
  A call of each function of the program that has a body enters it.
-/
import Derived.Test.YtgmonjghbjaadaaGreatDoorStDraw
import Derived.Test.YtgmonjghbjaadaaGreatDoorRows
set_option linter.unusedSimpArgs false
set_option linter.unusedVariables false
namespace Go.Proofs.YtgmonjghbjaadaaGreatDoor.St
theorem mixed : Tryz.prog.follows .mixedOrders = true := by kernel_rfl
theorem en3 : Enters Tryz.prog 3 := enters_of Tryz.func3 (by kernel_rfl) rfl
instance : En Tryz.prog 3 := ⟨en3⟩
theorem en4 : Enters Tryz.prog 4 := enters_of Tryz.func4 (by kernel_rfl) rfl
instance : En Tryz.prog 4 := ⟨en4⟩
theorem en5 : Enters Tryz.prog 5 := enters_of Tryz.func5 (by kernel_rfl) rfl
instance : En Tryz.prog 5 := ⟨en5⟩
theorem en6 : Enters Tryz.prog 6 := enters_of Tryz.func6 (by kernel_rfl) rfl
instance : En Tryz.prog 6 := ⟨en6⟩
theorem en7 : Enters Tryz.prog 7 := enters_of Tryz.func7 (by kernel_rfl) rfl
instance : En Tryz.prog 7 := ⟨en7⟩
theorem en8 : Enters Tryz.prog 8 := enters_of Tryz.func8 (by kernel_rfl) rfl
instance : En Tryz.prog 8 := ⟨en8⟩
theorem en9 : Enters Tryz.prog 9 := enters_of Tryz.func9 (by kernel_rfl) rfl
instance : En Tryz.prog 9 := ⟨en9⟩
theorem en10 : Enters Tryz.prog 10 := enters_of Tryz.func10 (by kernel_rfl) rfl
instance : En Tryz.prog 10 := ⟨en10⟩
theorem en11 : Enters Tryz.prog 11 := enters_of Tryz.func11 (by kernel_rfl) rfl
instance : En Tryz.prog 11 := ⟨en11⟩
theorem en12 : Enters Tryz.prog 12 := enters_of Tryz.func12 (by kernel_rfl) rfl
instance : En Tryz.prog 12 := ⟨en12⟩
theorem en13 : Enters Tryz.prog 13 := enters_of Tryz.func13 (by kernel_rfl) rfl
instance : En Tryz.prog 13 := ⟨en13⟩
theorem en14 : Enters Tryz.prog 14 := enters_of Tryz.func14 (by kernel_rfl) rfl
instance : En Tryz.prog 14 := ⟨en14⟩
theorem en15 : Enters Tryz.prog 15 := enters_of Tryz.func15 (by kernel_rfl) rfl
instance : En Tryz.prog 15 := ⟨en15⟩
theorem en16 : Enters Tryz.prog 16 := enters_of Tryz.func16 (by kernel_rfl) rfl
instance : En Tryz.prog 16 := ⟨en16⟩
theorem en17 : Enters Tryz.prog 17 := enters_of Tryz.func17 (by kernel_rfl) rfl
instance : En Tryz.prog 17 := ⟨en17⟩
theorem en18 : Enters Tryz.prog 18 := enters_of Tryz.func18 (by kernel_rfl) rfl
instance : En Tryz.prog 18 := ⟨en18⟩
theorem en19 : Enters Tryz.prog 19 := enters_of Tryz.func19 (by kernel_rfl) rfl
instance : En Tryz.prog 19 := ⟨en19⟩
theorem en20 : Enters Tryz.prog 20 := enters_of Tryz.func20 (by kernel_rfl) rfl
instance : En Tryz.prog 20 := ⟨en20⟩
theorem en21 : Enters Tryz.prog 21 := enters_of Tryz.func21 (by kernel_rfl) rfl
instance : En Tryz.prog 21 := ⟨en21⟩
theorem en22 : Enters Tryz.prog 22 := enters_of Tryz.func22 (by kernel_rfl) rfl
instance : En Tryz.prog 22 := ⟨en22⟩
theorem en23 : Enters Tryz.prog 23 := enters_of Tryz.func23 (by kernel_rfl) rfl
instance : En Tryz.prog 23 := ⟨en23⟩
theorem en24 : Enters Tryz.prog 24 := enters_of Tryz.func24 (by kernel_rfl) rfl
instance : En Tryz.prog 24 := ⟨en24⟩
theorem en25 : Enters Tryz.prog 25 := enters_of Tryz.func25 (by kernel_rfl) rfl
instance : En Tryz.prog 25 := ⟨en25⟩
theorem en26 : Enters Tryz.prog 26 := enters_of Tryz.func26 (by kernel_rfl) rfl
instance : En Tryz.prog 26 := ⟨en26⟩
theorem en27 : Enters Tryz.prog 27 := enters_of Tryz.func27 (by kernel_rfl) rfl
instance : En Tryz.prog 27 := ⟨en27⟩
theorem en28 : Enters Tryz.prog 28 := enters_of Tryz.func28 (by kernel_rfl) rfl
instance : En Tryz.prog 28 := ⟨en28⟩
theorem en29 : Enters Tryz.prog 29 := enters_of Tryz.func29 (by kernel_rfl) rfl
instance : En Tryz.prog 29 := ⟨en29⟩
theorem en30 : Enters Tryz.prog 30 := enters_of Tryz.func30 (by kernel_rfl) rfl
instance : En Tryz.prog 30 := ⟨en30⟩
theorem en31 : Enters Tryz.prog 31 := enters_of Tryz.func31 (by kernel_rfl) rfl
instance : En Tryz.prog 31 := ⟨en31⟩
theorem en32 : Enters Tryz.prog 32 := enters_of Tryz.func32 (by kernel_rfl) rfl
instance : En Tryz.prog 32 := ⟨en32⟩
theorem en33 : Enters Tryz.prog 33 := enters_of Tryz.func33 (by kernel_rfl) rfl
instance : En Tryz.prog 33 := ⟨en33⟩
theorem en34 : Enters Tryz.prog 34 := enters_of Tryz.func34 (by kernel_rfl) rfl
instance : En Tryz.prog 34 := ⟨en34⟩
theorem en35 : Enters Tryz.prog 35 := enters_of Tryz.func35 (by kernel_rfl) rfl
instance : En Tryz.prog 35 := ⟨en35⟩
theorem en36 : Enters Tryz.prog 36 := enters_of Tryz.func36 (by kernel_rfl) rfl
instance : En Tryz.prog 36 := ⟨en36⟩
theorem en37 : Enters Tryz.prog 37 := enters_of Tryz.func37 (by kernel_rfl) rfl
instance : En Tryz.prog 37 := ⟨en37⟩
theorem en38 : Enters Tryz.prog 38 := enters_of Tryz.func38 (by kernel_rfl) rfl
instance : En Tryz.prog 38 := ⟨en38⟩
theorem en39 : Enters Tryz.prog 39 := enters_of Tryz.func39 (by kernel_rfl) rfl
instance : En Tryz.prog 39 := ⟨en39⟩
theorem en40 : Enters Tryz.prog 40 := enters_of Tryz.func40 (by kernel_rfl) rfl
instance : En Tryz.prog 40 := ⟨en40⟩
theorem en41 : Enters Tryz.prog 41 := enters_of Tryz.func41 (by kernel_rfl) rfl
instance : En Tryz.prog 41 := ⟨en41⟩
theorem en42 : Enters Tryz.prog 42 := enters_of Tryz.func42 (by kernel_rfl) rfl
instance : En Tryz.prog 42 := ⟨en42⟩
theorem en43 : Enters Tryz.prog 43 := enters_of Tryz.func43 (by kernel_rfl) rfl
instance : En Tryz.prog 43 := ⟨en43⟩
theorem en44 : Enters Tryz.prog 44 := enters_of Tryz.func44 (by kernel_rfl) rfl
instance : En Tryz.prog 44 := ⟨en44⟩
theorem en45 : Enters Tryz.prog 45 := enters_of Tryz.func45 (by kernel_rfl) rfl
instance : En Tryz.prog 45 := ⟨en45⟩
theorem en46 : Enters Tryz.prog 46 := enters_of Tryz.func46 (by kernel_rfl) rfl
instance : En Tryz.prog 46 := ⟨en46⟩
theorem en47 : Enters Tryz.prog 47 := enters_of Tryz.func47 (by kernel_rfl) rfl
instance : En Tryz.prog 47 := ⟨en47⟩
theorem en48 : Enters Tryz.prog 48 := enters_of Tryz.func48 (by kernel_rfl) rfl
instance : En Tryz.prog 48 := ⟨en48⟩
theorem en49 : Enters Tryz.prog 49 := enters_of Tryz.func49 (by kernel_rfl) rfl
instance : En Tryz.prog 49 := ⟨en49⟩
theorem en50 : Enters Tryz.prog 50 := enters_of Tryz.func50 (by kernel_rfl) rfl
instance : En Tryz.prog 50 := ⟨en50⟩
theorem en51 : Enters Tryz.prog 51 := enters_of Tryz.func51 (by kernel_rfl) rfl
instance : En Tryz.prog 51 := ⟨en51⟩
theorem en52 : Enters Tryz.prog 52 := enters_of Tryz.func52 (by kernel_rfl) rfl
instance : En Tryz.prog 52 := ⟨en52⟩
theorem en53 : Enters Tryz.prog 53 := enters_of Tryz.func53 (by kernel_rfl) rfl
instance : En Tryz.prog 53 := ⟨en53⟩
theorem en54 : Enters Tryz.prog 54 := enters_of Tryz.func54 (by kernel_rfl) rfl
instance : En Tryz.prog 54 := ⟨en54⟩
theorem en55 : Enters Tryz.prog 55 := enters_of Tryz.func55 (by kernel_rfl) rfl
instance : En Tryz.prog 55 := ⟨en55⟩
theorem en56 : Enters Tryz.prog 56 := enters_of Tryz.func56 (by kernel_rfl) rfl
instance : En Tryz.prog 56 := ⟨en56⟩
theorem en57 : Enters Tryz.prog 57 := enters_of Tryz.func57 (by kernel_rfl) rfl
instance : En Tryz.prog 57 := ⟨en57⟩
theorem en58 : Enters Tryz.prog 58 := enters_of Tryz.func58 (by kernel_rfl) rfl
instance : En Tryz.prog 58 := ⟨en58⟩
theorem en59 : Enters Tryz.prog 59 := enters_of Tryz.func59 (by kernel_rfl) rfl
instance : En Tryz.prog 59 := ⟨en59⟩
theorem en60 : Enters Tryz.prog 60 := enters_of Tryz.func60 (by kernel_rfl) rfl
instance : En Tryz.prog 60 := ⟨en60⟩
theorem en61 : Enters Tryz.prog 61 := enters_of Tryz.func61 (by kernel_rfl) rfl
instance : En Tryz.prog 61 := ⟨en61⟩
theorem en62 : Enters Tryz.prog 62 := enters_of Tryz.func62 (by kernel_rfl) rfl
instance : En Tryz.prog 62 := ⟨en62⟩
theorem en63 : Enters Tryz.prog 63 := enters_of Tryz.func63 (by kernel_rfl) rfl
instance : En Tryz.prog 63 := ⟨en63⟩
theorem en64 : Enters Tryz.prog 64 := enters_of Tryz.func64 (by kernel_rfl) rfl
instance : En Tryz.prog 64 := ⟨en64⟩
theorem en65 : Enters Tryz.prog 65 := enters_of Tryz.func65 (by kernel_rfl) rfl
instance : En Tryz.prog 65 := ⟨en65⟩
theorem en66 : Enters Tryz.prog 66 := enters_of Tryz.func66 (by kernel_rfl) rfl
instance : En Tryz.prog 66 := ⟨en66⟩
theorem en67 : Enters Tryz.prog 67 := enters_of Tryz.func67 (by kernel_rfl) rfl
instance : En Tryz.prog 67 := ⟨en67⟩
theorem en68 : Enters Tryz.prog 68 := enters_of Tryz.func68 (by kernel_rfl) rfl
instance : En Tryz.prog 68 := ⟨en68⟩
theorem en69 : Enters Tryz.prog 69 := enters_of Tryz.func69 (by kernel_rfl) rfl
instance : En Tryz.prog 69 := ⟨en69⟩
theorem en70 : Enters Tryz.prog 70 := enters_of Tryz.func70 (by kernel_rfl) rfl
instance : En Tryz.prog 70 := ⟨en70⟩
theorem en71 : Enters Tryz.prog 71 := enters_of Tryz.func71 (by kernel_rfl) rfl
instance : En Tryz.prog 71 := ⟨en71⟩
theorem en72 : Enters Tryz.prog 72 := enters_of Tryz.func72 (by kernel_rfl) rfl
instance : En Tryz.prog 72 := ⟨en72⟩
theorem en73 : Enters Tryz.prog 73 := enters_of Tryz.func73 (by kernel_rfl) rfl
instance : En Tryz.prog 73 := ⟨en73⟩
theorem en74 : Enters Tryz.prog 74 := enters_of Tryz.func74 (by kernel_rfl) rfl
instance : En Tryz.prog 74 := ⟨en74⟩
theorem en75 : Enters Tryz.prog 75 := enters_of Tryz.func75 (by kernel_rfl) rfl
instance : En Tryz.prog 75 := ⟨en75⟩
theorem en76 : Enters Tryz.prog 76 := enters_of Tryz.func76 (by kernel_rfl) rfl
instance : En Tryz.prog 76 := ⟨en76⟩
theorem en77 : Enters Tryz.prog 77 := enters_of Tryz.func77 (by kernel_rfl) rfl
instance : En Tryz.prog 77 := ⟨en77⟩
theorem en78 : Enters Tryz.prog 78 := enters_of Tryz.func78 (by kernel_rfl) rfl
instance : En Tryz.prog 78 := ⟨en78⟩
theorem en79 : Enters Tryz.prog 79 := enters_of Tryz.func79 (by kernel_rfl) rfl
instance : En Tryz.prog 79 := ⟨en79⟩
theorem en80 : Enters Tryz.prog 80 := enters_of Tryz.func80 (by kernel_rfl) rfl
instance : En Tryz.prog 80 := ⟨en80⟩
theorem en81 : Enters Tryz.prog 81 := enters_of Tryz.func81 (by kernel_rfl) rfl
instance : En Tryz.prog 81 := ⟨en81⟩
theorem en82 : Enters Tryz.prog 82 := enters_of Tryz.func82 (by kernel_rfl) rfl
instance : En Tryz.prog 82 := ⟨en82⟩
theorem en83 : Enters Tryz.prog 83 := enters_of Tryz.func83 (by kernel_rfl) rfl
instance : En Tryz.prog 83 := ⟨en83⟩
theorem en84 : Enters Tryz.prog 84 := enters_of Tryz.func84 (by kernel_rfl) rfl
instance : En Tryz.prog 84 := ⟨en84⟩
theorem en85 : Enters Tryz.prog 85 := enters_of Tryz.func85 (by kernel_rfl) rfl
instance : En Tryz.prog 85 := ⟨en85⟩
theorem en86 : Enters Tryz.prog 86 := enters_of Tryz.func86 (by kernel_rfl) rfl
instance : En Tryz.prog 86 := ⟨en86⟩
theorem en87 : Enters Tryz.prog 87 := enters_of Tryz.func87 (by kernel_rfl) rfl
instance : En Tryz.prog 87 := ⟨en87⟩
theorem en88 : Enters Tryz.prog 88 := enters_of Tryz.func88 (by kernel_rfl) rfl
instance : En Tryz.prog 88 := ⟨en88⟩
theorem en89 : Enters Tryz.prog 89 := enters_of Tryz.func89 (by kernel_rfl) rfl
instance : En Tryz.prog 89 := ⟨en89⟩
theorem en90 : Enters Tryz.prog 90 := enters_of Tryz.func90 (by kernel_rfl) rfl
instance : En Tryz.prog 90 := ⟨en90⟩
theorem en91 : Enters Tryz.prog 91 := enters_of Tryz.func91 (by kernel_rfl) rfl
instance : En Tryz.prog 91 := ⟨en91⟩
theorem en92 : Enters Tryz.prog 92 := enters_of Tryz.func92 (by kernel_rfl) rfl
instance : En Tryz.prog 92 := ⟨en92⟩
theorem en93 : Enters Tryz.prog 93 := enters_of Tryz.func93 (by kernel_rfl) rfl
instance : En Tryz.prog 93 := ⟨en93⟩
theorem en94 : Enters Tryz.prog 94 := enters_of Tryz.func94 (by kernel_rfl) rfl
instance : En Tryz.prog 94 := ⟨en94⟩
theorem en95 : Enters Tryz.prog 95 := enters_of Tryz.func95 (by kernel_rfl) rfl
instance : En Tryz.prog 95 := ⟨en95⟩
theorem en96 : Enters Tryz.prog 96 := enters_of Tryz.func96 (by kernel_rfl) rfl
instance : En Tryz.prog 96 := ⟨en96⟩
theorem en97 : Enters Tryz.prog 97 := enters_of Tryz.func97 (by kernel_rfl) rfl
instance : En Tryz.prog 97 := ⟨en97⟩
theorem en98 : Enters Tryz.prog 98 := enters_of Tryz.func98 (by kernel_rfl) rfl
instance : En Tryz.prog 98 := ⟨en98⟩
theorem en99 : Enters Tryz.prog 99 := enters_of Tryz.func99 (by kernel_rfl) rfl
instance : En Tryz.prog 99 := ⟨en99⟩
theorem en100 : Enters Tryz.prog 100 := enters_of Tryz.func100 (by kernel_rfl) rfl
instance : En Tryz.prog 100 := ⟨en100⟩
theorem en101 : Enters Tryz.prog 101 := enters_of Tryz.func101 (by kernel_rfl) rfl
instance : En Tryz.prog 101 := ⟨en101⟩
theorem en102 : Enters Tryz.prog 102 := enters_of Tryz.func102 (by kernel_rfl) rfl
instance : En Tryz.prog 102 := ⟨en102⟩
theorem en103 : Enters Tryz.prog 103 := enters_of Tryz.func103 (by kernel_rfl) rfl
instance : En Tryz.prog 103 := ⟨en103⟩
theorem en104 : Enters Tryz.prog 104 := enters_of Tryz.func104 (by kernel_rfl) rfl
instance : En Tryz.prog 104 := ⟨en104⟩
theorem en105 : Enters Tryz.prog 105 := enters_of Tryz.func105 (by kernel_rfl) rfl
instance : En Tryz.prog 105 := ⟨en105⟩
theorem en106 : Enters Tryz.prog 106 := enters_of Tryz.func106 (by kernel_rfl) rfl
instance : En Tryz.prog 106 := ⟨en106⟩
theorem en107 : Enters Tryz.prog 107 := enters_of Tryz.func107 (by kernel_rfl) rfl
instance : En Tryz.prog 107 := ⟨en107⟩
theorem en108 : Enters Tryz.prog 108 := enters_of Tryz.func108 (by kernel_rfl) rfl
instance : En Tryz.prog 108 := ⟨en108⟩
theorem en109 : Enters Tryz.prog 109 := enters_of Tryz.func109 (by kernel_rfl) rfl
instance : En Tryz.prog 109 := ⟨en109⟩
theorem en110 : Enters Tryz.prog 110 := enters_of Tryz.func110 (by kernel_rfl) rfl
instance : En Tryz.prog 110 := ⟨en110⟩
theorem en111 : Enters Tryz.prog 111 := enters_of Tryz.func111 (by kernel_rfl) rfl
instance : En Tryz.prog 111 := ⟨en111⟩
theorem en112 : Enters Tryz.prog 112 := enters_of Tryz.func112 (by kernel_rfl) rfl
instance : En Tryz.prog 112 := ⟨en112⟩
theorem en113 : Enters Tryz.prog 113 := enters_of Tryz.func113 (by kernel_rfl) rfl
instance : En Tryz.prog 113 := ⟨en113⟩
theorem en114 : Enters Tryz.prog 114 := enters_of Tryz.func114 (by kernel_rfl) rfl
instance : En Tryz.prog 114 := ⟨en114⟩
theorem en115 : Enters Tryz.prog 115 := enters_of Tryz.func115 (by kernel_rfl) rfl
instance : En Tryz.prog 115 := ⟨en115⟩
theorem en116 : Enters Tryz.prog 116 := enters_of Tryz.func116 (by kernel_rfl) rfl
instance : En Tryz.prog 116 := ⟨en116⟩
theorem en117 : Enters Tryz.prog 117 := enters_of Tryz.func117 (by kernel_rfl) rfl
instance : En Tryz.prog 117 := ⟨en117⟩
theorem en118 : Enters Tryz.prog 118 := enters_of Tryz.func118 (by kernel_rfl) rfl
instance : En Tryz.prog 118 := ⟨en118⟩
theorem en119 : Enters Tryz.prog 119 := enters_of Tryz.func119 (by kernel_rfl) rfl
instance : En Tryz.prog 119 := ⟨en119⟩
theorem en120 : Enters Tryz.prog 120 := enters_of Tryz.func120 (by kernel_rfl) rfl
instance : En Tryz.prog 120 := ⟨en120⟩
theorem en121 : Enters Tryz.prog 121 := enters_of Tryz.func121 (by kernel_rfl) rfl
instance : En Tryz.prog 121 := ⟨en121⟩
theorem en123 : Enters Tryz.prog 123 := enters_of Tryz.func123 (by kernel_rfl) rfl
instance : En Tryz.prog 123 := ⟨en123⟩
theorem en124 : Enters Tryz.prog 124 := enters_of Tryz.func124 (by kernel_rfl) rfl
instance : En Tryz.prog 124 := ⟨en124⟩
theorem en125 : Enters Tryz.prog 125 := enters_of Tryz.func125 (by kernel_rfl) rfl
instance : En Tryz.prog 125 := ⟨en125⟩
theorem en126 : Enters Tryz.prog 126 := enters_of Tryz.func126 (by kernel_rfl) rfl
instance : En Tryz.prog 126 := ⟨en126⟩
theorem en128 : Enters Tryz.prog 128 := enters_of Tryz.func128 (by kernel_rfl) rfl
instance : En Tryz.prog 128 := ⟨en128⟩
theorem en129 : Enters Tryz.prog 129 := enters_of Tryz.func129 (by kernel_rfl) rfl
instance : En Tryz.prog 129 := ⟨en129⟩
theorem en130 : Enters Tryz.prog 130 := enters_of Tryz.func130 (by kernel_rfl) rfl
instance : En Tryz.prog 130 := ⟨en130⟩
theorem en131 : Enters Tryz.prog 131 := enters_of Tryz.func131 (by kernel_rfl) rfl
instance : En Tryz.prog 131 := ⟨en131⟩
theorem en132 : Enters Tryz.prog 132 := enters_of Tryz.func132 (by kernel_rfl) rfl
instance : En Tryz.prog 132 := ⟨en132⟩
theorem en133 : Enters Tryz.prog 133 := enters_of Tryz.func133 (by kernel_rfl) rfl
instance : En Tryz.prog 133 := ⟨en133⟩
theorem en134 : Enters Tryz.prog 134 := enters_of Tryz.func134 (by kernel_rfl) rfl
instance : En Tryz.prog 134 := ⟨en134⟩
theorem en135 : Enters Tryz.prog 135 := enters_of Tryz.func135 (by kernel_rfl) rfl
instance : En Tryz.prog 135 := ⟨en135⟩
theorem en136 : Enters Tryz.prog 136 := enters_of Tryz.func136 (by kernel_rfl) rfl
instance : En Tryz.prog 136 := ⟨en136⟩
theorem en137 : Enters Tryz.prog 137 := enters_of Tryz.func137 (by kernel_rfl) rfl
instance : En Tryz.prog 137 := ⟨en137⟩
theorem en138 : Enters Tryz.prog 138 := enters_of Tryz.func138 (by kernel_rfl) rfl
instance : En Tryz.prog 138 := ⟨en138⟩
theorem en139 : Enters Tryz.prog 139 := enters_of Tryz.func139 (by kernel_rfl) rfl
instance : En Tryz.prog 139 := ⟨en139⟩
theorem en140 : Enters Tryz.prog 140 := enters_of Tryz.func140 (by kernel_rfl) rfl
instance : En Tryz.prog 140 := ⟨en140⟩
theorem en141 : Enters Tryz.prog 141 := enters_of Tryz.func141 (by kernel_rfl) rfl
instance : En Tryz.prog 141 := ⟨en141⟩
theorem en143 : Enters Tryz.prog 143 := enters_of Tryz.func143 (by kernel_rfl) rfl
instance : En Tryz.prog 143 := ⟨en143⟩
theorem en145 : Enters Tryz.prog 145 := enters_of Tryz.func145 (by kernel_rfl) rfl
instance : En Tryz.prog 145 := ⟨en145⟩
theorem en146 : Enters Tryz.prog 146 := enters_of Tryz.func146 (by kernel_rfl) rfl
instance : En Tryz.prog 146 := ⟨en146⟩
theorem en147 : Enters Tryz.prog 147 := enters_of Tryz.func147 (by kernel_rfl) rfl
instance : En Tryz.prog 147 := ⟨en147⟩
theorem en148 : Enters Tryz.prog 148 := enters_of Tryz.func148 (by kernel_rfl) rfl
instance : En Tryz.prog 148 := ⟨en148⟩
theorem en149 : Enters Tryz.prog 149 := enters_of Tryz.func149 (by kernel_rfl) rfl
instance : En Tryz.prog 149 := ⟨en149⟩
theorem en150 : Enters Tryz.prog 150 := enters_of Tryz.func150 (by kernel_rfl) rfl
instance : En Tryz.prog 150 := ⟨en150⟩
theorem en151 : Enters Tryz.prog 151 := enters_of Tryz.func151 (by kernel_rfl) rfl
instance : En Tryz.prog 151 := ⟨en151⟩
theorem en152 : Enters Tryz.prog 152 := enters_of Tryz.func152 (by kernel_rfl) rfl
instance : En Tryz.prog 152 := ⟨en152⟩
theorem en153 : Enters Tryz.prog 153 := enters_of Tryz.func153 (by kernel_rfl) rfl
instance : En Tryz.prog 153 := ⟨en153⟩
theorem en154 : Enters Tryz.prog 154 := enters_of Tryz.func154 (by kernel_rfl) rfl
instance : En Tryz.prog 154 := ⟨en154⟩
theorem en155 : Enters Tryz.prog 155 := enters_of Tryz.func155 (by kernel_rfl) rfl
instance : En Tryz.prog 155 := ⟨en155⟩
theorem en156 : Enters Tryz.prog 156 := enters_of Tryz.func156 (by kernel_rfl) rfl
instance : En Tryz.prog 156 := ⟨en156⟩
theorem en157 : Enters Tryz.prog 157 := enters_of Tryz.func157 (by kernel_rfl) rfl
instance : En Tryz.prog 157 := ⟨en157⟩
theorem en158 : Enters Tryz.prog 158 := enters_of Tryz.func158 (by kernel_rfl) rfl
instance : En Tryz.prog 158 := ⟨en158⟩
theorem en159 : Enters Tryz.prog 159 := enters_of Tryz.func159 (by kernel_rfl) rfl
instance : En Tryz.prog 159 := ⟨en159⟩
theorem en161 : Enters Tryz.prog 161 := enters_of Tryz.func161 (by kernel_rfl) rfl
instance : En Tryz.prog 161 := ⟨en161⟩
theorem en162 : Enters Tryz.prog 162 := enters_of Tryz.func162 (by kernel_rfl) rfl
instance : En Tryz.prog 162 := ⟨en162⟩
theorem en163 : Enters Tryz.prog 163 := enters_of Tryz.func163 (by kernel_rfl) rfl
instance : En Tryz.prog 163 := ⟨en163⟩
theorem en164 : Enters Tryz.prog 164 := enters_of Tryz.func164 (by kernel_rfl) rfl
instance : En Tryz.prog 164 := ⟨en164⟩
theorem en165 : Enters Tryz.prog 165 := enters_of Tryz.func165 (by kernel_rfl) rfl
instance : En Tryz.prog 165 := ⟨en165⟩
theorem en166 : Enters Tryz.prog 166 := enters_of Tryz.func166 (by kernel_rfl) rfl
instance : En Tryz.prog 166 := ⟨en166⟩
theorem en197 : Enters Tryz.prog 197 := enters_of Tryz.func197 (by kernel_rfl) rfl
instance : En Tryz.prog 197 := ⟨en197⟩
instance : Sz Tryz.prog 1 (.nilFunc) 1 8 := ⟨by kernel_rfl⟩
instance : ZeroC Tryz.prog 1 [.nilFunc] := ⟨zeroC_of (z := .nilFunc) (by kernel_rfl) rfl⟩
instance : Scalar Tryz.prog 1 := ⟨_, Tryz.underlying1, rfl⟩
instance : Sz Tryz.prog 2 (.int .i64 0) 1 8 := ⟨by kernel_rfl⟩
instance : ZeroC Tryz.prog 2 [.int .i64 0] := ⟨zeroC_of (z := .int .i64 0) (by kernel_rfl) rfl⟩
instance : Scalar Tryz.prog 2 := ⟨_, Tryz.underlying2, rfl⟩
instance : Sz Tryz.prog 3 (.int .i64 0) 1 8 := ⟨by kernel_rfl⟩
instance : ZeroC Tryz.prog 3 [.int .i64 0] := ⟨zeroC_of (z := .int .i64 0) (by kernel_rfl) rfl⟩
instance : Scalar Tryz.prog 3 := ⟨_, Tryz.underlying3, rfl⟩
instance : Sz Tryz.prog 4 (.bool false) 1 1 := ⟨by kernel_rfl⟩
instance : ZeroC Tryz.prog 4 [.bool false] := ⟨zeroC_of (z := .bool false) (by kernel_rfl) rfl⟩
instance : Scalar Tryz.prog 4 := ⟨_, Tryz.underlying4, rfl⟩
instance : BoolT Tryz.prog 4 := ⟨Tryz.underlying4⟩
instance : Sz Tryz.prog 5 (.int .u8 0) 1 1 := ⟨by kernel_rfl⟩
instance : ZeroC Tryz.prog 5 [.int .u8 0] := ⟨zeroC_of (z := .int .u8 0) (by kernel_rfl) rfl⟩
instance : Scalar Tryz.prog 5 := ⟨_, Tryz.underlying5, rfl⟩
instance : Sz Tryz.prog 6 (.int .u8 0) 1 1 := ⟨by kernel_rfl⟩
instance : ZeroC Tryz.prog 6 [.int .u8 0] := ⟨zeroC_of (z := .int .u8 0) (by kernel_rfl) rfl⟩
instance : Scalar Tryz.prog 6 := ⟨_, Tryz.underlying6, rfl⟩
instance : Sz Tryz.prog 7 (.agg #[.int .i64 0, .int .i64 0, .bool false, .int .u8 0]) 4 24 := ⟨by kernel_rfl⟩
instance : ZeroC Tryz.prog 7 [.int .i64 0, .int .i64 0, .bool false, .int .u8 0] := ⟨zeroC_of (z := .agg #[.int .i64 0, .int .i64 0, .bool false, .int .u8 0]) (by kernel_rfl) rfl⟩
instance : Parts Tryz.prog 7 [(0, 1), (1, 1), (2, 1), (3, 1)] := ⟨.inl ⟨_, Tryz.underlying7, by kernel_rfl, by kernel_rfl⟩⟩
instance : Aggr Tryz.prog 7 4 := ⟨⟨_, Tryz.underlying7, rfl⟩, by kernel_rfl⟩
instance : Fld Tryz.prog 7 0 0 := ⟨fld_of (by kernel_rfl)⟩
instance : Fld Tryz.prog 7 1 1 := ⟨fld_of (by kernel_rfl)⟩
instance : Fld Tryz.prog 7 2 2 := ⟨fld_of (by kernel_rfl)⟩
instance : Fld Tryz.prog 7 3 3 := ⟨fld_of (by kernel_rfl)⟩
instance : Sz Tryz.prog 8 (.agg #[.int .i64 0, .int .i64 0, .bool false, .int .u8 0]) 4 24 := ⟨by kernel_rfl⟩
instance : ZeroC Tryz.prog 8 [.int .i64 0, .int .i64 0, .bool false, .int .u8 0] := ⟨zeroC_of (z := .agg #[.int .i64 0, .int .i64 0, .bool false, .int .u8 0]) (by kernel_rfl) rfl⟩
instance : Parts Tryz.prog 8 [(0, 1), (1, 1), (2, 1), (3, 1)] := ⟨.inl ⟨_, Tryz.underlying8, by kernel_rfl, by kernel_rfl⟩⟩
instance : Aggr Tryz.prog 8 4 := ⟨⟨_, Tryz.underlying8, rfl⟩, by kernel_rfl⟩
instance : Fld Tryz.prog 8 0 0 := ⟨fld_of (by kernel_rfl)⟩
instance : Fld Tryz.prog 8 1 1 := ⟨fld_of (by kernel_rfl)⟩
instance : Fld Tryz.prog 8 2 2 := ⟨fld_of (by kernel_rfl)⟩
instance : Fld Tryz.prog 8 3 3 := ⟨fld_of (by kernel_rfl)⟩
instance : Sz Tryz.prog 9 (.string ⟨#[]⟩) 1 16 := ⟨by kernel_rfl⟩
instance : ZeroC Tryz.prog 9 [.string ⟨#[]⟩] := ⟨zeroC_of (z := .string ⟨#[]⟩) (by kernel_rfl) rfl⟩
instance : Scalar Tryz.prog 9 := ⟨_, Tryz.underlying9, rfl⟩
instance : StrT Tryz.prog 9 := ⟨Tryz.underlying9⟩
instance : Sz Tryz.prog 10 (.string ⟨#[]⟩) 1 16 := ⟨by kernel_rfl⟩
instance : ZeroC Tryz.prog 10 [.string ⟨#[]⟩] := ⟨zeroC_of (z := .string ⟨#[]⟩) (by kernel_rfl) rfl⟩
instance : Scalar Tryz.prog 10 := ⟨_, Tryz.underlying10, rfl⟩
instance : StrT Tryz.prog 10 := ⟨Tryz.underlying10⟩
instance : Sz Tryz.prog 11 (.string ⟨#[]⟩) 1 16 := ⟨by kernel_rfl⟩
instance : ZeroC Tryz.prog 11 [.string ⟨#[]⟩] := ⟨zeroC_of (z := .string ⟨#[]⟩) (by kernel_rfl) rfl⟩
instance : Scalar Tryz.prog 11 := ⟨_, Tryz.underlying11, rfl⟩
instance : StrT Tryz.prog 11 := ⟨Tryz.underlying11⟩
instance : Sz Tryz.prog 12 (.int .u64 0) 1 8 := ⟨by kernel_rfl⟩
instance : ZeroC Tryz.prog 12 [.int .u64 0] := ⟨zeroC_of (z := .int .u64 0) (by kernel_rfl) rfl⟩
instance : Scalar Tryz.prog 12 := ⟨_, Tryz.underlying12, rfl⟩
instance : Sz Tryz.prog 13 (.agg #[.string ⟨#[]⟩, .int .u64 0]) 2 24 := ⟨by kernel_rfl⟩
instance : ZeroC Tryz.prog 13 [.string ⟨#[]⟩, .int .u64 0] := ⟨zeroC_of (z := .agg #[.string ⟨#[]⟩, .int .u64 0]) (by kernel_rfl) rfl⟩
instance : Parts Tryz.prog 13 [(0, 1), (1, 1)] := ⟨.inl ⟨_, Tryz.underlying13, by kernel_rfl, by kernel_rfl⟩⟩
instance : Aggr Tryz.prog 13 2 := ⟨⟨_, Tryz.underlying13, rfl⟩, by kernel_rfl⟩
instance : Fld Tryz.prog 13 0 0 := ⟨fld_of (by kernel_rfl)⟩
instance : Fld Tryz.prog 13 1 1 := ⟨fld_of (by kernel_rfl)⟩
instance : Sz Tryz.prog 17 (.pointer none) 1 8 := ⟨by kernel_rfl⟩
instance : ZeroC Tryz.prog 17 [.pointer none] := ⟨zeroC_of (z := .pointer none) (by kernel_rfl) rfl⟩
instance : Scalar Tryz.prog 17 := ⟨_, Tryz.underlying17, rfl⟩
instance : Sz Tryz.prog 18 (.agg #[.pointer none]) 1 8 := ⟨by kernel_rfl⟩
instance : ZeroC Tryz.prog 18 [.pointer none] := ⟨zeroC_of (z := .agg #[.pointer none]) (by kernel_rfl) rfl⟩
instance : Parts Tryz.prog 18 [(0, 1)] := ⟨.inl ⟨_, Tryz.underlying18, by kernel_rfl, by kernel_rfl⟩⟩
instance : Aggr Tryz.prog 18 1 := ⟨⟨_, Tryz.underlying18, rfl⟩, by kernel_rfl⟩
instance : Fld Tryz.prog 18 0 0 := ⟨fld_of (by kernel_rfl)⟩
instance : Sz Tryz.prog 19 (.agg #[.pointer none]) 1 8 := ⟨by kernel_rfl⟩
instance : ZeroC Tryz.prog 19 [.pointer none] := ⟨zeroC_of (z := .agg #[.pointer none]) (by kernel_rfl) rfl⟩
instance : Parts Tryz.prog 19 [(0, 1)] := ⟨.inl ⟨_, Tryz.underlying19, by kernel_rfl, by kernel_rfl⟩⟩
instance : Aggr Tryz.prog 19 1 := ⟨⟨_, Tryz.underlying19, rfl⟩, by kernel_rfl⟩
instance : Fld Tryz.prog 19 0 0 := ⟨fld_of (by kernel_rfl)⟩
instance : Sz Tryz.prog 20 (.nilIface) 1 16 := ⟨by kernel_rfl⟩
instance : ZeroC Tryz.prog 20 [.nilIface] := ⟨zeroC_of (z := .nilIface) (by kernel_rfl) rfl⟩
instance : Scalar Tryz.prog 20 := ⟨_, Tryz.underlying20, rfl⟩
instance : Sz Tryz.prog 21 (.int .i32 0) 1 4 := ⟨by kernel_rfl⟩
instance : ZeroC Tryz.prog 21 [.int .i32 0] := ⟨zeroC_of (z := .int .i32 0) (by kernel_rfl) rfl⟩
instance : Scalar Tryz.prog 21 := ⟨_, Tryz.underlying21, rfl⟩
instance : Sz Tryz.prog 22 (.agg #[.int .i64 0, .int .i64 0, .int .i64 0, .int .i64 0, .bool false, .int .i64 0, .int .i64 0]) 7 56 := ⟨by kernel_rfl⟩
instance : ZeroC Tryz.prog 22 [.int .i64 0, .int .i64 0, .int .i64 0, .int .i64 0, .bool false, .int .i64 0, .int .i64 0] := ⟨zeroC_of (z := .agg #[.int .i64 0, .int .i64 0, .int .i64 0, .int .i64 0, .bool false, .int .i64 0, .int .i64 0]) (by kernel_rfl) rfl⟩
instance : Parts Tryz.prog 22 [(0, 1), (1, 1), (2, 1), (3, 1), (4, 1), (5, 1), (6, 1)] := ⟨.inl ⟨_, Tryz.underlying22, by kernel_rfl, by kernel_rfl⟩⟩
instance : Aggr Tryz.prog 22 7 := ⟨⟨_, Tryz.underlying22, rfl⟩, by kernel_rfl⟩
instance : Fld Tryz.prog 22 0 0 := ⟨fld_of (by kernel_rfl)⟩
instance : Fld Tryz.prog 22 1 1 := ⟨fld_of (by kernel_rfl)⟩
instance : Fld Tryz.prog 22 2 2 := ⟨fld_of (by kernel_rfl)⟩
instance : Fld Tryz.prog 22 3 3 := ⟨fld_of (by kernel_rfl)⟩
instance : Fld Tryz.prog 22 4 4 := ⟨fld_of (by kernel_rfl)⟩
instance : Fld Tryz.prog 22 5 5 := ⟨fld_of (by kernel_rfl)⟩
instance : Fld Tryz.prog 22 6 6 := ⟨fld_of (by kernel_rfl)⟩
instance : Sz Tryz.prog 23 (.agg #[.int .i64 0, .int .i64 0, .int .i64 0, .int .i64 0, .bool false, .int .i64 0, .int .i64 0]) 7 56 := ⟨by kernel_rfl⟩
instance : ZeroC Tryz.prog 23 [.int .i64 0, .int .i64 0, .int .i64 0, .int .i64 0, .bool false, .int .i64 0, .int .i64 0] := ⟨zeroC_of (z := .agg #[.int .i64 0, .int .i64 0, .int .i64 0, .int .i64 0, .bool false, .int .i64 0, .int .i64 0]) (by kernel_rfl) rfl⟩
instance : Parts Tryz.prog 23 [(0, 1), (1, 1), (2, 1), (3, 1), (4, 1), (5, 1), (6, 1)] := ⟨.inl ⟨_, Tryz.underlying23, by kernel_rfl, by kernel_rfl⟩⟩
instance : Aggr Tryz.prog 23 7 := ⟨⟨_, Tryz.underlying23, rfl⟩, by kernel_rfl⟩
instance : Fld Tryz.prog 23 0 0 := ⟨fld_of (by kernel_rfl)⟩
instance : Fld Tryz.prog 23 1 1 := ⟨fld_of (by kernel_rfl)⟩
instance : Fld Tryz.prog 23 2 2 := ⟨fld_of (by kernel_rfl)⟩
instance : Fld Tryz.prog 23 3 3 := ⟨fld_of (by kernel_rfl)⟩
instance : Fld Tryz.prog 23 4 4 := ⟨fld_of (by kernel_rfl)⟩
instance : Fld Tryz.prog 23 5 5 := ⟨fld_of (by kernel_rfl)⟩
instance : Fld Tryz.prog 23 6 6 := ⟨fld_of (by kernel_rfl)⟩
instance : Sz Tryz.prog 24 (.slice none 0 0) 1 24 := ⟨by kernel_rfl⟩
instance : ZeroC Tryz.prog 24 [.slice none 0 0] := ⟨zeroC_of (z := .slice none 0 0) (by kernel_rfl) rfl⟩
instance : Scalar Tryz.prog 24 := ⟨_, Tryz.underlying24, rfl⟩
instance : SliceT Tryz.prog 24 3 := ⟨Tryz.underlying24⟩
instance : Sz Tryz.prog 25 (.agg #[.int .i64 0, .slice none 0 0]) 2 32 := ⟨by kernel_rfl⟩
instance : ZeroC Tryz.prog 25 [.int .i64 0, .slice none 0 0] := ⟨zeroC_of (z := .agg #[.int .i64 0, .slice none 0 0]) (by kernel_rfl) rfl⟩
instance : Parts Tryz.prog 25 [(0, 1), (1, 1)] := ⟨.inl ⟨_, Tryz.underlying25, by kernel_rfl, by kernel_rfl⟩⟩
instance : Aggr Tryz.prog 25 2 := ⟨⟨_, Tryz.underlying25, rfl⟩, by kernel_rfl⟩
instance : Fld Tryz.prog 25 0 0 := ⟨fld_of (by kernel_rfl)⟩
instance : Fld Tryz.prog 25 1 1 := ⟨fld_of (by kernel_rfl)⟩
instance : Sz Tryz.prog 26 (.agg #[.int .i64 0, .slice none 0 0]) 2 32 := ⟨by kernel_rfl⟩
instance : ZeroC Tryz.prog 26 [.int .i64 0, .slice none 0 0] := ⟨zeroC_of (z := .agg #[.int .i64 0, .slice none 0 0]) (by kernel_rfl) rfl⟩
instance : Parts Tryz.prog 26 [(0, 1), (1, 1)] := ⟨.inl ⟨_, Tryz.underlying26, by kernel_rfl, by kernel_rfl⟩⟩
instance : Aggr Tryz.prog 26 2 := ⟨⟨_, Tryz.underlying26, rfl⟩, by kernel_rfl⟩
instance : Fld Tryz.prog 26 0 0 := ⟨fld_of (by kernel_rfl)⟩
instance : Fld Tryz.prog 26 1 1 := ⟨fld_of (by kernel_rfl)⟩
instance : Sz Tryz.prog 27 (.slice none 0 0) 1 24 := ⟨by kernel_rfl⟩
instance : ZeroC Tryz.prog 27 [.slice none 0 0] := ⟨zeroC_of (z := .slice none 0 0) (by kernel_rfl) rfl⟩
instance : Scalar Tryz.prog 27 := ⟨_, Tryz.underlying27, rfl⟩
instance : SliceT Tryz.prog 27 79 := ⟨Tryz.underlying27⟩
instance : Sz Tryz.prog 28 (.slice none 0 0) 1 24 := ⟨by kernel_rfl⟩
instance : ZeroC Tryz.prog 28 [.slice none 0 0] := ⟨zeroC_of (z := .slice none 0 0) (by kernel_rfl) rfl⟩
instance : Scalar Tryz.prog 28 := ⟨_, Tryz.underlying28, rfl⟩
instance : SliceT Tryz.prog 28 102 := ⟨Tryz.underlying28⟩
instance : Sz Tryz.prog 29 (.agg #[.int .i64 0, .int .i64 0, .int .i64 0, .int .i64 0, .bool false, .int .i64 0, .int .i64 0, .int .i64 0, .slice none 0 0, .slice none 0 0, .slice none 0 0, .int .i64 0]) 12 144 := ⟨by kernel_rfl⟩
instance : ZeroC Tryz.prog 29 [.int .i64 0, .int .i64 0, .int .i64 0, .int .i64 0, .bool false, .int .i64 0, .int .i64 0, .int .i64 0, .slice none 0 0, .slice none 0 0, .slice none 0 0, .int .i64 0] := ⟨zeroC_of (z := .agg #[.int .i64 0, .int .i64 0, .int .i64 0, .int .i64 0, .bool false, .int .i64 0, .int .i64 0, .int .i64 0, .slice none 0 0, .slice none 0 0, .slice none 0 0, .int .i64 0]) (by kernel_rfl) rfl⟩
instance : Parts Tryz.prog 29 [(0, 7), (7, 2), (9, 1), (10, 1), (11, 1)] := ⟨.inl ⟨_, Tryz.underlying29, by kernel_rfl, by kernel_rfl⟩⟩
instance : Aggr Tryz.prog 29 12 := ⟨⟨_, Tryz.underlying29, rfl⟩, by kernel_rfl⟩
instance : Fld Tryz.prog 29 0 0 := ⟨fld_of (by kernel_rfl)⟩
instance : Fld Tryz.prog 29 1 7 := ⟨fld_of (by kernel_rfl)⟩
instance : Fld Tryz.prog 29 2 9 := ⟨fld_of (by kernel_rfl)⟩
instance : Fld Tryz.prog 29 3 10 := ⟨fld_of (by kernel_rfl)⟩
instance : Fld Tryz.prog 29 4 11 := ⟨fld_of (by kernel_rfl)⟩
instance : Sz Tryz.prog 30 (.agg #[.int .i64 0, .int .i64 0, .int .i64 0, .int .i64 0, .bool false, .int .i64 0, .int .i64 0, .int .i64 0, .slice none 0 0, .slice none 0 0, .slice none 0 0, .int .i64 0]) 12 144 := ⟨by kernel_rfl⟩
instance : ZeroC Tryz.prog 30 [.int .i64 0, .int .i64 0, .int .i64 0, .int .i64 0, .bool false, .int .i64 0, .int .i64 0, .int .i64 0, .slice none 0 0, .slice none 0 0, .slice none 0 0, .int .i64 0] := ⟨zeroC_of (z := .agg #[.int .i64 0, .int .i64 0, .int .i64 0, .int .i64 0, .bool false, .int .i64 0, .int .i64 0, .int .i64 0, .slice none 0 0, .slice none 0 0, .slice none 0 0, .int .i64 0]) (by kernel_rfl) rfl⟩
instance : Parts Tryz.prog 30 [(0, 7), (7, 2), (9, 1), (10, 1), (11, 1)] := ⟨.inl ⟨_, Tryz.underlying30, by kernel_rfl, by kernel_rfl⟩⟩
instance : Aggr Tryz.prog 30 12 := ⟨⟨_, Tryz.underlying30, rfl⟩, by kernel_rfl⟩
instance : Fld Tryz.prog 30 0 0 := ⟨fld_of (by kernel_rfl)⟩
instance : Fld Tryz.prog 30 1 7 := ⟨fld_of (by kernel_rfl)⟩
instance : Fld Tryz.prog 30 2 9 := ⟨fld_of (by kernel_rfl)⟩
instance : Fld Tryz.prog 30 3 10 := ⟨fld_of (by kernel_rfl)⟩
instance : Fld Tryz.prog 30 4 11 := ⟨fld_of (by kernel_rfl)⟩
instance : Sz Tryz.prog 32 (.nilFunc) 1 8 := ⟨by kernel_rfl⟩
instance : ZeroC Tryz.prog 32 [.nilFunc] := ⟨zeroC_of (z := .nilFunc) (by kernel_rfl) rfl⟩
instance : Scalar Tryz.prog 32 := ⟨_, Tryz.underlying32, rfl⟩
instance : Sz Tryz.prog 33 (.agg #[.int .i64 0, .int .i64 0, .int .i64 0, .int .i64 0, .bool false, .int .i64 0, .int .i64 0]) 7 56 := ⟨by kernel_rfl⟩
instance : ZeroC Tryz.prog 33 [.int .i64 0, .int .i64 0, .int .i64 0, .int .i64 0, .bool false, .int .i64 0, .int .i64 0] := ⟨zeroC_of (z := .agg #[.int .i64 0, .int .i64 0, .int .i64 0, .int .i64 0, .bool false, .int .i64 0, .int .i64 0]) (by kernel_rfl) rfl⟩
instance : Parts Tryz.prog 33 [(0, 1), (1, 1), (2, 1), (3, 1), (4, 1), (5, 1), (6, 1)] := ⟨.inl ⟨_, Tryz.underlying33, by kernel_rfl, by kernel_rfl⟩⟩
instance : Aggr Tryz.prog 33 7 := ⟨⟨_, Tryz.underlying33, rfl⟩, by kernel_rfl⟩
instance : Fld Tryz.prog 33 0 0 := ⟨fld_of (by kernel_rfl)⟩
instance : Fld Tryz.prog 33 1 1 := ⟨fld_of (by kernel_rfl)⟩
instance : Fld Tryz.prog 33 2 2 := ⟨fld_of (by kernel_rfl)⟩
instance : Fld Tryz.prog 33 3 3 := ⟨fld_of (by kernel_rfl)⟩
instance : Fld Tryz.prog 33 4 4 := ⟨fld_of (by kernel_rfl)⟩
instance : Fld Tryz.prog 33 5 5 := ⟨fld_of (by kernel_rfl)⟩
instance : Fld Tryz.prog 33 6 6 := ⟨fld_of (by kernel_rfl)⟩
instance : Sz Tryz.prog 34 (.agg #[.int .i64 0, .slice none 0 0]) 2 32 := ⟨by kernel_rfl⟩
instance : ZeroC Tryz.prog 34 [.int .i64 0, .slice none 0 0] := ⟨zeroC_of (z := .agg #[.int .i64 0, .slice none 0 0]) (by kernel_rfl) rfl⟩
instance : Parts Tryz.prog 34 [(0, 1), (1, 1)] := ⟨.inl ⟨_, Tryz.underlying34, by kernel_rfl, by kernel_rfl⟩⟩
instance : Aggr Tryz.prog 34 2 := ⟨⟨_, Tryz.underlying34, rfl⟩, by kernel_rfl⟩
instance : Fld Tryz.prog 34 0 0 := ⟨fld_of (by kernel_rfl)⟩
instance : Fld Tryz.prog 34 1 1 := ⟨fld_of (by kernel_rfl)⟩
instance : Sz Tryz.prog 35 (.slice none 0 0) 1 24 := ⟨by kernel_rfl⟩
instance : ZeroC Tryz.prog 35 [.slice none 0 0] := ⟨zeroC_of (z := .slice none 0 0) (by kernel_rfl) rfl⟩
instance : Scalar Tryz.prog 35 := ⟨_, Tryz.underlying35, rfl⟩
instance : SliceT Tryz.prog 35 53 := ⟨Tryz.underlying35⟩
instance : Sz Tryz.prog 36 (.slice none 0 0) 1 24 := ⟨by kernel_rfl⟩
instance : ZeroC Tryz.prog 36 [.slice none 0 0] := ⟨zeroC_of (z := .slice none 0 0) (by kernel_rfl) rfl⟩
instance : Scalar Tryz.prog 36 := ⟨_, Tryz.underlying36, rfl⟩
instance : SliceT Tryz.prog 36 62 := ⟨Tryz.underlying36⟩
instance : Sz Tryz.prog 37 (.agg #[.int .i64 0, .int .i64 0, .int .i64 0, .int .i64 0, .bool false, .int .i64 0, .int .i64 0, .int .i64 0, .slice none 0 0, .slice none 0 0, .slice none 0 0, .int .i64 0]) 12 144 := ⟨by kernel_rfl⟩
instance : ZeroC Tryz.prog 37 [.int .i64 0, .int .i64 0, .int .i64 0, .int .i64 0, .bool false, .int .i64 0, .int .i64 0, .int .i64 0, .slice none 0 0, .slice none 0 0, .slice none 0 0, .int .i64 0] := ⟨zeroC_of (z := .agg #[.int .i64 0, .int .i64 0, .int .i64 0, .int .i64 0, .bool false, .int .i64 0, .int .i64 0, .int .i64 0, .slice none 0 0, .slice none 0 0, .slice none 0 0, .int .i64 0]) (by kernel_rfl) rfl⟩
instance : Parts Tryz.prog 37 [(0, 7), (7, 2), (9, 1), (10, 1), (11, 1)] := ⟨.inl ⟨_, Tryz.underlying37, by kernel_rfl, by kernel_rfl⟩⟩
instance : Aggr Tryz.prog 37 12 := ⟨⟨_, Tryz.underlying37, rfl⟩, by kernel_rfl⟩
instance : Fld Tryz.prog 37 0 0 := ⟨fld_of (by kernel_rfl)⟩
instance : Fld Tryz.prog 37 1 7 := ⟨fld_of (by kernel_rfl)⟩
instance : Fld Tryz.prog 37 2 9 := ⟨fld_of (by kernel_rfl)⟩
instance : Fld Tryz.prog 37 3 10 := ⟨fld_of (by kernel_rfl)⟩
instance : Fld Tryz.prog 37 4 11 := ⟨fld_of (by kernel_rfl)⟩
instance : Sz Tryz.prog 38 (.agg #[.int .i64 0, .int .i64 0, .int .i64 0, .int .i64 0, .bool false, .int .i64 0, .int .i64 0, .int .i64 0, .slice none 0 0, .slice none 0 0, .slice none 0 0, .int .i64 0]) 12 144 := ⟨by kernel_rfl⟩
instance : ZeroC Tryz.prog 38 [.int .i64 0, .int .i64 0, .int .i64 0, .int .i64 0, .bool false, .int .i64 0, .int .i64 0, .int .i64 0, .slice none 0 0, .slice none 0 0, .slice none 0 0, .int .i64 0] := ⟨zeroC_of (z := .agg #[.int .i64 0, .int .i64 0, .int .i64 0, .int .i64 0, .bool false, .int .i64 0, .int .i64 0, .int .i64 0, .slice none 0 0, .slice none 0 0, .slice none 0 0, .int .i64 0]) (by kernel_rfl) rfl⟩
instance : Parts Tryz.prog 38 [(0, 7), (7, 2), (9, 1), (10, 1), (11, 1)] := ⟨.inl ⟨_, Tryz.underlying38, by kernel_rfl, by kernel_rfl⟩⟩
instance : Aggr Tryz.prog 38 12 := ⟨⟨_, Tryz.underlying38, rfl⟩, by kernel_rfl⟩
instance : Fld Tryz.prog 38 0 0 := ⟨fld_of (by kernel_rfl)⟩
instance : Fld Tryz.prog 38 1 7 := ⟨fld_of (by kernel_rfl)⟩
instance : Fld Tryz.prog 38 2 9 := ⟨fld_of (by kernel_rfl)⟩
instance : Fld Tryz.prog 38 3 10 := ⟨fld_of (by kernel_rfl)⟩
instance : Fld Tryz.prog 38 4 11 := ⟨fld_of (by kernel_rfl)⟩
instance : Sz Tryz.prog 40 (.nilFunc) 1 8 := ⟨by kernel_rfl⟩
instance : ZeroC Tryz.prog 40 [.nilFunc] := ⟨zeroC_of (z := .nilFunc) (by kernel_rfl) rfl⟩
instance : Scalar Tryz.prog 40 := ⟨_, Tryz.underlying40, rfl⟩
instance : Sz Tryz.prog 41 (.nilFunc) 1 8 := ⟨by kernel_rfl⟩
instance : ZeroC Tryz.prog 41 [.nilFunc] := ⟨zeroC_of (z := .nilFunc) (by kernel_rfl) rfl⟩
instance : Scalar Tryz.prog 41 := ⟨_, Tryz.underlying41, rfl⟩
instance : Sz Tryz.prog 42 (.nilFunc) 1 8 := ⟨by kernel_rfl⟩
instance : ZeroC Tryz.prog 42 [.nilFunc] := ⟨zeroC_of (z := .nilFunc) (by kernel_rfl) rfl⟩
instance : Scalar Tryz.prog 42 := ⟨_, Tryz.underlying42, rfl⟩
instance : Sz Tryz.prog 43 (.nilFunc) 1 8 := ⟨by kernel_rfl⟩
instance : ZeroC Tryz.prog 43 [.nilFunc] := ⟨zeroC_of (z := .nilFunc) (by kernel_rfl) rfl⟩
instance : Scalar Tryz.prog 43 := ⟨_, Tryz.underlying43, rfl⟩
instance : Sz Tryz.prog 44 (.nilFunc) 1 8 := ⟨by kernel_rfl⟩
instance : ZeroC Tryz.prog 44 [.nilFunc] := ⟨zeroC_of (z := .nilFunc) (by kernel_rfl) rfl⟩
instance : Scalar Tryz.prog 44 := ⟨_, Tryz.underlying44, rfl⟩
instance : Sz Tryz.prog 45 (.nilFunc) 1 8 := ⟨by kernel_rfl⟩
instance : ZeroC Tryz.prog 45 [.nilFunc] := ⟨zeroC_of (z := .nilFunc) (by kernel_rfl) rfl⟩
instance : Scalar Tryz.prog 45 := ⟨_, Tryz.underlying45, rfl⟩
instance : Sz Tryz.prog 46 (.nilFunc) 1 8 := ⟨by kernel_rfl⟩
instance : ZeroC Tryz.prog 46 [.nilFunc] := ⟨zeroC_of (z := .nilFunc) (by kernel_rfl) rfl⟩
instance : Scalar Tryz.prog 46 := ⟨_, Tryz.underlying46, rfl⟩
instance : Sz Tryz.prog 47 (.nilFunc) 1 8 := ⟨by kernel_rfl⟩
instance : ZeroC Tryz.prog 47 [.nilFunc] := ⟨zeroC_of (z := .nilFunc) (by kernel_rfl) rfl⟩
instance : Scalar Tryz.prog 47 := ⟨_, Tryz.underlying47, rfl⟩
instance : Sz Tryz.prog 48 (.nilFunc) 1 8 := ⟨by kernel_rfl⟩
instance : ZeroC Tryz.prog 48 [.nilFunc] := ⟨zeroC_of (z := .nilFunc) (by kernel_rfl) rfl⟩
instance : Scalar Tryz.prog 48 := ⟨_, Tryz.underlying48, rfl⟩
instance : Sz Tryz.prog 49 (.slice none 0 0) 1 24 := ⟨by kernel_rfl⟩
instance : ZeroC Tryz.prog 49 [.slice none 0 0] := ⟨zeroC_of (z := .slice none 0 0) (by kernel_rfl) rfl⟩
instance : Scalar Tryz.prog 49 := ⟨_, Tryz.underlying49, rfl⟩
instance : SliceT Tryz.prog 49 9 := ⟨Tryz.underlying49⟩
instance : Sz Tryz.prog 50 (.slice none 0 0) 1 24 := ⟨by kernel_rfl⟩
instance : ZeroC Tryz.prog 50 [.slice none 0 0] := ⟨zeroC_of (z := .slice none 0 0) (by kernel_rfl) rfl⟩
instance : Scalar Tryz.prog 50 := ⟨_, Tryz.underlying50, rfl⟩
instance : SliceT Tryz.prog 50 121 := ⟨Tryz.underlying50⟩
instance : Sz Tryz.prog 51 (.slice none 0 0) 1 24 := ⟨by kernel_rfl⟩
instance : ZeroC Tryz.prog 51 [.slice none 0 0] := ⟨zeroC_of (z := .slice none 0 0) (by kernel_rfl) rfl⟩
instance : Scalar Tryz.prog 51 := ⟨_, Tryz.underlying51, rfl⟩
instance : SliceT Tryz.prog 51 90 := ⟨Tryz.underlying51⟩
instance : Sz Tryz.prog 52 (.agg #[.slice none 0 0, .slice none 0 0]) 2 48 := ⟨by kernel_rfl⟩
instance : ZeroC Tryz.prog 52 [.slice none 0 0, .slice none 0 0] := ⟨zeroC_of (z := .agg #[.slice none 0 0, .slice none 0 0]) (by kernel_rfl) rfl⟩
instance : Parts Tryz.prog 52 [(0, 1), (1, 1)] := ⟨.inl ⟨_, Tryz.underlying52, by kernel_rfl, by kernel_rfl⟩⟩
instance : Aggr Tryz.prog 52 2 := ⟨⟨_, Tryz.underlying52, rfl⟩, by kernel_rfl⟩
instance : Fld Tryz.prog 52 0 0 := ⟨fld_of (by kernel_rfl)⟩
instance : Fld Tryz.prog 52 1 1 := ⟨fld_of (by kernel_rfl)⟩
instance : Sz Tryz.prog 53 (.agg #[.slice none 0 0, .slice none 0 0]) 2 48 := ⟨by kernel_rfl⟩
instance : ZeroC Tryz.prog 53 [.slice none 0 0, .slice none 0 0] := ⟨zeroC_of (z := .agg #[.slice none 0 0, .slice none 0 0]) (by kernel_rfl) rfl⟩
instance : Parts Tryz.prog 53 [(0, 1), (1, 1)] := ⟨.inl ⟨_, Tryz.underlying53, by kernel_rfl, by kernel_rfl⟩⟩
instance : Aggr Tryz.prog 53 2 := ⟨⟨_, Tryz.underlying53, rfl⟩, by kernel_rfl⟩
instance : Fld Tryz.prog 53 0 0 := ⟨fld_of (by kernel_rfl)⟩
instance : Fld Tryz.prog 53 1 1 := ⟨fld_of (by kernel_rfl)⟩
instance : Sz Tryz.prog 54 (.nilFunc) 1 8 := ⟨by kernel_rfl⟩
instance : ZeroC Tryz.prog 54 [.nilFunc] := ⟨zeroC_of (z := .nilFunc) (by kernel_rfl) rfl⟩
instance : Scalar Tryz.prog 54 := ⟨_, Tryz.underlying54, rfl⟩
instance : Sz Tryz.prog 55 (.nilFunc) 1 8 := ⟨by kernel_rfl⟩
instance : ZeroC Tryz.prog 55 [.nilFunc] := ⟨zeroC_of (z := .nilFunc) (by kernel_rfl) rfl⟩
instance : Scalar Tryz.prog 55 := ⟨_, Tryz.underlying55, rfl⟩
instance : Sz Tryz.prog 56 (.agg #[.int .i64 0, .int .i64 0, .int .i64 0]) 3 24 := ⟨by kernel_rfl⟩
instance : ZeroC Tryz.prog 56 [.int .i64 0, .int .i64 0, .int .i64 0] := ⟨zeroC_of (z := .agg #[.int .i64 0, .int .i64 0, .int .i64 0]) (by kernel_rfl) rfl⟩
instance : Parts Tryz.prog 56 [(0, 1), (1, 1), (2, 1)] := ⟨.inl ⟨_, Tryz.underlying56, by kernel_rfl, by kernel_rfl⟩⟩
instance : Aggr Tryz.prog 56 3 := ⟨⟨_, Tryz.underlying56, rfl⟩, by kernel_rfl⟩
instance : Fld Tryz.prog 56 0 0 := ⟨fld_of (by kernel_rfl)⟩
instance : Fld Tryz.prog 56 1 1 := ⟨fld_of (by kernel_rfl)⟩
instance : Fld Tryz.prog 56 2 2 := ⟨fld_of (by kernel_rfl)⟩
instance : Sz Tryz.prog 57 (.agg #[.int .i64 0, .int .i64 0, .int .i64 0]) 3 24 := ⟨by kernel_rfl⟩
instance : ZeroC Tryz.prog 57 [.int .i64 0, .int .i64 0, .int .i64 0] := ⟨zeroC_of (z := .agg #[.int .i64 0, .int .i64 0, .int .i64 0]) (by kernel_rfl) rfl⟩
instance : Parts Tryz.prog 57 [(0, 1), (1, 1), (2, 1)] := ⟨.inl ⟨_, Tryz.underlying57, by kernel_rfl, by kernel_rfl⟩⟩
instance : Aggr Tryz.prog 57 3 := ⟨⟨_, Tryz.underlying57, rfl⟩, by kernel_rfl⟩
instance : Fld Tryz.prog 57 0 0 := ⟨fld_of (by kernel_rfl)⟩
instance : Fld Tryz.prog 57 1 1 := ⟨fld_of (by kernel_rfl)⟩
instance : Fld Tryz.prog 57 2 2 := ⟨fld_of (by kernel_rfl)⟩
instance : Sz Tryz.prog 58 (.agg #[.int .i64 0, .int .i64 0, .int .i64 0, .int .i64 0, .int .i64 0, .int .i64 0, .int .i64 0, .int .i64 0, .int .i64 0, .int .i64 0, .int .i64 0, .int .i64 0]) 12 96 := ⟨by kernel_rfl⟩
instance : ZeroC Tryz.prog 58 [.int .i64 0, .int .i64 0, .int .i64 0, .int .i64 0, .int .i64 0, .int .i64 0, .int .i64 0, .int .i64 0, .int .i64 0, .int .i64 0, .int .i64 0, .int .i64 0] := ⟨zeroC_of (z := .agg #[.int .i64 0, .int .i64 0, .int .i64 0, .int .i64 0, .int .i64 0, .int .i64 0, .int .i64 0, .int .i64 0, .int .i64 0, .int .i64 0, .int .i64 0, .int .i64 0]) (by kernel_rfl) rfl⟩
instance : Parts Tryz.prog 58 [(0, 3), (3, 3), (6, 3), (9, 3)] := ⟨.inr ⟨_, _, Tryz.underlying58, by kernel_rfl, by kernel_rfl⟩⟩
instance : Aggr Tryz.prog 58 12 := ⟨⟨_, Tryz.underlying58, rfl⟩, by kernel_rfl⟩
instance : ArrT Tryz.prog 58 4 57 := ⟨Tryz.underlying58⟩
instance : Sz Tryz.prog 59 (.agg #[.int .i64 0, .int .i64 0, .int .i64 0, .int .i64 0, .int .i64 0, .int .i64 0, .int .i64 0, .int .i64 0, .int .i64 0, .int .i64 0, .int .i64 0, .int .i64 0]) 12 96 := ⟨by kernel_rfl⟩
instance : ZeroC Tryz.prog 59 [.int .i64 0, .int .i64 0, .int .i64 0, .int .i64 0, .int .i64 0, .int .i64 0, .int .i64 0, .int .i64 0, .int .i64 0, .int .i64 0, .int .i64 0, .int .i64 0] := ⟨zeroC_of (z := .agg #[.int .i64 0, .int .i64 0, .int .i64 0, .int .i64 0, .int .i64 0, .int .i64 0, .int .i64 0, .int .i64 0, .int .i64 0, .int .i64 0, .int .i64 0, .int .i64 0]) (by kernel_rfl) rfl⟩
instance : Parts Tryz.prog 59 [(0, 12)] := ⟨.inl ⟨_, Tryz.underlying59, by kernel_rfl, by kernel_rfl⟩⟩
instance : Aggr Tryz.prog 59 12 := ⟨⟨_, Tryz.underlying59, rfl⟩, by kernel_rfl⟩
instance : Fld Tryz.prog 59 0 0 := ⟨fld_of (by kernel_rfl)⟩
instance : Sz Tryz.prog 60 (.agg #[.int .i64 0, .int .i64 0, .int .i64 0, .int .i64 0, .int .i64 0, .int .i64 0, .int .i64 0, .int .i64 0, .int .i64 0, .int .i64 0, .int .i64 0, .int .i64 0]) 12 96 := ⟨by kernel_rfl⟩
instance : ZeroC Tryz.prog 60 [.int .i64 0, .int .i64 0, .int .i64 0, .int .i64 0, .int .i64 0, .int .i64 0, .int .i64 0, .int .i64 0, .int .i64 0, .int .i64 0, .int .i64 0, .int .i64 0] := ⟨zeroC_of (z := .agg #[.int .i64 0, .int .i64 0, .int .i64 0, .int .i64 0, .int .i64 0, .int .i64 0, .int .i64 0, .int .i64 0, .int .i64 0, .int .i64 0, .int .i64 0, .int .i64 0]) (by kernel_rfl) rfl⟩
instance : Parts Tryz.prog 60 [(0, 12)] := ⟨.inl ⟨_, Tryz.underlying60, by kernel_rfl, by kernel_rfl⟩⟩
instance : Aggr Tryz.prog 60 12 := ⟨⟨_, Tryz.underlying60, rfl⟩, by kernel_rfl⟩
instance : Fld Tryz.prog 60 0 0 := ⟨fld_of (by kernel_rfl)⟩
instance : Sz Tryz.prog 61 (.agg #[.int .i64 0, .int .i64 0, .int .i64 0, .int .i64 0, .int .i64 0, .int .i64 0, .int .i64 0, .int .i64 0, .int .i64 0, .int .i64 0, .int .i64 0, .int .i64 0, .int .i64 0, .int .i64 0, .int .i64 0, .int .i64 0, .int .i64 0, .int .i64 0, .int .i64 0, .int .i64 0, .int .i64 0, .int .i64 0, .int .i64 0, .int .i64 0, .int .i64 0, .int .i64 0]) 26 208 := ⟨by kernel_rfl⟩
instance : ZeroC Tryz.prog 61 [.int .i64 0, .int .i64 0, .int .i64 0, .int .i64 0, .int .i64 0, .int .i64 0, .int .i64 0, .int .i64 0, .int .i64 0, .int .i64 0, .int .i64 0, .int .i64 0, .int .i64 0, .int .i64 0, .int .i64 0, .int .i64 0, .int .i64 0, .int .i64 0, .int .i64 0, .int .i64 0, .int .i64 0, .int .i64 0, .int .i64 0, .int .i64 0, .int .i64 0, .int .i64 0] := ⟨zeroC_of (z := .agg #[.int .i64 0, .int .i64 0, .int .i64 0, .int .i64 0, .int .i64 0, .int .i64 0, .int .i64 0, .int .i64 0, .int .i64 0, .int .i64 0, .int .i64 0, .int .i64 0, .int .i64 0, .int .i64 0, .int .i64 0, .int .i64 0, .int .i64 0, .int .i64 0, .int .i64 0, .int .i64 0, .int .i64 0, .int .i64 0, .int .i64 0, .int .i64 0, .int .i64 0, .int .i64 0]) (by kernel_rfl) rfl⟩
instance : Parts Tryz.prog 61 [(0, 12), (12, 12), (24, 1), (25, 1)] := ⟨.inl ⟨_, Tryz.underlying61, by kernel_rfl, by kernel_rfl⟩⟩
instance : Aggr Tryz.prog 61 26 := ⟨⟨_, Tryz.underlying61, rfl⟩, by kernel_rfl⟩
instance : Fld Tryz.prog 61 0 0 := ⟨fld_of (by kernel_rfl)⟩
instance : Fld Tryz.prog 61 1 12 := ⟨fld_of (by kernel_rfl)⟩
instance : Fld Tryz.prog 61 2 24 := ⟨fld_of (by kernel_rfl)⟩
instance : Fld Tryz.prog 61 3 25 := ⟨fld_of (by kernel_rfl)⟩
instance : Sz Tryz.prog 62 (.agg #[.int .i64 0, .int .i64 0, .int .i64 0, .int .i64 0, .int .i64 0, .int .i64 0, .int .i64 0, .int .i64 0, .int .i64 0, .int .i64 0, .int .i64 0, .int .i64 0, .int .i64 0, .int .i64 0, .int .i64 0, .int .i64 0, .int .i64 0, .int .i64 0, .int .i64 0, .int .i64 0, .int .i64 0, .int .i64 0, .int .i64 0, .int .i64 0, .int .i64 0, .int .i64 0]) 26 208 := ⟨by kernel_rfl⟩
instance : ZeroC Tryz.prog 62 [.int .i64 0, .int .i64 0, .int .i64 0, .int .i64 0, .int .i64 0, .int .i64 0, .int .i64 0, .int .i64 0, .int .i64 0, .int .i64 0, .int .i64 0, .int .i64 0, .int .i64 0, .int .i64 0, .int .i64 0, .int .i64 0, .int .i64 0, .int .i64 0, .int .i64 0, .int .i64 0, .int .i64 0, .int .i64 0, .int .i64 0, .int .i64 0, .int .i64 0, .int .i64 0] := ⟨zeroC_of (z := .agg #[.int .i64 0, .int .i64 0, .int .i64 0, .int .i64 0, .int .i64 0, .int .i64 0, .int .i64 0, .int .i64 0, .int .i64 0, .int .i64 0, .int .i64 0, .int .i64 0, .int .i64 0, .int .i64 0, .int .i64 0, .int .i64 0, .int .i64 0, .int .i64 0, .int .i64 0, .int .i64 0, .int .i64 0, .int .i64 0, .int .i64 0, .int .i64 0, .int .i64 0, .int .i64 0]) (by kernel_rfl) rfl⟩
instance : Parts Tryz.prog 62 [(0, 12), (12, 12), (24, 1), (25, 1)] := ⟨.inl ⟨_, Tryz.underlying62, by kernel_rfl, by kernel_rfl⟩⟩
instance : Aggr Tryz.prog 62 26 := ⟨⟨_, Tryz.underlying62, rfl⟩, by kernel_rfl⟩
instance : Fld Tryz.prog 62 0 0 := ⟨fld_of (by kernel_rfl)⟩
instance : Fld Tryz.prog 62 1 12 := ⟨fld_of (by kernel_rfl)⟩
instance : Fld Tryz.prog 62 2 24 := ⟨fld_of (by kernel_rfl)⟩
instance : Fld Tryz.prog 62 3 25 := ⟨fld_of (by kernel_rfl)⟩
instance : Sz Tryz.prog 65 (.nilFunc) 1 8 := ⟨by kernel_rfl⟩
instance : ZeroC Tryz.prog 65 [.nilFunc] := ⟨zeroC_of (z := .nilFunc) (by kernel_rfl) rfl⟩
instance : Scalar Tryz.prog 65 := ⟨_, Tryz.underlying65, rfl⟩
instance : Sz Tryz.prog 66 (.nilFunc) 1 8 := ⟨by kernel_rfl⟩
instance : ZeroC Tryz.prog 66 [.nilFunc] := ⟨zeroC_of (z := .nilFunc) (by kernel_rfl) rfl⟩
instance : Scalar Tryz.prog 66 := ⟨_, Tryz.underlying66, rfl⟩
instance : Sz Tryz.prog 70 (.nilFunc) 1 8 := ⟨by kernel_rfl⟩
instance : ZeroC Tryz.prog 70 [.nilFunc] := ⟨zeroC_of (z := .nilFunc) (by kernel_rfl) rfl⟩
instance : Scalar Tryz.prog 70 := ⟨_, Tryz.underlying70, rfl⟩
instance : Sz Tryz.prog 71 (.nilFunc) 1 8 := ⟨by kernel_rfl⟩
instance : ZeroC Tryz.prog 71 [.nilFunc] := ⟨zeroC_of (z := .nilFunc) (by kernel_rfl) rfl⟩
instance : Scalar Tryz.prog 71 := ⟨_, Tryz.underlying71, rfl⟩
instance : Sz Tryz.prog 73 (.nilFunc) 1 8 := ⟨by kernel_rfl⟩
instance : ZeroC Tryz.prog 73 [.nilFunc] := ⟨zeroC_of (z := .nilFunc) (by kernel_rfl) rfl⟩
instance : Scalar Tryz.prog 73 := ⟨_, Tryz.underlying73, rfl⟩
instance : Sz Tryz.prog 74 (.nilFunc) 1 8 := ⟨by kernel_rfl⟩
instance : ZeroC Tryz.prog 74 [.nilFunc] := ⟨zeroC_of (z := .nilFunc) (by kernel_rfl) rfl⟩
instance : Scalar Tryz.prog 74 := ⟨_, Tryz.underlying74, rfl⟩
instance : Sz Tryz.prog 76 (.slice none 0 0) 1 24 := ⟨by kernel_rfl⟩
instance : ZeroC Tryz.prog 76 [.slice none 0 0] := ⟨zeroC_of (z := .slice none 0 0) (by kernel_rfl) rfl⟩
instance : Scalar Tryz.prog 76 := ⟨_, Tryz.underlying76, rfl⟩
instance : SliceT Tryz.prog 76 144 := ⟨Tryz.underlying76⟩
instance : Sz Tryz.prog 77 (.slice none 0 0) 1 24 := ⟨by kernel_rfl⟩
instance : ZeroC Tryz.prog 77 [.slice none 0 0] := ⟨zeroC_of (z := .slice none 0 0) (by kernel_rfl) rfl⟩
instance : Scalar Tryz.prog 77 := ⟨_, Tryz.underlying77, rfl⟩
instance : SliceT Tryz.prog 77 146 := ⟨Tryz.underlying77⟩
instance : Sz Tryz.prog 78 (.agg #[.slice none 0 0, .slice none 0 0]) 2 48 := ⟨by kernel_rfl⟩
instance : ZeroC Tryz.prog 78 [.slice none 0 0, .slice none 0 0] := ⟨zeroC_of (z := .agg #[.slice none 0 0, .slice none 0 0]) (by kernel_rfl) rfl⟩
instance : Parts Tryz.prog 78 [(0, 1), (1, 1)] := ⟨.inl ⟨_, Tryz.underlying78, by kernel_rfl, by kernel_rfl⟩⟩
instance : Aggr Tryz.prog 78 2 := ⟨⟨_, Tryz.underlying78, rfl⟩, by kernel_rfl⟩
instance : Fld Tryz.prog 78 0 0 := ⟨fld_of (by kernel_rfl)⟩
instance : Fld Tryz.prog 78 1 1 := ⟨fld_of (by kernel_rfl)⟩
instance : Sz Tryz.prog 79 (.agg #[.slice none 0 0, .slice none 0 0]) 2 48 := ⟨by kernel_rfl⟩
instance : ZeroC Tryz.prog 79 [.slice none 0 0, .slice none 0 0] := ⟨zeroC_of (z := .agg #[.slice none 0 0, .slice none 0 0]) (by kernel_rfl) rfl⟩
instance : Parts Tryz.prog 79 [(0, 1), (1, 1)] := ⟨.inl ⟨_, Tryz.underlying79, by kernel_rfl, by kernel_rfl⟩⟩
instance : Aggr Tryz.prog 79 2 := ⟨⟨_, Tryz.underlying79, rfl⟩, by kernel_rfl⟩
instance : Fld Tryz.prog 79 0 0 := ⟨fld_of (by kernel_rfl)⟩
instance : Fld Tryz.prog 79 1 1 := ⟨fld_of (by kernel_rfl)⟩
instance : Sz Tryz.prog 82 (.nilFunc) 1 8 := ⟨by kernel_rfl⟩
instance : ZeroC Tryz.prog 82 [.nilFunc] := ⟨zeroC_of (z := .nilFunc) (by kernel_rfl) rfl⟩
instance : Scalar Tryz.prog 82 := ⟨_, Tryz.underlying82, rfl⟩
instance : Sz Tryz.prog 87 (.slice none 0 0) 1 24 := ⟨by kernel_rfl⟩
instance : ZeroC Tryz.prog 87 [.slice none 0 0] := ⟨zeroC_of (z := .slice none 0 0) (by kernel_rfl) rfl⟩
instance : Scalar Tryz.prog 87 := ⟨_, Tryz.underlying87, rfl⟩
instance : SliceT Tryz.prog 87 5 := ⟨Tryz.underlying87⟩
instance : Sz Tryz.prog 89 (.agg #[.string ⟨#[]⟩, .int .i64 0]) 2 24 := ⟨by kernel_rfl⟩
instance : ZeroC Tryz.prog 89 [.string ⟨#[]⟩, .int .i64 0] := ⟨zeroC_of (z := .agg #[.string ⟨#[]⟩, .int .i64 0]) (by kernel_rfl) rfl⟩
instance : Parts Tryz.prog 89 [(0, 1), (1, 1)] := ⟨.inl ⟨_, Tryz.underlying89, by kernel_rfl, by kernel_rfl⟩⟩
instance : Aggr Tryz.prog 89 2 := ⟨⟨_, Tryz.underlying89, rfl⟩, by kernel_rfl⟩
instance : Fld Tryz.prog 89 0 0 := ⟨fld_of (by kernel_rfl)⟩
instance : Fld Tryz.prog 89 1 1 := ⟨fld_of (by kernel_rfl)⟩
instance : Sz Tryz.prog 90 (.agg #[.string ⟨#[]⟩, .int .i64 0]) 2 24 := ⟨by kernel_rfl⟩
instance : ZeroC Tryz.prog 90 [.string ⟨#[]⟩, .int .i64 0] := ⟨zeroC_of (z := .agg #[.string ⟨#[]⟩, .int .i64 0]) (by kernel_rfl) rfl⟩
instance : Parts Tryz.prog 90 [(0, 1), (1, 1)] := ⟨.inl ⟨_, Tryz.underlying90, by kernel_rfl, by kernel_rfl⟩⟩
instance : Aggr Tryz.prog 90 2 := ⟨⟨_, Tryz.underlying90, rfl⟩, by kernel_rfl⟩
instance : Fld Tryz.prog 90 0 0 := ⟨fld_of (by kernel_rfl)⟩
instance : Fld Tryz.prog 90 1 1 := ⟨fld_of (by kernel_rfl)⟩
instance : Sz Tryz.prog 97 (.agg #[.int .i64 0, .int .i64 0, .int .i64 0]) 3 24 := ⟨by kernel_rfl⟩
instance : ZeroC Tryz.prog 97 [.int .i64 0, .int .i64 0, .int .i64 0] := ⟨zeroC_of (z := .agg #[.int .i64 0, .int .i64 0, .int .i64 0]) (by kernel_rfl) rfl⟩
instance : Parts Tryz.prog 97 [(0, 1), (1, 1), (2, 1)] := ⟨.inl ⟨_, Tryz.underlying97, by kernel_rfl, by kernel_rfl⟩⟩
instance : Aggr Tryz.prog 97 3 := ⟨⟨_, Tryz.underlying97, rfl⟩, by kernel_rfl⟩
instance : Fld Tryz.prog 97 0 0 := ⟨fld_of (by kernel_rfl)⟩
instance : Fld Tryz.prog 97 1 1 := ⟨fld_of (by kernel_rfl)⟩
instance : Fld Tryz.prog 97 2 2 := ⟨fld_of (by kernel_rfl)⟩
instance : Sz Tryz.prog 98 (.agg #[.int .i64 0, .int .i64 0, .int .i64 0, .int .i64 0, .int .i64 0, .int .i64 0, .int .i64 0, .int .i64 0, .int .i64 0, .int .i64 0, .int .i64 0, .int .i64 0]) 12 96 := ⟨by kernel_rfl⟩
instance : ZeroC Tryz.prog 98 [.int .i64 0, .int .i64 0, .int .i64 0, .int .i64 0, .int .i64 0, .int .i64 0, .int .i64 0, .int .i64 0, .int .i64 0, .int .i64 0, .int .i64 0, .int .i64 0] := ⟨zeroC_of (z := .agg #[.int .i64 0, .int .i64 0, .int .i64 0, .int .i64 0, .int .i64 0, .int .i64 0, .int .i64 0, .int .i64 0, .int .i64 0, .int .i64 0, .int .i64 0, .int .i64 0]) (by kernel_rfl) rfl⟩
instance : Parts Tryz.prog 98 [(0, 3), (3, 3), (6, 3), (9, 3)] := ⟨.inr ⟨_, _, Tryz.underlying98, by kernel_rfl, by kernel_rfl⟩⟩
instance : Aggr Tryz.prog 98 12 := ⟨⟨_, Tryz.underlying98, rfl⟩, by kernel_rfl⟩
instance : ArrT Tryz.prog 98 4 97 := ⟨Tryz.underlying98⟩
instance : Sz Tryz.prog 99 (.agg #[.int .i64 0, .int .i64 0, .int .i64 0, .int .i64 0, .int .i64 0, .int .i64 0, .int .i64 0, .int .i64 0, .int .i64 0, .int .i64 0, .int .i64 0, .int .i64 0]) 12 96 := ⟨by kernel_rfl⟩
instance : ZeroC Tryz.prog 99 [.int .i64 0, .int .i64 0, .int .i64 0, .int .i64 0, .int .i64 0, .int .i64 0, .int .i64 0, .int .i64 0, .int .i64 0, .int .i64 0, .int .i64 0, .int .i64 0] := ⟨zeroC_of (z := .agg #[.int .i64 0, .int .i64 0, .int .i64 0, .int .i64 0, .int .i64 0, .int .i64 0, .int .i64 0, .int .i64 0, .int .i64 0, .int .i64 0, .int .i64 0, .int .i64 0]) (by kernel_rfl) rfl⟩
instance : Parts Tryz.prog 99 [(0, 12)] := ⟨.inl ⟨_, Tryz.underlying99, by kernel_rfl, by kernel_rfl⟩⟩
instance : Aggr Tryz.prog 99 12 := ⟨⟨_, Tryz.underlying99, rfl⟩, by kernel_rfl⟩
instance : Fld Tryz.prog 99 0 0 := ⟨fld_of (by kernel_rfl)⟩
instance : Sz Tryz.prog 100 (.agg #[.int .i64 0, .int .i64 0, .int .i64 0, .int .i64 0, .int .i64 0, .int .i64 0, .int .i64 0, .int .i64 0, .int .i64 0, .int .i64 0, .int .i64 0, .int .i64 0]) 12 96 := ⟨by kernel_rfl⟩
instance : ZeroC Tryz.prog 100 [.int .i64 0, .int .i64 0, .int .i64 0, .int .i64 0, .int .i64 0, .int .i64 0, .int .i64 0, .int .i64 0, .int .i64 0, .int .i64 0, .int .i64 0, .int .i64 0] := ⟨zeroC_of (z := .agg #[.int .i64 0, .int .i64 0, .int .i64 0, .int .i64 0, .int .i64 0, .int .i64 0, .int .i64 0, .int .i64 0, .int .i64 0, .int .i64 0, .int .i64 0, .int .i64 0]) (by kernel_rfl) rfl⟩
instance : Parts Tryz.prog 100 [(0, 12)] := ⟨.inl ⟨_, Tryz.underlying100, by kernel_rfl, by kernel_rfl⟩⟩
instance : Aggr Tryz.prog 100 12 := ⟨⟨_, Tryz.underlying100, rfl⟩, by kernel_rfl⟩
instance : Fld Tryz.prog 100 0 0 := ⟨fld_of (by kernel_rfl)⟩
instance : Sz Tryz.prog 101 (.agg #[.int .i64 0, .int .i64 0, .int .i64 0, .int .i64 0, .int .i64 0, .int .i64 0, .int .i64 0, .int .i64 0, .int .i64 0, .int .i64 0, .int .i64 0, .int .i64 0, .int .i64 0, .int .i64 0, .int .i64 0, .int .i64 0, .int .i64 0, .int .i64 0, .int .i64 0, .int .i64 0, .int .i64 0, .int .i64 0, .int .i64 0, .int .i64 0, .int .i64 0, .int .i64 0]) 26 208 := ⟨by kernel_rfl⟩
instance : ZeroC Tryz.prog 101 [.int .i64 0, .int .i64 0, .int .i64 0, .int .i64 0, .int .i64 0, .int .i64 0, .int .i64 0, .int .i64 0, .int .i64 0, .int .i64 0, .int .i64 0, .int .i64 0, .int .i64 0, .int .i64 0, .int .i64 0, .int .i64 0, .int .i64 0, .int .i64 0, .int .i64 0, .int .i64 0, .int .i64 0, .int .i64 0, .int .i64 0, .int .i64 0, .int .i64 0, .int .i64 0] := ⟨zeroC_of (z := .agg #[.int .i64 0, .int .i64 0, .int .i64 0, .int .i64 0, .int .i64 0, .int .i64 0, .int .i64 0, .int .i64 0, .int .i64 0, .int .i64 0, .int .i64 0, .int .i64 0, .int .i64 0, .int .i64 0, .int .i64 0, .int .i64 0, .int .i64 0, .int .i64 0, .int .i64 0, .int .i64 0, .int .i64 0, .int .i64 0, .int .i64 0, .int .i64 0, .int .i64 0, .int .i64 0]) (by kernel_rfl) rfl⟩
instance : Parts Tryz.prog 101 [(0, 12), (12, 12), (24, 1), (25, 1)] := ⟨.inl ⟨_, Tryz.underlying101, by kernel_rfl, by kernel_rfl⟩⟩
instance : Aggr Tryz.prog 101 26 := ⟨⟨_, Tryz.underlying101, rfl⟩, by kernel_rfl⟩
instance : Fld Tryz.prog 101 0 0 := ⟨fld_of (by kernel_rfl)⟩
instance : Fld Tryz.prog 101 1 12 := ⟨fld_of (by kernel_rfl)⟩
instance : Fld Tryz.prog 101 2 24 := ⟨fld_of (by kernel_rfl)⟩
instance : Fld Tryz.prog 101 3 25 := ⟨fld_of (by kernel_rfl)⟩
instance : Sz Tryz.prog 102 (.agg #[.int .i64 0, .int .i64 0, .int .i64 0, .int .i64 0, .int .i64 0, .int .i64 0, .int .i64 0, .int .i64 0, .int .i64 0, .int .i64 0, .int .i64 0, .int .i64 0, .int .i64 0, .int .i64 0, .int .i64 0, .int .i64 0, .int .i64 0, .int .i64 0, .int .i64 0, .int .i64 0, .int .i64 0, .int .i64 0, .int .i64 0, .int .i64 0, .int .i64 0, .int .i64 0]) 26 208 := ⟨by kernel_rfl⟩
instance : ZeroC Tryz.prog 102 [.int .i64 0, .int .i64 0, .int .i64 0, .int .i64 0, .int .i64 0, .int .i64 0, .int .i64 0, .int .i64 0, .int .i64 0, .int .i64 0, .int .i64 0, .int .i64 0, .int .i64 0, .int .i64 0, .int .i64 0, .int .i64 0, .int .i64 0, .int .i64 0, .int .i64 0, .int .i64 0, .int .i64 0, .int .i64 0, .int .i64 0, .int .i64 0, .int .i64 0, .int .i64 0] := ⟨zeroC_of (z := .agg #[.int .i64 0, .int .i64 0, .int .i64 0, .int .i64 0, .int .i64 0, .int .i64 0, .int .i64 0, .int .i64 0, .int .i64 0, .int .i64 0, .int .i64 0, .int .i64 0, .int .i64 0, .int .i64 0, .int .i64 0, .int .i64 0, .int .i64 0, .int .i64 0, .int .i64 0, .int .i64 0, .int .i64 0, .int .i64 0, .int .i64 0, .int .i64 0, .int .i64 0, .int .i64 0]) (by kernel_rfl) rfl⟩
instance : Parts Tryz.prog 102 [(0, 12), (12, 12), (24, 1), (25, 1)] := ⟨.inl ⟨_, Tryz.underlying102, by kernel_rfl, by kernel_rfl⟩⟩
instance : Aggr Tryz.prog 102 26 := ⟨⟨_, Tryz.underlying102, rfl⟩, by kernel_rfl⟩
instance : Fld Tryz.prog 102 0 0 := ⟨fld_of (by kernel_rfl)⟩
instance : Fld Tryz.prog 102 1 12 := ⟨fld_of (by kernel_rfl)⟩
instance : Fld Tryz.prog 102 2 24 := ⟨fld_of (by kernel_rfl)⟩
instance : Fld Tryz.prog 102 3 25 := ⟨fld_of (by kernel_rfl)⟩
instance : Sz Tryz.prog 103 (.nilFunc) 1 8 := ⟨by kernel_rfl⟩
instance : ZeroC Tryz.prog 103 [.nilFunc] := ⟨zeroC_of (z := .nilFunc) (by kernel_rfl) rfl⟩
instance : Scalar Tryz.prog 103 := ⟨_, Tryz.underlying103, rfl⟩
instance : Sz Tryz.prog 104 (.nilFunc) 1 8 := ⟨by kernel_rfl⟩
instance : ZeroC Tryz.prog 104 [.nilFunc] := ⟨zeroC_of (z := .nilFunc) (by kernel_rfl) rfl⟩
instance : Scalar Tryz.prog 104 := ⟨_, Tryz.underlying104, rfl⟩
instance : Sz Tryz.prog 105 (.pointer none) 1 8 := ⟨by kernel_rfl⟩
instance : ZeroC Tryz.prog 105 [.pointer none] := ⟨zeroC_of (z := .pointer none) (by kernel_rfl) rfl⟩
instance : Scalar Tryz.prog 105 := ⟨_, Tryz.underlying105, rfl⟩
instance : Sz Tryz.prog 106 (.agg #[.pointer none, .slice none 0 0]) 2 32 := ⟨by kernel_rfl⟩
instance : ZeroC Tryz.prog 106 [.pointer none, .slice none 0 0] := ⟨zeroC_of (z := .agg #[.pointer none, .slice none 0 0]) (by kernel_rfl) rfl⟩
instance : Parts Tryz.prog 106 [(0, 1), (1, 1)] := ⟨.inl ⟨_, Tryz.underlying106, by kernel_rfl, by kernel_rfl⟩⟩
instance : Aggr Tryz.prog 106 2 := ⟨⟨_, Tryz.underlying106, rfl⟩, by kernel_rfl⟩
instance : Fld Tryz.prog 106 0 0 := ⟨fld_of (by kernel_rfl)⟩
instance : Fld Tryz.prog 106 1 1 := ⟨fld_of (by kernel_rfl)⟩
instance : Sz Tryz.prog 107 (.agg #[.pointer none, .slice none 0 0]) 2 32 := ⟨by kernel_rfl⟩
instance : ZeroC Tryz.prog 107 [.pointer none, .slice none 0 0] := ⟨zeroC_of (z := .agg #[.pointer none, .slice none 0 0]) (by kernel_rfl) rfl⟩
instance : Parts Tryz.prog 107 [(0, 1), (1, 1)] := ⟨.inl ⟨_, Tryz.underlying107, by kernel_rfl, by kernel_rfl⟩⟩
instance : Aggr Tryz.prog 107 2 := ⟨⟨_, Tryz.underlying107, rfl⟩, by kernel_rfl⟩
instance : Fld Tryz.prog 107 0 0 := ⟨fld_of (by kernel_rfl)⟩
instance : Fld Tryz.prog 107 1 1 := ⟨fld_of (by kernel_rfl)⟩
instance : Sz Tryz.prog 108 (.nilIface) 1 16 := ⟨by kernel_rfl⟩
instance : ZeroC Tryz.prog 108 [.nilIface] := ⟨zeroC_of (z := .nilIface) (by kernel_rfl) rfl⟩
instance : Scalar Tryz.prog 108 := ⟨_, Tryz.underlying108, rfl⟩
instance : Sz Tryz.prog 109 (.nilIface) 1 16 := ⟨by kernel_rfl⟩
instance : ZeroC Tryz.prog 109 [.nilIface] := ⟨zeroC_of (z := .nilIface) (by kernel_rfl) rfl⟩
instance : Scalar Tryz.prog 109 := ⟨_, Tryz.underlying109, rfl⟩
instance : Sz Tryz.prog 111 (.nilFunc) 1 8 := ⟨by kernel_rfl⟩
instance : ZeroC Tryz.prog 111 [.nilFunc] := ⟨zeroC_of (z := .nilFunc) (by kernel_rfl) rfl⟩
instance : Scalar Tryz.prog 111 := ⟨_, Tryz.underlying111, rfl⟩
instance : Sz Tryz.prog 112 (.nilFunc) 1 8 := ⟨by kernel_rfl⟩
instance : ZeroC Tryz.prog 112 [.nilFunc] := ⟨zeroC_of (z := .nilFunc) (by kernel_rfl) rfl⟩
instance : Scalar Tryz.prog 112 := ⟨_, Tryz.underlying112, rfl⟩
instance : Sz Tryz.prog 113 (.nilFunc) 1 8 := ⟨by kernel_rfl⟩
instance : ZeroC Tryz.prog 113 [.nilFunc] := ⟨zeroC_of (z := .nilFunc) (by kernel_rfl) rfl⟩
instance : Scalar Tryz.prog 113 := ⟨_, Tryz.underlying113, rfl⟩
instance : Sz Tryz.prog 114 (.nilFunc) 1 8 := ⟨by kernel_rfl⟩
instance : ZeroC Tryz.prog 114 [.nilFunc] := ⟨zeroC_of (z := .nilFunc) (by kernel_rfl) rfl⟩
instance : Scalar Tryz.prog 114 := ⟨_, Tryz.underlying114, rfl⟩
instance : Sz Tryz.prog 115 (.nilFunc) 1 8 := ⟨by kernel_rfl⟩
instance : ZeroC Tryz.prog 115 [.nilFunc] := ⟨zeroC_of (z := .nilFunc) (by kernel_rfl) rfl⟩
instance : Scalar Tryz.prog 115 := ⟨_, Tryz.underlying115, rfl⟩
instance : Sz Tryz.prog 116 (.nilFunc) 1 8 := ⟨by kernel_rfl⟩
instance : ZeroC Tryz.prog 116 [.nilFunc] := ⟨zeroC_of (z := .nilFunc) (by kernel_rfl) rfl⟩
instance : Scalar Tryz.prog 116 := ⟨_, Tryz.underlying116, rfl⟩
instance : Sz Tryz.prog 117 (.nilFunc) 1 8 := ⟨by kernel_rfl⟩
instance : ZeroC Tryz.prog 117 [.nilFunc] := ⟨zeroC_of (z := .nilFunc) (by kernel_rfl) rfl⟩
instance : Scalar Tryz.prog 117 := ⟨_, Tryz.underlying117, rfl⟩
instance : Sz Tryz.prog 118 (.nilFunc) 1 8 := ⟨by kernel_rfl⟩
instance : ZeroC Tryz.prog 118 [.nilFunc] := ⟨zeroC_of (z := .nilFunc) (by kernel_rfl) rfl⟩
instance : Scalar Tryz.prog 118 := ⟨_, Tryz.underlying118, rfl⟩
instance : Sz Tryz.prog 119 (.nilFunc) 1 8 := ⟨by kernel_rfl⟩
instance : ZeroC Tryz.prog 119 [.nilFunc] := ⟨zeroC_of (z := .nilFunc) (by kernel_rfl) rfl⟩
instance : Scalar Tryz.prog 119 := ⟨_, Tryz.underlying119, rfl⟩
instance : Sz Tryz.prog 120 (.agg #[.int .i64 0, .string ⟨#[]⟩, .int .i64 0, .slice none 0 0]) 4 56 := ⟨by kernel_rfl⟩
instance : ZeroC Tryz.prog 120 [.int .i64 0, .string ⟨#[]⟩, .int .i64 0, .slice none 0 0] := ⟨zeroC_of (z := .agg #[.int .i64 0, .string ⟨#[]⟩, .int .i64 0, .slice none 0 0]) (by kernel_rfl) rfl⟩
instance : Parts Tryz.prog 120 [(0, 1), (1, 1), (2, 1), (3, 1)] := ⟨.inl ⟨_, Tryz.underlying120, by kernel_rfl, by kernel_rfl⟩⟩
instance : Aggr Tryz.prog 120 4 := ⟨⟨_, Tryz.underlying120, rfl⟩, by kernel_rfl⟩
instance : Fld Tryz.prog 120 0 0 := ⟨fld_of (by kernel_rfl)⟩
instance : Fld Tryz.prog 120 1 1 := ⟨fld_of (by kernel_rfl)⟩
instance : Fld Tryz.prog 120 2 2 := ⟨fld_of (by kernel_rfl)⟩
instance : Fld Tryz.prog 120 3 3 := ⟨fld_of (by kernel_rfl)⟩
instance : Sz Tryz.prog 121 (.agg #[.int .i64 0, .string ⟨#[]⟩, .int .i64 0, .slice none 0 0]) 4 56 := ⟨by kernel_rfl⟩
instance : ZeroC Tryz.prog 121 [.int .i64 0, .string ⟨#[]⟩, .int .i64 0, .slice none 0 0] := ⟨zeroC_of (z := .agg #[.int .i64 0, .string ⟨#[]⟩, .int .i64 0, .slice none 0 0]) (by kernel_rfl) rfl⟩
instance : Parts Tryz.prog 121 [(0, 1), (1, 1), (2, 1), (3, 1)] := ⟨.inl ⟨_, Tryz.underlying121, by kernel_rfl, by kernel_rfl⟩⟩
instance : Aggr Tryz.prog 121 4 := ⟨⟨_, Tryz.underlying121, rfl⟩, by kernel_rfl⟩
instance : Fld Tryz.prog 121 0 0 := ⟨fld_of (by kernel_rfl)⟩
instance : Fld Tryz.prog 121 1 1 := ⟨fld_of (by kernel_rfl)⟩
instance : Fld Tryz.prog 121 2 2 := ⟨fld_of (by kernel_rfl)⟩
instance : Fld Tryz.prog 121 3 3 := ⟨fld_of (by kernel_rfl)⟩
instance : Sz Tryz.prog 122 (.nilFunc) 1 8 := ⟨by kernel_rfl⟩
instance : ZeroC Tryz.prog 122 [.nilFunc] := ⟨zeroC_of (z := .nilFunc) (by kernel_rfl) rfl⟩
instance : Scalar Tryz.prog 122 := ⟨_, Tryz.underlying122, rfl⟩
instance : Sz Tryz.prog 125 (.nilFunc) 1 8 := ⟨by kernel_rfl⟩
instance : ZeroC Tryz.prog 125 [.nilFunc] := ⟨zeroC_of (z := .nilFunc) (by kernel_rfl) rfl⟩
instance : Scalar Tryz.prog 125 := ⟨_, Tryz.underlying125, rfl⟩
instance : Sz Tryz.prog 136 (.nilFunc) 1 8 := ⟨by kernel_rfl⟩
instance : ZeroC Tryz.prog 136 [.nilFunc] := ⟨zeroC_of (z := .nilFunc) (by kernel_rfl) rfl⟩
instance : Scalar Tryz.prog 136 := ⟨_, Tryz.underlying136, rfl⟩
instance : Sz Tryz.prog 139 (.pointer none) 1 8 := ⟨by kernel_rfl⟩
instance : ZeroC Tryz.prog 139 [.pointer none] := ⟨zeroC_of (z := .pointer none) (by kernel_rfl) rfl⟩
instance : Scalar Tryz.prog 139 := ⟨_, Tryz.underlying139, rfl⟩
instance : Sz Tryz.prog 144 (.agg #[.int .i64 0, .string ⟨#[]⟩, .int .i64 0, .slice none 0 0]) 4 56 := ⟨by kernel_rfl⟩
instance : ZeroC Tryz.prog 144 [.int .i64 0, .string ⟨#[]⟩, .int .i64 0, .slice none 0 0] := ⟨zeroC_of (z := .agg #[.int .i64 0, .string ⟨#[]⟩, .int .i64 0, .slice none 0 0]) (by kernel_rfl) rfl⟩
instance : Parts Tryz.prog 144 [(0, 1), (1, 1), (2, 1), (3, 1)] := ⟨.inl ⟨_, Tryz.underlying144, by kernel_rfl, by kernel_rfl⟩⟩
instance : Aggr Tryz.prog 144 4 := ⟨⟨_, Tryz.underlying144, rfl⟩, by kernel_rfl⟩
instance : Fld Tryz.prog 144 0 0 := ⟨fld_of (by kernel_rfl)⟩
instance : Fld Tryz.prog 144 1 1 := ⟨fld_of (by kernel_rfl)⟩
instance : Fld Tryz.prog 144 2 2 := ⟨fld_of (by kernel_rfl)⟩
instance : Fld Tryz.prog 144 3 3 := ⟨fld_of (by kernel_rfl)⟩
instance : Sz Tryz.prog 146 (.agg #[.string ⟨#[]⟩, .int .i64 0]) 2 24 := ⟨by kernel_rfl⟩
instance : ZeroC Tryz.prog 146 [.string ⟨#[]⟩, .int .i64 0] := ⟨zeroC_of (z := .agg #[.string ⟨#[]⟩, .int .i64 0]) (by kernel_rfl) rfl⟩
instance : Parts Tryz.prog 146 [(0, 1), (1, 1)] := ⟨.inl ⟨_, Tryz.underlying146, by kernel_rfl, by kernel_rfl⟩⟩
instance : Aggr Tryz.prog 146 2 := ⟨⟨_, Tryz.underlying146, rfl⟩, by kernel_rfl⟩
instance : Fld Tryz.prog 146 0 0 := ⟨fld_of (by kernel_rfl)⟩
instance : Fld Tryz.prog 146 1 1 := ⟨fld_of (by kernel_rfl)⟩
instance : Sz Tryz.prog 152 (.map none) 1 8 := ⟨by kernel_rfl⟩
instance : ZeroC Tryz.prog 152 [.map none] := ⟨zeroC_of (z := .map none) (by kernel_rfl) rfl⟩
instance : Scalar Tryz.prog 152 := ⟨_, Tryz.underlying152, rfl⟩
instance : Sz Tryz.prog 155 (.nilIface) 1 16 := ⟨by kernel_rfl⟩
instance : ZeroC Tryz.prog 155 [.nilIface] := ⟨zeroC_of (z := .nilIface) (by kernel_rfl) rfl⟩
instance : Scalar Tryz.prog 155 := ⟨_, Tryz.underlying155, rfl⟩
instance : Sz Tryz.prog 156 (.nilIface) 1 16 := ⟨by kernel_rfl⟩
instance : ZeroC Tryz.prog 156 [.nilIface] := ⟨zeroC_of (z := .nilIface) (by kernel_rfl) rfl⟩
instance : Scalar Tryz.prog 156 := ⟨_, Tryz.underlying156, rfl⟩
instance : Sz Tryz.prog 163 (.pointer none) 1 8 := ⟨by kernel_rfl⟩
instance : ZeroC Tryz.prog 163 [.pointer none] := ⟨zeroC_of (z := .pointer none) (by kernel_rfl) rfl⟩
instance : Scalar Tryz.prog 163 := ⟨_, Tryz.underlying163, rfl⟩
instance : Sz Tryz.prog 171 (.nilFunc) 1 8 := ⟨by kernel_rfl⟩
instance : ZeroC Tryz.prog 171 [.nilFunc] := ⟨zeroC_of (z := .nilFunc) (by kernel_rfl) rfl⟩
instance : Scalar Tryz.prog 171 := ⟨_, Tryz.underlying171, rfl⟩
instance : Sz Tryz.prog 172 (.agg #[.int .i64 0, .string ⟨#[]⟩, .int .i64 0, .slice none 0 0]) 4 56 := ⟨by kernel_rfl⟩
instance : ZeroC Tryz.prog 172 [.int .i64 0, .string ⟨#[]⟩, .int .i64 0, .slice none 0 0] := ⟨zeroC_of (z := .agg #[.int .i64 0, .string ⟨#[]⟩, .int .i64 0, .slice none 0 0]) (by kernel_rfl) rfl⟩
instance : Parts Tryz.prog 172 [(0, 4)] := ⟨.inl ⟨_, Tryz.underlying172, by kernel_rfl, by kernel_rfl⟩⟩
instance : Aggr Tryz.prog 172 4 := ⟨⟨_, Tryz.underlying172, rfl⟩, by kernel_rfl⟩
instance : Fld Tryz.prog 172 0 0 := ⟨fld_of (by kernel_rfl)⟩
instance : Sz Tryz.prog 173 (.agg #[.int .i64 0, .string ⟨#[]⟩, .int .i64 0, .slice none 0 0]) 4 56 := ⟨by kernel_rfl⟩
instance : ZeroC Tryz.prog 173 [.int .i64 0, .string ⟨#[]⟩, .int .i64 0, .slice none 0 0] := ⟨zeroC_of (z := .agg #[.int .i64 0, .string ⟨#[]⟩, .int .i64 0, .slice none 0 0]) (by kernel_rfl) rfl⟩
instance : Parts Tryz.prog 173 [(0, 4)] := ⟨.inl ⟨_, Tryz.underlying173, by kernel_rfl, by kernel_rfl⟩⟩
instance : Aggr Tryz.prog 173 4 := ⟨⟨_, Tryz.underlying173, rfl⟩, by kernel_rfl⟩
instance : Fld Tryz.prog 173 0 0 := ⟨fld_of (by kernel_rfl)⟩
instance : Sz Tryz.prog 174 (.agg #[.int .i64 0, .string ⟨#[]⟩, .int .i64 0, .slice none 0 0]) 4 56 := ⟨by kernel_rfl⟩
instance : ZeroC Tryz.prog 174 [.int .i64 0, .string ⟨#[]⟩, .int .i64 0, .slice none 0 0] := ⟨zeroC_of (z := .agg #[.int .i64 0, .string ⟨#[]⟩, .int .i64 0, .slice none 0 0]) (by kernel_rfl) rfl⟩
instance : Parts Tryz.prog 174 [(0, 4)] := ⟨.inl ⟨_, Tryz.underlying174, by kernel_rfl, by kernel_rfl⟩⟩
instance : Aggr Tryz.prog 174 4 := ⟨⟨_, Tryz.underlying174, rfl⟩, by kernel_rfl⟩
instance : Fld Tryz.prog 174 0 0 := ⟨fld_of (by kernel_rfl)⟩
instance : Sz Tryz.prog 175 (.agg #[.int .i64 0, .string ⟨#[]⟩, .int .i64 0, .slice none 0 0]) 4 56 := ⟨by kernel_rfl⟩
instance : ZeroC Tryz.prog 175 [.int .i64 0, .string ⟨#[]⟩, .int .i64 0, .slice none 0 0] := ⟨zeroC_of (z := .agg #[.int .i64 0, .string ⟨#[]⟩, .int .i64 0, .slice none 0 0]) (by kernel_rfl) rfl⟩
instance : Parts Tryz.prog 175 [(0, 4)] := ⟨.inl ⟨_, Tryz.underlying175, by kernel_rfl, by kernel_rfl⟩⟩
instance : Aggr Tryz.prog 175 4 := ⟨⟨_, Tryz.underlying175, rfl⟩, by kernel_rfl⟩
instance : Fld Tryz.prog 175 0 0 := ⟨fld_of (by kernel_rfl)⟩
instance : Sz Tryz.prog 177 (.agg #[.int .u8 0, .int .u8 0, .int .u8 0, .int .u8 0, .int .u8 0, .int .u8 0, .int .u8 0, .int .u8 0, .int .u8 0, .int .u8 0, .int .u8 0, .int .u8 0, .int .u8 0, .int .u8 0, .int .u8 0, .int .u8 0, .int .u8 0, .int .u8 0, .int .u8 0, .int .u8 0, .int .u8 0, .int .u8 0, .int .u8 0, .int .u8 0]) 24 24 := ⟨by kernel_rfl⟩
instance : ZeroC Tryz.prog 177 [.int .u8 0, .int .u8 0, .int .u8 0, .int .u8 0, .int .u8 0, .int .u8 0, .int .u8 0, .int .u8 0, .int .u8 0, .int .u8 0, .int .u8 0, .int .u8 0, .int .u8 0, .int .u8 0, .int .u8 0, .int .u8 0, .int .u8 0, .int .u8 0, .int .u8 0, .int .u8 0, .int .u8 0, .int .u8 0, .int .u8 0, .int .u8 0] := ⟨zeroC_of (z := .agg #[.int .u8 0, .int .u8 0, .int .u8 0, .int .u8 0, .int .u8 0, .int .u8 0, .int .u8 0, .int .u8 0, .int .u8 0, .int .u8 0, .int .u8 0, .int .u8 0, .int .u8 0, .int .u8 0, .int .u8 0, .int .u8 0, .int .u8 0, .int .u8 0, .int .u8 0, .int .u8 0, .int .u8 0, .int .u8 0, .int .u8 0, .int .u8 0]) (by kernel_rfl) rfl⟩
instance : Aggr Tryz.prog 177 24 := ⟨⟨_, Tryz.underlying177, rfl⟩, by kernel_rfl⟩
instance : ArrT Tryz.prog 177 24 5 := ⟨Tryz.underlying177⟩
instance : Sz Tryz.prog 178 (.int .u64 0) 1 8 := ⟨by kernel_rfl⟩
instance : ZeroC Tryz.prog 178 [.int .u64 0] := ⟨zeroC_of (z := .int .u64 0) (by kernel_rfl) rfl⟩
instance : Scalar Tryz.prog 178 := ⟨_, Tryz.underlying178, rfl⟩
instance : Sz Tryz.prog 184 (.int .u64 0) 1 8 := ⟨by kernel_rfl⟩
instance : ZeroC Tryz.prog 184 [.int .u64 0] := ⟨zeroC_of (z := .int .u64 0) (by kernel_rfl) rfl⟩
instance : Scalar Tryz.prog 184 := ⟨_, Tryz.underlying184, rfl⟩
instance : Sz Tryz.prog 197 (.agg #[.int .u64 0, .int .u64 0, .int .u64 0, .int .u64 0, .int .u64 0, .int .u64 0, .int .u64 0, .int .u64 0, .int .u64 0, .int .u64 0, .int .u64 0, .int .u64 0, .int .u64 0, .int .u64 0, .int .u64 0, .int .u64 0, .int .u64 0, .int .u64 0, .int .u64 0, .int .u64 0]) 20 160 := ⟨by kernel_rfl⟩
instance : ZeroC Tryz.prog 197 [.int .u64 0, .int .u64 0, .int .u64 0, .int .u64 0, .int .u64 0, .int .u64 0, .int .u64 0, .int .u64 0, .int .u64 0, .int .u64 0, .int .u64 0, .int .u64 0, .int .u64 0, .int .u64 0, .int .u64 0, .int .u64 0, .int .u64 0, .int .u64 0, .int .u64 0, .int .u64 0] := ⟨zeroC_of (z := .agg #[.int .u64 0, .int .u64 0, .int .u64 0, .int .u64 0, .int .u64 0, .int .u64 0, .int .u64 0, .int .u64 0, .int .u64 0, .int .u64 0, .int .u64 0, .int .u64 0, .int .u64 0, .int .u64 0, .int .u64 0, .int .u64 0, .int .u64 0, .int .u64 0, .int .u64 0, .int .u64 0]) (by kernel_rfl) rfl⟩
instance : Aggr Tryz.prog 197 20 := ⟨⟨_, Tryz.underlying197, rfl⟩, by kernel_rfl⟩
instance : ArrT Tryz.prog 197 20 178 := ⟨Tryz.underlying197⟩
instance : Sz Tryz.prog 198 (.int .u32 0) 1 4 := ⟨by kernel_rfl⟩
instance : ZeroC Tryz.prog 198 [.int .u32 0] := ⟨zeroC_of (z := .int .u32 0) (by kernel_rfl) rfl⟩
instance : Scalar Tryz.prog 198 := ⟨_, Tryz.underlying198, rfl⟩
instance : Sz Tryz.prog 199 (.agg #[.int .u8 0, .int .u8 0, .int .u8 0, .int .u8 0, .int .u8 0, .int .u8 0, .int .u8 0, .int .u8 0, .int .u8 0, .int .u8 0, .int .u8 0, .int .u8 0, .int .u8 0, .int .u8 0, .int .u8 0, .int .u8 0, .int .u8 0, .int .u8 0, .int .u8 0, .int .u8 0, .int .u8 0, .int .u8 0, .int .u8 0, .int .u8 0, .int .u8 0, .int .u8 0, .int .u8 0, .int .u8 0, .int .u8 0, .int .u8 0, .int .u8 0, .int .u8 0, .int .u8 0, .int .u8 0, .int .u8 0, .int .u8 0, .int .u8 0, .int .u8 0, .int .u8 0, .int .u8 0, .int .u8 0, .int .u8 0, .int .u8 0, .int .u8 0, .int .u8 0, .int .u8 0, .int .u8 0, .int .u8 0, .int .u8 0, .int .u8 0, .int .u8 0, .int .u8 0, .int .u8 0, .int .u8 0, .int .u8 0, .int .u8 0, .int .u8 0, .int .u8 0, .int .u8 0, .int .u8 0, .int .u8 0, .int .u8 0, .int .u8 0, .int .u8 0, .int .u8 0]) 65 65 := ⟨by kernel_rfl⟩
instance : ZeroC Tryz.prog 199 [.int .u8 0, .int .u8 0, .int .u8 0, .int .u8 0, .int .u8 0, .int .u8 0, .int .u8 0, .int .u8 0, .int .u8 0, .int .u8 0, .int .u8 0, .int .u8 0, .int .u8 0, .int .u8 0, .int .u8 0, .int .u8 0, .int .u8 0, .int .u8 0, .int .u8 0, .int .u8 0, .int .u8 0, .int .u8 0, .int .u8 0, .int .u8 0, .int .u8 0, .int .u8 0, .int .u8 0, .int .u8 0, .int .u8 0, .int .u8 0, .int .u8 0, .int .u8 0, .int .u8 0, .int .u8 0, .int .u8 0, .int .u8 0, .int .u8 0, .int .u8 0, .int .u8 0, .int .u8 0, .int .u8 0, .int .u8 0, .int .u8 0, .int .u8 0, .int .u8 0, .int .u8 0, .int .u8 0, .int .u8 0, .int .u8 0, .int .u8 0, .int .u8 0, .int .u8 0, .int .u8 0, .int .u8 0, .int .u8 0, .int .u8 0, .int .u8 0, .int .u8 0, .int .u8 0, .int .u8 0, .int .u8 0, .int .u8 0, .int .u8 0, .int .u8 0, .int .u8 0] := ⟨zeroC_of (z := .agg #[.int .u8 0, .int .u8 0, .int .u8 0, .int .u8 0, .int .u8 0, .int .u8 0, .int .u8 0, .int .u8 0, .int .u8 0, .int .u8 0, .int .u8 0, .int .u8 0, .int .u8 0, .int .u8 0, .int .u8 0, .int .u8 0, .int .u8 0, .int .u8 0, .int .u8 0, .int .u8 0, .int .u8 0, .int .u8 0, .int .u8 0, .int .u8 0, .int .u8 0, .int .u8 0, .int .u8 0, .int .u8 0, .int .u8 0, .int .u8 0, .int .u8 0, .int .u8 0, .int .u8 0, .int .u8 0, .int .u8 0, .int .u8 0, .int .u8 0, .int .u8 0, .int .u8 0, .int .u8 0, .int .u8 0, .int .u8 0, .int .u8 0, .int .u8 0, .int .u8 0, .int .u8 0, .int .u8 0, .int .u8 0, .int .u8 0, .int .u8 0, .int .u8 0, .int .u8 0, .int .u8 0, .int .u8 0, .int .u8 0, .int .u8 0, .int .u8 0, .int .u8 0, .int .u8 0, .int .u8 0, .int .u8 0, .int .u8 0, .int .u8 0, .int .u8 0, .int .u8 0]) (by kernel_rfl) rfl⟩
instance : Aggr Tryz.prog 199 65 := ⟨⟨_, Tryz.underlying199, rfl⟩, by kernel_rfl⟩
instance : ArrT Tryz.prog 199 65 5 := ⟨Tryz.underlying199⟩
instance : Sz Tryz.prog 214 (.int .u8 0) 1 1 := ⟨by kernel_rfl⟩
instance : ZeroC Tryz.prog 214 [.int .u8 0] := ⟨zeroC_of (z := .int .u8 0) (by kernel_rfl) rfl⟩
instance : Scalar Tryz.prog 214 := ⟨_, Tryz.underlying214, rfl⟩
instance : Sz Tryz.prog 215 (.int .u8 0) 1 1 := ⟨by kernel_rfl⟩
instance : ZeroC Tryz.prog 215 [.int .u8 0] := ⟨zeroC_of (z := .int .u8 0) (by kernel_rfl) rfl⟩
instance : Scalar Tryz.prog 215 := ⟨_, Tryz.underlying215, rfl⟩
instance : Sz Tryz.prog 216 (.nilFunc) 1 8 := ⟨by kernel_rfl⟩
instance : ZeroC Tryz.prog 216 [.nilFunc] := ⟨zeroC_of (z := .nilFunc) (by kernel_rfl) rfl⟩
instance : Scalar Tryz.prog 216 := ⟨_, Tryz.underlying216, rfl⟩
instance : Sz Tryz.prog 217 (.int .i32 0) 1 4 := ⟨by kernel_rfl⟩
instance : ZeroC Tryz.prog 217 [.int .i32 0] := ⟨zeroC_of (z := .int .i32 0) (by kernel_rfl) rfl⟩
instance : Scalar Tryz.prog 217 := ⟨_, Tryz.underlying217, rfl⟩
instance : Sz Tryz.prog 218 (.int .i32 0) 1 4 := ⟨by kernel_rfl⟩
instance : ZeroC Tryz.prog 218 [.int .i32 0] := ⟨zeroC_of (z := .int .i32 0) (by kernel_rfl) rfl⟩
instance : Scalar Tryz.prog 218 := ⟨_, Tryz.underlying218, rfl⟩
instance : Sz Tryz.prog 219 (.agg #[.int .u64 0, .int .u64 0, .int .u32 0, .int .u8 0, .int .u8 0, .int .u8 0, .int .u8 0, .nilFunc, .pointer none, .int .i32 0, .int .i32 0]) 11 48 := ⟨by kernel_rfl⟩
instance : ZeroC Tryz.prog 219 [.int .u64 0, .int .u64 0, .int .u32 0, .int .u8 0, .int .u8 0, .int .u8 0, .int .u8 0, .nilFunc, .pointer none, .int .i32 0, .int .i32 0] := ⟨zeroC_of (z := .agg #[.int .u64 0, .int .u64 0, .int .u32 0, .int .u8 0, .int .u8 0, .int .u8 0, .int .u8 0, .nilFunc, .pointer none, .int .i32 0, .int .i32 0]) (by kernel_rfl) rfl⟩
instance : Parts Tryz.prog 219 [(0, 1), (1, 1), (2, 1), (3, 1), (4, 1), (5, 1), (6, 1), (7, 1), (8, 1), (9, 1), (10, 1)] := ⟨.inl ⟨_, Tryz.underlying219, by kernel_rfl, by kernel_rfl⟩⟩
instance : Aggr Tryz.prog 219 11 := ⟨⟨_, Tryz.underlying219, rfl⟩, by kernel_rfl⟩
instance : Fld Tryz.prog 219 0 0 := ⟨fld_of (by kernel_rfl)⟩
instance : Fld Tryz.prog 219 1 1 := ⟨fld_of (by kernel_rfl)⟩
instance : Fld Tryz.prog 219 2 2 := ⟨fld_of (by kernel_rfl)⟩
instance : Fld Tryz.prog 219 3 3 := ⟨fld_of (by kernel_rfl)⟩
instance : Fld Tryz.prog 219 4 4 := ⟨fld_of (by kernel_rfl)⟩
instance : Fld Tryz.prog 219 5 5 := ⟨fld_of (by kernel_rfl)⟩
instance : Fld Tryz.prog 219 6 6 := ⟨fld_of (by kernel_rfl)⟩
instance : Fld Tryz.prog 219 7 7 := ⟨fld_of (by kernel_rfl)⟩
instance : Fld Tryz.prog 219 8 8 := ⟨fld_of (by kernel_rfl)⟩
instance : Fld Tryz.prog 219 9 9 := ⟨fld_of (by kernel_rfl)⟩
instance : Fld Tryz.prog 219 10 10 := ⟨fld_of (by kernel_rfl)⟩
instance : Sz Tryz.prog 220 (.agg #[.int .u64 0, .int .u64 0, .int .u32 0, .int .u8 0, .int .u8 0, .int .u8 0, .int .u8 0, .nilFunc, .pointer none, .int .i32 0, .int .i32 0]) 11 48 := ⟨by kernel_rfl⟩
instance : ZeroC Tryz.prog 220 [.int .u64 0, .int .u64 0, .int .u32 0, .int .u8 0, .int .u8 0, .int .u8 0, .int .u8 0, .nilFunc, .pointer none, .int .i32 0, .int .i32 0] := ⟨zeroC_of (z := .agg #[.int .u64 0, .int .u64 0, .int .u32 0, .int .u8 0, .int .u8 0, .int .u8 0, .int .u8 0, .nilFunc, .pointer none, .int .i32 0, .int .i32 0]) (by kernel_rfl) rfl⟩
instance : Parts Tryz.prog 220 [(0, 1), (1, 1), (2, 1), (3, 1), (4, 1), (5, 1), (6, 1), (7, 1), (8, 1), (9, 1), (10, 1)] := ⟨.inl ⟨_, Tryz.underlying220, by kernel_rfl, by kernel_rfl⟩⟩
instance : Aggr Tryz.prog 220 11 := ⟨⟨_, Tryz.underlying220, rfl⟩, by kernel_rfl⟩
instance : Fld Tryz.prog 220 0 0 := ⟨fld_of (by kernel_rfl)⟩
instance : Fld Tryz.prog 220 1 1 := ⟨fld_of (by kernel_rfl)⟩
instance : Fld Tryz.prog 220 2 2 := ⟨fld_of (by kernel_rfl)⟩
instance : Fld Tryz.prog 220 3 3 := ⟨fld_of (by kernel_rfl)⟩
instance : Fld Tryz.prog 220 4 4 := ⟨fld_of (by kernel_rfl)⟩
instance : Fld Tryz.prog 220 5 5 := ⟨fld_of (by kernel_rfl)⟩
instance : Fld Tryz.prog 220 6 6 := ⟨fld_of (by kernel_rfl)⟩
instance : Fld Tryz.prog 220 7 7 := ⟨fld_of (by kernel_rfl)⟩
instance : Fld Tryz.prog 220 8 8 := ⟨fld_of (by kernel_rfl)⟩
instance : Fld Tryz.prog 220 9 9 := ⟨fld_of (by kernel_rfl)⟩
instance : Fld Tryz.prog 220 10 10 := ⟨fld_of (by kernel_rfl)⟩
end Go.Proofs.YtgmonjghbjaadaaGreatDoor.St
