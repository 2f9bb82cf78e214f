/-
  A call of each function of the program that has a body enters it.
-/
import Derived.Test.YtgoimincdbbafaaStDraw
import Derived.Test.YtgoimincdbbafaaRows
set_option linter.unusedSimpArgs false
set_option linter.unusedVariables false
namespace Go.Proofs.Ytgoimincdbbafaa.St
theorem mixed : Try.prog.follows .mixedOrders = true := by kernel_rfl
theorem en3 : Enters Try.prog 3 := enters_of Try.func3 (by kernel_rfl) rfl
instance : En Try.prog 3 := ⟨en3⟩
theorem en4 : Enters Try.prog 4 := enters_of Try.func4 (by kernel_rfl) rfl
instance : En Try.prog 4 := ⟨en4⟩
theorem en5 : Enters Try.prog 5 := enters_of Try.func5 (by kernel_rfl) rfl
instance : En Try.prog 5 := ⟨en5⟩
theorem en6 : Enters Try.prog 6 := enters_of Try.func6 (by kernel_rfl) rfl
instance : En Try.prog 6 := ⟨en6⟩
theorem en7 : Enters Try.prog 7 := enters_of Try.func7 (by kernel_rfl) rfl
instance : En Try.prog 7 := ⟨en7⟩
theorem en8 : Enters Try.prog 8 := enters_of Try.func8 (by kernel_rfl) rfl
instance : En Try.prog 8 := ⟨en8⟩
theorem en9 : Enters Try.prog 9 := enters_of Try.func9 (by kernel_rfl) rfl
instance : En Try.prog 9 := ⟨en9⟩
theorem en10 : Enters Try.prog 10 := enters_of Try.func10 (by kernel_rfl) rfl
instance : En Try.prog 10 := ⟨en10⟩
theorem en11 : Enters Try.prog 11 := enters_of Try.func11 (by kernel_rfl) rfl
instance : En Try.prog 11 := ⟨en11⟩
theorem en12 : Enters Try.prog 12 := enters_of Try.func12 (by kernel_rfl) rfl
instance : En Try.prog 12 := ⟨en12⟩
theorem en13 : Enters Try.prog 13 := enters_of Try.func13 (by kernel_rfl) rfl
instance : En Try.prog 13 := ⟨en13⟩
theorem en14 : Enters Try.prog 14 := enters_of Try.func14 (by kernel_rfl) rfl
instance : En Try.prog 14 := ⟨en14⟩
theorem en15 : Enters Try.prog 15 := enters_of Try.func15 (by kernel_rfl) rfl
instance : En Try.prog 15 := ⟨en15⟩
theorem en16 : Enters Try.prog 16 := enters_of Try.func16 (by kernel_rfl) rfl
instance : En Try.prog 16 := ⟨en16⟩
theorem en17 : Enters Try.prog 17 := enters_of Try.func17 (by kernel_rfl) rfl
instance : En Try.prog 17 := ⟨en17⟩
theorem en18 : Enters Try.prog 18 := enters_of Try.func18 (by kernel_rfl) rfl
instance : En Try.prog 18 := ⟨en18⟩
theorem en19 : Enters Try.prog 19 := enters_of Try.func19 (by kernel_rfl) rfl
instance : En Try.prog 19 := ⟨en19⟩
theorem en20 : Enters Try.prog 20 := enters_of Try.func20 (by kernel_rfl) rfl
instance : En Try.prog 20 := ⟨en20⟩
theorem en21 : Enters Try.prog 21 := enters_of Try.func21 (by kernel_rfl) rfl
instance : En Try.prog 21 := ⟨en21⟩
theorem en22 : Enters Try.prog 22 := enters_of Try.func22 (by kernel_rfl) rfl
instance : En Try.prog 22 := ⟨en22⟩
theorem en23 : Enters Try.prog 23 := enters_of Try.func23 (by kernel_rfl) rfl
instance : En Try.prog 23 := ⟨en23⟩
theorem en24 : Enters Try.prog 24 := enters_of Try.func24 (by kernel_rfl) rfl
instance : En Try.prog 24 := ⟨en24⟩
theorem en25 : Enters Try.prog 25 := enters_of Try.func25 (by kernel_rfl) rfl
instance : En Try.prog 25 := ⟨en25⟩
theorem en26 : Enters Try.prog 26 := enters_of Try.func26 (by kernel_rfl) rfl
instance : En Try.prog 26 := ⟨en26⟩
theorem en27 : Enters Try.prog 27 := enters_of Try.func27 (by kernel_rfl) rfl
instance : En Try.prog 27 := ⟨en27⟩
theorem en28 : Enters Try.prog 28 := enters_of Try.func28 (by kernel_rfl) rfl
instance : En Try.prog 28 := ⟨en28⟩
theorem en29 : Enters Try.prog 29 := enters_of Try.func29 (by kernel_rfl) rfl
instance : En Try.prog 29 := ⟨en29⟩
theorem en30 : Enters Try.prog 30 := enters_of Try.func30 (by kernel_rfl) rfl
instance : En Try.prog 30 := ⟨en30⟩
theorem en31 : Enters Try.prog 31 := enters_of Try.func31 (by kernel_rfl) rfl
instance : En Try.prog 31 := ⟨en31⟩
theorem en32 : Enters Try.prog 32 := enters_of Try.func32 (by kernel_rfl) rfl
instance : En Try.prog 32 := ⟨en32⟩
theorem en33 : Enters Try.prog 33 := enters_of Try.func33 (by kernel_rfl) rfl
instance : En Try.prog 33 := ⟨en33⟩
theorem en34 : Enters Try.prog 34 := enters_of Try.func34 (by kernel_rfl) rfl
instance : En Try.prog 34 := ⟨en34⟩
theorem en35 : Enters Try.prog 35 := enters_of Try.func35 (by kernel_rfl) rfl
instance : En Try.prog 35 := ⟨en35⟩
theorem en36 : Enters Try.prog 36 := enters_of Try.func36 (by kernel_rfl) rfl
instance : En Try.prog 36 := ⟨en36⟩
theorem en37 : Enters Try.prog 37 := enters_of Try.func37 (by kernel_rfl) rfl
instance : En Try.prog 37 := ⟨en37⟩
theorem en38 : Enters Try.prog 38 := enters_of Try.func38 (by kernel_rfl) rfl
instance : En Try.prog 38 := ⟨en38⟩
theorem en39 : Enters Try.prog 39 := enters_of Try.func39 (by kernel_rfl) rfl
instance : En Try.prog 39 := ⟨en39⟩
theorem en40 : Enters Try.prog 40 := enters_of Try.func40 (by kernel_rfl) rfl
instance : En Try.prog 40 := ⟨en40⟩
theorem en41 : Enters Try.prog 41 := enters_of Try.func41 (by kernel_rfl) rfl
instance : En Try.prog 41 := ⟨en41⟩
theorem en42 : Enters Try.prog 42 := enters_of Try.func42 (by kernel_rfl) rfl
instance : En Try.prog 42 := ⟨en42⟩
theorem en43 : Enters Try.prog 43 := enters_of Try.func43 (by kernel_rfl) rfl
instance : En Try.prog 43 := ⟨en43⟩
theorem en44 : Enters Try.prog 44 := enters_of Try.func44 (by kernel_rfl) rfl
instance : En Try.prog 44 := ⟨en44⟩
theorem en45 : Enters Try.prog 45 := enters_of Try.func45 (by kernel_rfl) rfl
instance : En Try.prog 45 := ⟨en45⟩
theorem en46 : Enters Try.prog 46 := enters_of Try.func46 (by kernel_rfl) rfl
instance : En Try.prog 46 := ⟨en46⟩
theorem en47 : Enters Try.prog 47 := enters_of Try.func47 (by kernel_rfl) rfl
instance : En Try.prog 47 := ⟨en47⟩
theorem en48 : Enters Try.prog 48 := enters_of Try.func48 (by kernel_rfl) rfl
instance : En Try.prog 48 := ⟨en48⟩
theorem en49 : Enters Try.prog 49 := enters_of Try.func49 (by kernel_rfl) rfl
instance : En Try.prog 49 := ⟨en49⟩
theorem en50 : Enters Try.prog 50 := enters_of Try.func50 (by kernel_rfl) rfl
instance : En Try.prog 50 := ⟨en50⟩
theorem en51 : Enters Try.prog 51 := enters_of Try.func51 (by kernel_rfl) rfl
instance : En Try.prog 51 := ⟨en51⟩
theorem en52 : Enters Try.prog 52 := enters_of Try.func52 (by kernel_rfl) rfl
instance : En Try.prog 52 := ⟨en52⟩
theorem en53 : Enters Try.prog 53 := enters_of Try.func53 (by kernel_rfl) rfl
instance : En Try.prog 53 := ⟨en53⟩
theorem en54 : Enters Try.prog 54 := enters_of Try.func54 (by kernel_rfl) rfl
instance : En Try.prog 54 := ⟨en54⟩
theorem en55 : Enters Try.prog 55 := enters_of Try.func55 (by kernel_rfl) rfl
instance : En Try.prog 55 := ⟨en55⟩
theorem en56 : Enters Try.prog 56 := enters_of Try.func56 (by kernel_rfl) rfl
instance : En Try.prog 56 := ⟨en56⟩
theorem en57 : Enters Try.prog 57 := enters_of Try.func57 (by kernel_rfl) rfl
instance : En Try.prog 57 := ⟨en57⟩
theorem en58 : Enters Try.prog 58 := enters_of Try.func58 (by kernel_rfl) rfl
instance : En Try.prog 58 := ⟨en58⟩
theorem en59 : Enters Try.prog 59 := enters_of Try.func59 (by kernel_rfl) rfl
instance : En Try.prog 59 := ⟨en59⟩
theorem en60 : Enters Try.prog 60 := enters_of Try.func60 (by kernel_rfl) rfl
instance : En Try.prog 60 := ⟨en60⟩
theorem en61 : Enters Try.prog 61 := enters_of Try.func61 (by kernel_rfl) rfl
instance : En Try.prog 61 := ⟨en61⟩
theorem en62 : Enters Try.prog 62 := enters_of Try.func62 (by kernel_rfl) rfl
instance : En Try.prog 62 := ⟨en62⟩
theorem en63 : Enters Try.prog 63 := enters_of Try.func63 (by kernel_rfl) rfl
instance : En Try.prog 63 := ⟨en63⟩
theorem en64 : Enters Try.prog 64 := enters_of Try.func64 (by kernel_rfl) rfl
instance : En Try.prog 64 := ⟨en64⟩
theorem en65 : Enters Try.prog 65 := enters_of Try.func65 (by kernel_rfl) rfl
instance : En Try.prog 65 := ⟨en65⟩
theorem en66 : Enters Try.prog 66 := enters_of Try.func66 (by kernel_rfl) rfl
instance : En Try.prog 66 := ⟨en66⟩
theorem en67 : Enters Try.prog 67 := enters_of Try.func67 (by kernel_rfl) rfl
instance : En Try.prog 67 := ⟨en67⟩
theorem en68 : Enters Try.prog 68 := enters_of Try.func68 (by kernel_rfl) rfl
instance : En Try.prog 68 := ⟨en68⟩
theorem en69 : Enters Try.prog 69 := enters_of Try.func69 (by kernel_rfl) rfl
instance : En Try.prog 69 := ⟨en69⟩
theorem en70 : Enters Try.prog 70 := enters_of Try.func70 (by kernel_rfl) rfl
instance : En Try.prog 70 := ⟨en70⟩
theorem en71 : Enters Try.prog 71 := enters_of Try.func71 (by kernel_rfl) rfl
instance : En Try.prog 71 := ⟨en71⟩
theorem en72 : Enters Try.prog 72 := enters_of Try.func72 (by kernel_rfl) rfl
instance : En Try.prog 72 := ⟨en72⟩
theorem en73 : Enters Try.prog 73 := enters_of Try.func73 (by kernel_rfl) rfl
instance : En Try.prog 73 := ⟨en73⟩
theorem en74 : Enters Try.prog 74 := enters_of Try.func74 (by kernel_rfl) rfl
instance : En Try.prog 74 := ⟨en74⟩
theorem en75 : Enters Try.prog 75 := enters_of Try.func75 (by kernel_rfl) rfl
instance : En Try.prog 75 := ⟨en75⟩
theorem en76 : Enters Try.prog 76 := enters_of Try.func76 (by kernel_rfl) rfl
instance : En Try.prog 76 := ⟨en76⟩
theorem en77 : Enters Try.prog 77 := enters_of Try.func77 (by kernel_rfl) rfl
instance : En Try.prog 77 := ⟨en77⟩
theorem en78 : Enters Try.prog 78 := enters_of Try.func78 (by kernel_rfl) rfl
instance : En Try.prog 78 := ⟨en78⟩
theorem en79 : Enters Try.prog 79 := enters_of Try.func79 (by kernel_rfl) rfl
instance : En Try.prog 79 := ⟨en79⟩
theorem en80 : Enters Try.prog 80 := enters_of Try.func80 (by kernel_rfl) rfl
instance : En Try.prog 80 := ⟨en80⟩
theorem en81 : Enters Try.prog 81 := enters_of Try.func81 (by kernel_rfl) rfl
instance : En Try.prog 81 := ⟨en81⟩
theorem en82 : Enters Try.prog 82 := enters_of Try.func82 (by kernel_rfl) rfl
instance : En Try.prog 82 := ⟨en82⟩
theorem en83 : Enters Try.prog 83 := enters_of Try.func83 (by kernel_rfl) rfl
instance : En Try.prog 83 := ⟨en83⟩
theorem en84 : Enters Try.prog 84 := enters_of Try.func84 (by kernel_rfl) rfl
instance : En Try.prog 84 := ⟨en84⟩
theorem en85 : Enters Try.prog 85 := enters_of Try.func85 (by kernel_rfl) rfl
instance : En Try.prog 85 := ⟨en85⟩
theorem en86 : Enters Try.prog 86 := enters_of Try.func86 (by kernel_rfl) rfl
instance : En Try.prog 86 := ⟨en86⟩
theorem en87 : Enters Try.prog 87 := enters_of Try.func87 (by kernel_rfl) rfl
instance : En Try.prog 87 := ⟨en87⟩
theorem en88 : Enters Try.prog 88 := enters_of Try.func88 (by kernel_rfl) rfl
instance : En Try.prog 88 := ⟨en88⟩
theorem en89 : Enters Try.prog 89 := enters_of Try.func89 (by kernel_rfl) rfl
instance : En Try.prog 89 := ⟨en89⟩
theorem en90 : Enters Try.prog 90 := enters_of Try.func90 (by kernel_rfl) rfl
instance : En Try.prog 90 := ⟨en90⟩
theorem en91 : Enters Try.prog 91 := enters_of Try.func91 (by kernel_rfl) rfl
instance : En Try.prog 91 := ⟨en91⟩
theorem en92 : Enters Try.prog 92 := enters_of Try.func92 (by kernel_rfl) rfl
instance : En Try.prog 92 := ⟨en92⟩
theorem en93 : Enters Try.prog 93 := enters_of Try.func93 (by kernel_rfl) rfl
instance : En Try.prog 93 := ⟨en93⟩
theorem en94 : Enters Try.prog 94 := enters_of Try.func94 (by kernel_rfl) rfl
instance : En Try.prog 94 := ⟨en94⟩
theorem en95 : Enters Try.prog 95 := enters_of Try.func95 (by kernel_rfl) rfl
instance : En Try.prog 95 := ⟨en95⟩
theorem en96 : Enters Try.prog 96 := enters_of Try.func96 (by kernel_rfl) rfl
instance : En Try.prog 96 := ⟨en96⟩
theorem en97 : Enters Try.prog 97 := enters_of Try.func97 (by kernel_rfl) rfl
instance : En Try.prog 97 := ⟨en97⟩
theorem en98 : Enters Try.prog 98 := enters_of Try.func98 (by kernel_rfl) rfl
instance : En Try.prog 98 := ⟨en98⟩
theorem en99 : Enters Try.prog 99 := enters_of Try.func99 (by kernel_rfl) rfl
instance : En Try.prog 99 := ⟨en99⟩
theorem en100 : Enters Try.prog 100 := enters_of Try.func100 (by kernel_rfl) rfl
instance : En Try.prog 100 := ⟨en100⟩
theorem en101 : Enters Try.prog 101 := enters_of Try.func101 (by kernel_rfl) rfl
instance : En Try.prog 101 := ⟨en101⟩
theorem en102 : Enters Try.prog 102 := enters_of Try.func102 (by kernel_rfl) rfl
instance : En Try.prog 102 := ⟨en102⟩
theorem en103 : Enters Try.prog 103 := enters_of Try.func103 (by kernel_rfl) rfl
instance : En Try.prog 103 := ⟨en103⟩
theorem en104 : Enters Try.prog 104 := enters_of Try.func104 (by kernel_rfl) rfl
instance : En Try.prog 104 := ⟨en104⟩
theorem en105 : Enters Try.prog 105 := enters_of Try.func105 (by kernel_rfl) rfl
instance : En Try.prog 105 := ⟨en105⟩
theorem en106 : Enters Try.prog 106 := enters_of Try.func106 (by kernel_rfl) rfl
instance : En Try.prog 106 := ⟨en106⟩
theorem en107 : Enters Try.prog 107 := enters_of Try.func107 (by kernel_rfl) rfl
instance : En Try.prog 107 := ⟨en107⟩
theorem en108 : Enters Try.prog 108 := enters_of Try.func108 (by kernel_rfl) rfl
instance : En Try.prog 108 := ⟨en108⟩
theorem en109 : Enters Try.prog 109 := enters_of Try.func109 (by kernel_rfl) rfl
instance : En Try.prog 109 := ⟨en109⟩
theorem en110 : Enters Try.prog 110 := enters_of Try.func110 (by kernel_rfl) rfl
instance : En Try.prog 110 := ⟨en110⟩
theorem en111 : Enters Try.prog 111 := enters_of Try.func111 (by kernel_rfl) rfl
instance : En Try.prog 111 := ⟨en111⟩
theorem en112 : Enters Try.prog 112 := enters_of Try.func112 (by kernel_rfl) rfl
instance : En Try.prog 112 := ⟨en112⟩
theorem en113 : Enters Try.prog 113 := enters_of Try.func113 (by kernel_rfl) rfl
instance : En Try.prog 113 := ⟨en113⟩
theorem en114 : Enters Try.prog 114 := enters_of Try.func114 (by kernel_rfl) rfl
instance : En Try.prog 114 := ⟨en114⟩
theorem en115 : Enters Try.prog 115 := enters_of Try.func115 (by kernel_rfl) rfl
instance : En Try.prog 115 := ⟨en115⟩
theorem en116 : Enters Try.prog 116 := enters_of Try.func116 (by kernel_rfl) rfl
instance : En Try.prog 116 := ⟨en116⟩
theorem en117 : Enters Try.prog 117 := enters_of Try.func117 (by kernel_rfl) rfl
instance : En Try.prog 117 := ⟨en117⟩
theorem en118 : Enters Try.prog 118 := enters_of Try.func118 (by kernel_rfl) rfl
instance : En Try.prog 118 := ⟨en118⟩
theorem en119 : Enters Try.prog 119 := enters_of Try.func119 (by kernel_rfl) rfl
instance : En Try.prog 119 := ⟨en119⟩
theorem en120 : Enters Try.prog 120 := enters_of Try.func120 (by kernel_rfl) rfl
instance : En Try.prog 120 := ⟨en120⟩
theorem en121 : Enters Try.prog 121 := enters_of Try.func121 (by kernel_rfl) rfl
instance : En Try.prog 121 := ⟨en121⟩
theorem en122 : Enters Try.prog 122 := enters_of Try.func122 (by kernel_rfl) rfl
instance : En Try.prog 122 := ⟨en122⟩
theorem en123 : Enters Try.prog 123 := enters_of Try.func123 (by kernel_rfl) rfl
instance : En Try.prog 123 := ⟨en123⟩
theorem en124 : Enters Try.prog 124 := enters_of Try.func124 (by kernel_rfl) rfl
instance : En Try.prog 124 := ⟨en124⟩
theorem en125 : Enters Try.prog 125 := enters_of Try.func125 (by kernel_rfl) rfl
instance : En Try.prog 125 := ⟨en125⟩
theorem en126 : Enters Try.prog 126 := enters_of Try.func126 (by kernel_rfl) rfl
instance : En Try.prog 126 := ⟨en126⟩
theorem en127 : Enters Try.prog 127 := enters_of Try.func127 (by kernel_rfl) rfl
instance : En Try.prog 127 := ⟨en127⟩
theorem en128 : Enters Try.prog 128 := enters_of Try.func128 (by kernel_rfl) rfl
instance : En Try.prog 128 := ⟨en128⟩
theorem en129 : Enters Try.prog 129 := enters_of Try.func129 (by kernel_rfl) rfl
instance : En Try.prog 129 := ⟨en129⟩
theorem en130 : Enters Try.prog 130 := enters_of Try.func130 (by kernel_rfl) rfl
instance : En Try.prog 130 := ⟨en130⟩
theorem en131 : Enters Try.prog 131 := enters_of Try.func131 (by kernel_rfl) rfl
instance : En Try.prog 131 := ⟨en131⟩
theorem en132 : Enters Try.prog 132 := enters_of Try.func132 (by kernel_rfl) rfl
instance : En Try.prog 132 := ⟨en132⟩
theorem en133 : Enters Try.prog 133 := enters_of Try.func133 (by kernel_rfl) rfl
instance : En Try.prog 133 := ⟨en133⟩
theorem en134 : Enters Try.prog 134 := enters_of Try.func134 (by kernel_rfl) rfl
instance : En Try.prog 134 := ⟨en134⟩
theorem en135 : Enters Try.prog 135 := enters_of Try.func135 (by kernel_rfl) rfl
instance : En Try.prog 135 := ⟨en135⟩
theorem en136 : Enters Try.prog 136 := enters_of Try.func136 (by kernel_rfl) rfl
instance : En Try.prog 136 := ⟨en136⟩
theorem en137 : Enters Try.prog 137 := enters_of Try.func137 (by kernel_rfl) rfl
instance : En Try.prog 137 := ⟨en137⟩
theorem en138 : Enters Try.prog 138 := enters_of Try.func138 (by kernel_rfl) rfl
instance : En Try.prog 138 := ⟨en138⟩
theorem en139 : Enters Try.prog 139 := enters_of Try.func139 (by kernel_rfl) rfl
instance : En Try.prog 139 := ⟨en139⟩
theorem en140 : Enters Try.prog 140 := enters_of Try.func140 (by kernel_rfl) rfl
instance : En Try.prog 140 := ⟨en140⟩
theorem en141 : Enters Try.prog 141 := enters_of Try.func141 (by kernel_rfl) rfl
instance : En Try.prog 141 := ⟨en141⟩
theorem en142 : Enters Try.prog 142 := enters_of Try.func142 (by kernel_rfl) rfl
instance : En Try.prog 142 := ⟨en142⟩
theorem en143 : Enters Try.prog 143 := enters_of Try.func143 (by kernel_rfl) rfl
instance : En Try.prog 143 := ⟨en143⟩
theorem en144 : Enters Try.prog 144 := enters_of Try.func144 (by kernel_rfl) rfl
instance : En Try.prog 144 := ⟨en144⟩
theorem en145 : Enters Try.prog 145 := enters_of Try.func145 (by kernel_rfl) rfl
instance : En Try.prog 145 := ⟨en145⟩
theorem en146 : Enters Try.prog 146 := enters_of Try.func146 (by kernel_rfl) rfl
instance : En Try.prog 146 := ⟨en146⟩
theorem en147 : Enters Try.prog 147 := enters_of Try.func147 (by kernel_rfl) rfl
instance : En Try.prog 147 := ⟨en147⟩
theorem en148 : Enters Try.prog 148 := enters_of Try.func148 (by kernel_rfl) rfl
instance : En Try.prog 148 := ⟨en148⟩
theorem en149 : Enters Try.prog 149 := enters_of Try.func149 (by kernel_rfl) rfl
instance : En Try.prog 149 := ⟨en149⟩
theorem en150 : Enters Try.prog 150 := enters_of Try.func150 (by kernel_rfl) rfl
instance : En Try.prog 150 := ⟨en150⟩
theorem en151 : Enters Try.prog 151 := enters_of Try.func151 (by kernel_rfl) rfl
instance : En Try.prog 151 := ⟨en151⟩
theorem en152 : Enters Try.prog 152 := enters_of Try.func152 (by kernel_rfl) rfl
instance : En Try.prog 152 := ⟨en152⟩
theorem en153 : Enters Try.prog 153 := enters_of Try.func153 (by kernel_rfl) rfl
instance : En Try.prog 153 := ⟨en153⟩
theorem en154 : Enters Try.prog 154 := enters_of Try.func154 (by kernel_rfl) rfl
instance : En Try.prog 154 := ⟨en154⟩
theorem en155 : Enters Try.prog 155 := enters_of Try.func155 (by kernel_rfl) rfl
instance : En Try.prog 155 := ⟨en155⟩
theorem en156 : Enters Try.prog 156 := enters_of Try.func156 (by kernel_rfl) rfl
instance : En Try.prog 156 := ⟨en156⟩
theorem en157 : Enters Try.prog 157 := enters_of Try.func157 (by kernel_rfl) rfl
instance : En Try.prog 157 := ⟨en157⟩
theorem en158 : Enters Try.prog 158 := enters_of Try.func158 (by kernel_rfl) rfl
instance : En Try.prog 158 := ⟨en158⟩
theorem en159 : Enters Try.prog 159 := enters_of Try.func159 (by kernel_rfl) rfl
instance : En Try.prog 159 := ⟨en159⟩
theorem en160 : Enters Try.prog 160 := enters_of Try.func160 (by kernel_rfl) rfl
instance : En Try.prog 160 := ⟨en160⟩
theorem en161 : Enters Try.prog 161 := enters_of Try.func161 (by kernel_rfl) rfl
instance : En Try.prog 161 := ⟨en161⟩
theorem en162 : Enters Try.prog 162 := enters_of Try.func162 (by kernel_rfl) rfl
instance : En Try.prog 162 := ⟨en162⟩
theorem en163 : Enters Try.prog 163 := enters_of Try.func163 (by kernel_rfl) rfl
instance : En Try.prog 163 := ⟨en163⟩
theorem en164 : Enters Try.prog 164 := enters_of Try.func164 (by kernel_rfl) rfl
instance : En Try.prog 164 := ⟨en164⟩
theorem en165 : Enters Try.prog 165 := enters_of Try.func165 (by kernel_rfl) rfl
instance : En Try.prog 165 := ⟨en165⟩
theorem en166 : Enters Try.prog 166 := enters_of Try.func166 (by kernel_rfl) rfl
instance : En Try.prog 166 := ⟨en166⟩
theorem en167 : Enters Try.prog 167 := enters_of Try.func167 (by kernel_rfl) rfl
instance : En Try.prog 167 := ⟨en167⟩
theorem en168 : Enters Try.prog 168 := enters_of Try.func168 (by kernel_rfl) rfl
instance : En Try.prog 168 := ⟨en168⟩
theorem en169 : Enters Try.prog 169 := enters_of Try.func169 (by kernel_rfl) rfl
instance : En Try.prog 169 := ⟨en169⟩
theorem en170 : Enters Try.prog 170 := enters_of Try.func170 (by kernel_rfl) rfl
instance : En Try.prog 170 := ⟨en170⟩
theorem en171 : Enters Try.prog 171 := enters_of Try.func171 (by kernel_rfl) rfl
instance : En Try.prog 171 := ⟨en171⟩
theorem en172 : Enters Try.prog 172 := enters_of Try.func172 (by kernel_rfl) rfl
instance : En Try.prog 172 := ⟨en172⟩
theorem en173 : Enters Try.prog 173 := enters_of Try.func173 (by kernel_rfl) rfl
instance : En Try.prog 173 := ⟨en173⟩
theorem en174 : Enters Try.prog 174 := enters_of Try.func174 (by kernel_rfl) rfl
instance : En Try.prog 174 := ⟨en174⟩
theorem en175 : Enters Try.prog 175 := enters_of Try.func175 (by kernel_rfl) rfl
instance : En Try.prog 175 := ⟨en175⟩
theorem en176 : Enters Try.prog 176 := enters_of Try.func176 (by kernel_rfl) rfl
instance : En Try.prog 176 := ⟨en176⟩
theorem en177 : Enters Try.prog 177 := enters_of Try.func177 (by kernel_rfl) rfl
instance : En Try.prog 177 := ⟨en177⟩
theorem en178 : Enters Try.prog 178 := enters_of Try.func178 (by kernel_rfl) rfl
instance : En Try.prog 178 := ⟨en178⟩
theorem en179 : Enters Try.prog 179 := enters_of Try.func179 (by kernel_rfl) rfl
instance : En Try.prog 179 := ⟨en179⟩
theorem en180 : Enters Try.prog 180 := enters_of Try.func180 (by kernel_rfl) rfl
instance : En Try.prog 180 := ⟨en180⟩
theorem en181 : Enters Try.prog 181 := enters_of Try.func181 (by kernel_rfl) rfl
instance : En Try.prog 181 := ⟨en181⟩
theorem en182 : Enters Try.prog 182 := enters_of Try.func182 (by kernel_rfl) rfl
instance : En Try.prog 182 := ⟨en182⟩
theorem en183 : Enters Try.prog 183 := enters_of Try.func183 (by kernel_rfl) rfl
instance : En Try.prog 183 := ⟨en183⟩
theorem en184 : Enters Try.prog 184 := enters_of Try.func184 (by kernel_rfl) rfl
instance : En Try.prog 184 := ⟨en184⟩
theorem en185 : Enters Try.prog 185 := enters_of Try.func185 (by kernel_rfl) rfl
instance : En Try.prog 185 := ⟨en185⟩
theorem en186 : Enters Try.prog 186 := enters_of Try.func186 (by kernel_rfl) rfl
instance : En Try.prog 186 := ⟨en186⟩
theorem en187 : Enters Try.prog 187 := enters_of Try.func187 (by kernel_rfl) rfl
instance : En Try.prog 187 := ⟨en187⟩
theorem en188 : Enters Try.prog 188 := enters_of Try.func188 (by kernel_rfl) rfl
instance : En Try.prog 188 := ⟨en188⟩
theorem en189 : Enters Try.prog 189 := enters_of Try.func189 (by kernel_rfl) rfl
instance : En Try.prog 189 := ⟨en189⟩
theorem en190 : Enters Try.prog 190 := enters_of Try.func190 (by kernel_rfl) rfl
instance : En Try.prog 190 := ⟨en190⟩
theorem en191 : Enters Try.prog 191 := enters_of Try.func191 (by kernel_rfl) rfl
instance : En Try.prog 191 := ⟨en191⟩
theorem en193 : Enters Try.prog 193 := enters_of Try.func193 (by kernel_rfl) rfl
instance : En Try.prog 193 := ⟨en193⟩
theorem en194 : Enters Try.prog 194 := enters_of Try.func194 (by kernel_rfl) rfl
instance : En Try.prog 194 := ⟨en194⟩
theorem en195 : Enters Try.prog 195 := enters_of Try.func195 (by kernel_rfl) rfl
instance : En Try.prog 195 := ⟨en195⟩
theorem en196 : Enters Try.prog 196 := enters_of Try.func196 (by kernel_rfl) rfl
instance : En Try.prog 196 := ⟨en196⟩
theorem en197 : Enters Try.prog 197 := enters_of Try.func197 (by kernel_rfl) rfl
instance : En Try.prog 197 := ⟨en197⟩
theorem en198 : Enters Try.prog 198 := enters_of Try.func198 (by kernel_rfl) rfl
instance : En Try.prog 198 := ⟨en198⟩
theorem en199 : Enters Try.prog 199 := enters_of Try.func199 (by kernel_rfl) rfl
instance : En Try.prog 199 := ⟨en199⟩
theorem en200 : Enters Try.prog 200 := enters_of Try.func200 (by kernel_rfl) rfl
instance : En Try.prog 200 := ⟨en200⟩
theorem en201 : Enters Try.prog 201 := enters_of Try.func201 (by kernel_rfl) rfl
instance : En Try.prog 201 := ⟨en201⟩
theorem en202 : Enters Try.prog 202 := enters_of Try.func202 (by kernel_rfl) rfl
instance : En Try.prog 202 := ⟨en202⟩
theorem en203 : Enters Try.prog 203 := enters_of Try.func203 (by kernel_rfl) rfl
instance : En Try.prog 203 := ⟨en203⟩
theorem en204 : Enters Try.prog 204 := enters_of Try.func204 (by kernel_rfl) rfl
instance : En Try.prog 204 := ⟨en204⟩
theorem en205 : Enters Try.prog 205 := enters_of Try.func205 (by kernel_rfl) rfl
instance : En Try.prog 205 := ⟨en205⟩
theorem en206 : Enters Try.prog 206 := enters_of Try.func206 (by kernel_rfl) rfl
instance : En Try.prog 206 := ⟨en206⟩
theorem en207 : Enters Try.prog 207 := enters_of Try.func207 (by kernel_rfl) rfl
instance : En Try.prog 207 := ⟨en207⟩
theorem en208 : Enters Try.prog 208 := enters_of Try.func208 (by kernel_rfl) rfl
instance : En Try.prog 208 := ⟨en208⟩
theorem en209 : Enters Try.prog 209 := enters_of Try.func209 (by kernel_rfl) rfl
instance : En Try.prog 209 := ⟨en209⟩
theorem en210 : Enters Try.prog 210 := enters_of Try.func210 (by kernel_rfl) rfl
instance : En Try.prog 210 := ⟨en210⟩
theorem en211 : Enters Try.prog 211 := enters_of Try.func211 (by kernel_rfl) rfl
instance : En Try.prog 211 := ⟨en211⟩
theorem en212 : Enters Try.prog 212 := enters_of Try.func212 (by kernel_rfl) rfl
instance : En Try.prog 212 := ⟨en212⟩
theorem en213 : Enters Try.prog 213 := enters_of Try.func213 (by kernel_rfl) rfl
instance : En Try.prog 213 := ⟨en213⟩
theorem en214 : Enters Try.prog 214 := enters_of Try.func214 (by kernel_rfl) rfl
instance : En Try.prog 214 := ⟨en214⟩
theorem en215 : Enters Try.prog 215 := enters_of Try.func215 (by kernel_rfl) rfl
instance : En Try.prog 215 := ⟨en215⟩
theorem en216 : Enters Try.prog 216 := enters_of Try.func216 (by kernel_rfl) rfl
instance : En Try.prog 216 := ⟨en216⟩
theorem en217 : Enters Try.prog 217 := enters_of Try.func217 (by kernel_rfl) rfl
instance : En Try.prog 217 := ⟨en217⟩
theorem en218 : Enters Try.prog 218 := enters_of Try.func218 (by kernel_rfl) rfl
instance : En Try.prog 218 := ⟨en218⟩
theorem en219 : Enters Try.prog 219 := enters_of Try.func219 (by kernel_rfl) rfl
instance : En Try.prog 219 := ⟨en219⟩
theorem en220 : Enters Try.prog 220 := enters_of Try.func220 (by kernel_rfl) rfl
instance : En Try.prog 220 := ⟨en220⟩
theorem en221 : Enters Try.prog 221 := enters_of Try.func221 (by kernel_rfl) rfl
instance : En Try.prog 221 := ⟨en221⟩
theorem en222 : Enters Try.prog 222 := enters_of Try.func222 (by kernel_rfl) rfl
instance : En Try.prog 222 := ⟨en222⟩
theorem en223 : Enters Try.prog 223 := enters_of Try.func223 (by kernel_rfl) rfl
instance : En Try.prog 223 := ⟨en223⟩
theorem en224 : Enters Try.prog 224 := enters_of Try.func224 (by kernel_rfl) rfl
instance : En Try.prog 224 := ⟨en224⟩
theorem en225 : Enters Try.prog 225 := enters_of Try.func225 (by kernel_rfl) rfl
instance : En Try.prog 225 := ⟨en225⟩
theorem en226 : Enters Try.prog 226 := enters_of Try.func226 (by kernel_rfl) rfl
instance : En Try.prog 226 := ⟨en226⟩
theorem en227 : Enters Try.prog 227 := enters_of Try.func227 (by kernel_rfl) rfl
instance : En Try.prog 227 := ⟨en227⟩
theorem en228 : Enters Try.prog 228 := enters_of Try.func228 (by kernel_rfl) rfl
instance : En Try.prog 228 := ⟨en228⟩
theorem en229 : Enters Try.prog 229 := enters_of Try.func229 (by kernel_rfl) rfl
instance : En Try.prog 229 := ⟨en229⟩
theorem en230 : Enters Try.prog 230 := enters_of Try.func230 (by kernel_rfl) rfl
instance : En Try.prog 230 := ⟨en230⟩
theorem en231 : Enters Try.prog 231 := enters_of Try.func231 (by kernel_rfl) rfl
instance : En Try.prog 231 := ⟨en231⟩
theorem en232 : Enters Try.prog 232 := enters_of Try.func232 (by kernel_rfl) rfl
instance : En Try.prog 232 := ⟨en232⟩
theorem en233 : Enters Try.prog 233 := enters_of Try.func233 (by kernel_rfl) rfl
instance : En Try.prog 233 := ⟨en233⟩
theorem en234 : Enters Try.prog 234 := enters_of Try.func234 (by kernel_rfl) rfl
instance : En Try.prog 234 := ⟨en234⟩
theorem en235 : Enters Try.prog 235 := enters_of Try.func235 (by kernel_rfl) rfl
instance : En Try.prog 235 := ⟨en235⟩
theorem en236 : Enters Try.prog 236 := enters_of Try.func236 (by kernel_rfl) rfl
instance : En Try.prog 236 := ⟨en236⟩
theorem en237 : Enters Try.prog 237 := enters_of Try.func237 (by kernel_rfl) rfl
instance : En Try.prog 237 := ⟨en237⟩
theorem en238 : Enters Try.prog 238 := enters_of Try.func238 (by kernel_rfl) rfl
instance : En Try.prog 238 := ⟨en238⟩
theorem en239 : Enters Try.prog 239 := enters_of Try.func239 (by kernel_rfl) rfl
instance : En Try.prog 239 := ⟨en239⟩
theorem en240 : Enters Try.prog 240 := enters_of Try.func240 (by kernel_rfl) rfl
instance : En Try.prog 240 := ⟨en240⟩
theorem en241 : Enters Try.prog 241 := enters_of Try.func241 (by kernel_rfl) rfl
instance : En Try.prog 241 := ⟨en241⟩
theorem en242 : Enters Try.prog 242 := enters_of Try.func242 (by kernel_rfl) rfl
instance : En Try.prog 242 := ⟨en242⟩
theorem en243 : Enters Try.prog 243 := enters_of Try.func243 (by kernel_rfl) rfl
instance : En Try.prog 243 := ⟨en243⟩
theorem en244 : Enters Try.prog 244 := enters_of Try.func244 (by kernel_rfl) rfl
instance : En Try.prog 244 := ⟨en244⟩
theorem en245 : Enters Try.prog 245 := enters_of Try.func245 (by kernel_rfl) rfl
instance : En Try.prog 245 := ⟨en245⟩
theorem en246 : Enters Try.prog 246 := enters_of Try.func246 (by kernel_rfl) rfl
instance : En Try.prog 246 := ⟨en246⟩
theorem en247 : Enters Try.prog 247 := enters_of Try.func247 (by kernel_rfl) rfl
instance : En Try.prog 247 := ⟨en247⟩
theorem en248 : Enters Try.prog 248 := enters_of Try.func248 (by kernel_rfl) rfl
instance : En Try.prog 248 := ⟨en248⟩
theorem en249 : Enters Try.prog 249 := enters_of Try.func249 (by kernel_rfl) rfl
instance : En Try.prog 249 := ⟨en249⟩
theorem en250 : Enters Try.prog 250 := enters_of Try.func250 (by kernel_rfl) rfl
instance : En Try.prog 250 := ⟨en250⟩
theorem en251 : Enters Try.prog 251 := enters_of Try.func251 (by kernel_rfl) rfl
instance : En Try.prog 251 := ⟨en251⟩
theorem en252 : Enters Try.prog 252 := enters_of Try.func252 (by kernel_rfl) rfl
instance : En Try.prog 252 := ⟨en252⟩
theorem en253 : Enters Try.prog 253 := enters_of Try.func253 (by kernel_rfl) rfl
instance : En Try.prog 253 := ⟨en253⟩
theorem en254 : Enters Try.prog 254 := enters_of Try.func254 (by kernel_rfl) rfl
instance : En Try.prog 254 := ⟨en254⟩
theorem en255 : Enters Try.prog 255 := enters_of Try.func255 (by kernel_rfl) rfl
instance : En Try.prog 255 := ⟨en255⟩
theorem en256 : Enters Try.prog 256 := enters_of Try.func256 (by kernel_rfl) rfl
instance : En Try.prog 256 := ⟨en256⟩
theorem en257 : Enters Try.prog 257 := enters_of Try.func257 (by kernel_rfl) rfl
instance : En Try.prog 257 := ⟨en257⟩
theorem en258 : Enters Try.prog 258 := enters_of Try.func258 (by kernel_rfl) rfl
instance : En Try.prog 258 := ⟨en258⟩
theorem en259 : Enters Try.prog 259 := enters_of Try.func259 (by kernel_rfl) rfl
instance : En Try.prog 259 := ⟨en259⟩
theorem en260 : Enters Try.prog 260 := enters_of Try.func260 (by kernel_rfl) rfl
instance : En Try.prog 260 := ⟨en260⟩
theorem en261 : Enters Try.prog 261 := enters_of Try.func261 (by kernel_rfl) rfl
instance : En Try.prog 261 := ⟨en261⟩
theorem en262 : Enters Try.prog 262 := enters_of Try.func262 (by kernel_rfl) rfl
instance : En Try.prog 262 := ⟨en262⟩
theorem en263 : Enters Try.prog 263 := enters_of Try.func263 (by kernel_rfl) rfl
instance : En Try.prog 263 := ⟨en263⟩
theorem en264 : Enters Try.prog 264 := enters_of Try.func264 (by kernel_rfl) rfl
instance : En Try.prog 264 := ⟨en264⟩
theorem en265 : Enters Try.prog 265 := enters_of Try.func265 (by kernel_rfl) rfl
instance : En Try.prog 265 := ⟨en265⟩
theorem en266 : Enters Try.prog 266 := enters_of Try.func266 (by kernel_rfl) rfl
instance : En Try.prog 266 := ⟨en266⟩
theorem en267 : Enters Try.prog 267 := enters_of Try.func267 (by kernel_rfl) rfl
instance : En Try.prog 267 := ⟨en267⟩
theorem en268 : Enters Try.prog 268 := enters_of Try.func268 (by kernel_rfl) rfl
instance : En Try.prog 268 := ⟨en268⟩
theorem en269 : Enters Try.prog 269 := enters_of Try.func269 (by kernel_rfl) rfl
instance : En Try.prog 269 := ⟨en269⟩
theorem en270 : Enters Try.prog 270 := enters_of Try.func270 (by kernel_rfl) rfl
instance : En Try.prog 270 := ⟨en270⟩
theorem en271 : Enters Try.prog 271 := enters_of Try.func271 (by kernel_rfl) rfl
instance : En Try.prog 271 := ⟨en271⟩
theorem en272 : Enters Try.prog 272 := enters_of Try.func272 (by kernel_rfl) rfl
instance : En Try.prog 272 := ⟨en272⟩
theorem en273 : Enters Try.prog 273 := enters_of Try.func273 (by kernel_rfl) rfl
instance : En Try.prog 273 := ⟨en273⟩
theorem en274 : Enters Try.prog 274 := enters_of Try.func274 (by kernel_rfl) rfl
instance : En Try.prog 274 := ⟨en274⟩
theorem en275 : Enters Try.prog 275 := enters_of Try.func275 (by kernel_rfl) rfl
instance : En Try.prog 275 := ⟨en275⟩
theorem en276 : Enters Try.prog 276 := enters_of Try.func276 (by kernel_rfl) rfl
instance : En Try.prog 276 := ⟨en276⟩
theorem en277 : Enters Try.prog 277 := enters_of Try.func277 (by kernel_rfl) rfl
instance : En Try.prog 277 := ⟨en277⟩
theorem en278 : Enters Try.prog 278 := enters_of Try.func278 (by kernel_rfl) rfl
instance : En Try.prog 278 := ⟨en278⟩
theorem en279 : Enters Try.prog 279 := enters_of Try.func279 (by kernel_rfl) rfl
instance : En Try.prog 279 := ⟨en279⟩
theorem en280 : Enters Try.prog 280 := enters_of Try.func280 (by kernel_rfl) rfl
instance : En Try.prog 280 := ⟨en280⟩
theorem en281 : Enters Try.prog 281 := enters_of Try.func281 (by kernel_rfl) rfl
instance : En Try.prog 281 := ⟨en281⟩
theorem en282 : Enters Try.prog 282 := enters_of Try.func282 (by kernel_rfl) rfl
instance : En Try.prog 282 := ⟨en282⟩
theorem en283 : Enters Try.prog 283 := enters_of Try.func283 (by kernel_rfl) rfl
instance : En Try.prog 283 := ⟨en283⟩
theorem en284 : Enters Try.prog 284 := enters_of Try.func284 (by kernel_rfl) rfl
instance : En Try.prog 284 := ⟨en284⟩
theorem en285 : Enters Try.prog 285 := enters_of Try.func285 (by kernel_rfl) rfl
instance : En Try.prog 285 := ⟨en285⟩
theorem en286 : Enters Try.prog 286 := enters_of Try.func286 (by kernel_rfl) rfl
instance : En Try.prog 286 := ⟨en286⟩
theorem en287 : Enters Try.prog 287 := enters_of Try.func287 (by kernel_rfl) rfl
instance : En Try.prog 287 := ⟨en287⟩
theorem en288 : Enters Try.prog 288 := enters_of Try.func288 (by kernel_rfl) rfl
instance : En Try.prog 288 := ⟨en288⟩
theorem en289 : Enters Try.prog 289 := enters_of Try.func289 (by kernel_rfl) rfl
instance : En Try.prog 289 := ⟨en289⟩
theorem en290 : Enters Try.prog 290 := enters_of Try.func290 (by kernel_rfl) rfl
instance : En Try.prog 290 := ⟨en290⟩
theorem en291 : Enters Try.prog 291 := enters_of Try.func291 (by kernel_rfl) rfl
instance : En Try.prog 291 := ⟨en291⟩
theorem en292 : Enters Try.prog 292 := enters_of Try.func292 (by kernel_rfl) rfl
instance : En Try.prog 292 := ⟨en292⟩
theorem en293 : Enters Try.prog 293 := enters_of Try.func293 (by kernel_rfl) rfl
instance : En Try.prog 293 := ⟨en293⟩
theorem en294 : Enters Try.prog 294 := enters_of Try.func294 (by kernel_rfl) rfl
instance : En Try.prog 294 := ⟨en294⟩
instance : Sz Try.prog 1 (.nilFunc) 1 8 := ⟨by kernel_rfl⟩
instance : ZeroC Try.prog 1 [.nilFunc] := ⟨zeroC_of (z := .nilFunc) (by kernel_rfl) rfl⟩
instance : Scalar Try.prog 1 := ⟨_, Try.underlying1, rfl⟩
instance : Sz Try.prog 2 (.int .i64 0) 1 8 := ⟨by kernel_rfl⟩
instance : ZeroC Try.prog 2 [.int .i64 0] := ⟨zeroC_of (z := .int .i64 0) (by kernel_rfl) rfl⟩
instance : Scalar Try.prog 2 := ⟨_, Try.underlying2, rfl⟩
instance : Sz Try.prog 3 (.int .i64 0) 1 8 := ⟨by kernel_rfl⟩
instance : ZeroC Try.prog 3 [.int .i64 0] := ⟨zeroC_of (z := .int .i64 0) (by kernel_rfl) rfl⟩
instance : Scalar Try.prog 3 := ⟨_, Try.underlying3, rfl⟩
instance : Sz Try.prog 4 (.bool false) 1 1 := ⟨by kernel_rfl⟩
instance : ZeroC Try.prog 4 [.bool false] := ⟨zeroC_of (z := .bool false) (by kernel_rfl) rfl⟩
instance : Scalar Try.prog 4 := ⟨_, Try.underlying4, rfl⟩
instance : BoolT Try.prog 4 := ⟨Try.underlying4⟩
instance : Sz Try.prog 5 (.int .u8 0) 1 1 := ⟨by kernel_rfl⟩
instance : ZeroC Try.prog 5 [.int .u8 0] := ⟨zeroC_of (z := .int .u8 0) (by kernel_rfl) rfl⟩
instance : Scalar Try.prog 5 := ⟨_, Try.underlying5, rfl⟩
instance : Sz Try.prog 6 (.int .u8 0) 1 1 := ⟨by kernel_rfl⟩
instance : ZeroC Try.prog 6 [.int .u8 0] := ⟨zeroC_of (z := .int .u8 0) (by kernel_rfl) rfl⟩
instance : Scalar Try.prog 6 := ⟨_, Try.underlying6, rfl⟩
instance : Sz Try.prog 7 (.agg #[.int .i64 0, .int .i64 0, .bool false, .int .u8 0]) 4 24 := ⟨by kernel_rfl⟩
instance : ZeroC Try.prog 7 [.int .i64 0, .int .i64 0, .bool false, .int .u8 0] := ⟨zeroC_of (z := .agg #[.int .i64 0, .int .i64 0, .bool false, .int .u8 0]) (by kernel_rfl) rfl⟩
instance : Parts Try.prog 7 [(0, 1), (1, 1), (2, 1), (3, 1)] := ⟨.inl ⟨_, Try.underlying7, by kernel_rfl, by kernel_rfl⟩⟩
instance : Aggr Try.prog 7 4 := ⟨⟨_, Try.underlying7, rfl⟩, by kernel_rfl⟩
instance : Fld Try.prog 7 0 0 := ⟨fld_of (by kernel_rfl)⟩
instance : Fld Try.prog 7 1 1 := ⟨fld_of (by kernel_rfl)⟩
instance : Fld Try.prog 7 2 2 := ⟨fld_of (by kernel_rfl)⟩
instance : Fld Try.prog 7 3 3 := ⟨fld_of (by kernel_rfl)⟩
instance : Sz Try.prog 8 (.agg #[.int .i64 0, .int .i64 0, .bool false, .int .u8 0]) 4 24 := ⟨by kernel_rfl⟩
instance : ZeroC Try.prog 8 [.int .i64 0, .int .i64 0, .bool false, .int .u8 0] := ⟨zeroC_of (z := .agg #[.int .i64 0, .int .i64 0, .bool false, .int .u8 0]) (by kernel_rfl) rfl⟩
instance : Parts Try.prog 8 [(0, 1), (1, 1), (2, 1), (3, 1)] := ⟨.inl ⟨_, Try.underlying8, by kernel_rfl, by kernel_rfl⟩⟩
instance : Aggr Try.prog 8 4 := ⟨⟨_, Try.underlying8, rfl⟩, by kernel_rfl⟩
instance : Fld Try.prog 8 0 0 := ⟨fld_of (by kernel_rfl)⟩
instance : Fld Try.prog 8 1 1 := ⟨fld_of (by kernel_rfl)⟩
instance : Fld Try.prog 8 2 2 := ⟨fld_of (by kernel_rfl)⟩
instance : Fld Try.prog 8 3 3 := ⟨fld_of (by kernel_rfl)⟩
instance : Sz Try.prog 9 (.string ⟨#[]⟩) 1 16 := ⟨by kernel_rfl⟩
instance : ZeroC Try.prog 9 [.string ⟨#[]⟩] := ⟨zeroC_of (z := .string ⟨#[]⟩) (by kernel_rfl) rfl⟩
instance : Scalar Try.prog 9 := ⟨_, Try.underlying9, rfl⟩
instance : StrT Try.prog 9 := ⟨Try.underlying9⟩
instance : Sz Try.prog 10 (.string ⟨#[]⟩) 1 16 := ⟨by kernel_rfl⟩
instance : ZeroC Try.prog 10 [.string ⟨#[]⟩] := ⟨zeroC_of (z := .string ⟨#[]⟩) (by kernel_rfl) rfl⟩
instance : Scalar Try.prog 10 := ⟨_, Try.underlying10, rfl⟩
instance : StrT Try.prog 10 := ⟨Try.underlying10⟩
instance : Sz Try.prog 11 (.string ⟨#[]⟩) 1 16 := ⟨by kernel_rfl⟩
instance : ZeroC Try.prog 11 [.string ⟨#[]⟩] := ⟨zeroC_of (z := .string ⟨#[]⟩) (by kernel_rfl) rfl⟩
instance : Scalar Try.prog 11 := ⟨_, Try.underlying11, rfl⟩
instance : StrT Try.prog 11 := ⟨Try.underlying11⟩
instance : Sz Try.prog 12 (.int .u64 0) 1 8 := ⟨by kernel_rfl⟩
instance : ZeroC Try.prog 12 [.int .u64 0] := ⟨zeroC_of (z := .int .u64 0) (by kernel_rfl) rfl⟩
instance : Scalar Try.prog 12 := ⟨_, Try.underlying12, rfl⟩
instance : Sz Try.prog 13 (.agg #[.string ⟨#[]⟩, .int .u64 0]) 2 24 := ⟨by kernel_rfl⟩
instance : ZeroC Try.prog 13 [.string ⟨#[]⟩, .int .u64 0] := ⟨zeroC_of (z := .agg #[.string ⟨#[]⟩, .int .u64 0]) (by kernel_rfl) rfl⟩
instance : Parts Try.prog 13 [(0, 1), (1, 1)] := ⟨.inl ⟨_, Try.underlying13, by kernel_rfl, by kernel_rfl⟩⟩
instance : Aggr Try.prog 13 2 := ⟨⟨_, Try.underlying13, rfl⟩, by kernel_rfl⟩
instance : Fld Try.prog 13 0 0 := ⟨fld_of (by kernel_rfl)⟩
instance : Fld Try.prog 13 1 1 := ⟨fld_of (by kernel_rfl)⟩
instance : Sz Try.prog 15 (.pointer none) 1 8 := ⟨by kernel_rfl⟩
instance : ZeroC Try.prog 15 [.pointer none] := ⟨zeroC_of (z := .pointer none) (by kernel_rfl) rfl⟩
instance : Scalar Try.prog 15 := ⟨_, Try.underlying15, rfl⟩
instance : Sz Try.prog 17 (.pointer none) 1 8 := ⟨by kernel_rfl⟩
instance : ZeroC Try.prog 17 [.pointer none] := ⟨zeroC_of (z := .pointer none) (by kernel_rfl) rfl⟩
instance : Scalar Try.prog 17 := ⟨_, Try.underlying17, rfl⟩
instance : Sz Try.prog 18 (.agg #[.pointer none]) 1 8 := ⟨by kernel_rfl⟩
instance : ZeroC Try.prog 18 [.pointer none] := ⟨zeroC_of (z := .agg #[.pointer none]) (by kernel_rfl) rfl⟩
instance : Parts Try.prog 18 [(0, 1)] := ⟨.inl ⟨_, Try.underlying18, by kernel_rfl, by kernel_rfl⟩⟩
instance : Aggr Try.prog 18 1 := ⟨⟨_, Try.underlying18, rfl⟩, by kernel_rfl⟩
instance : Fld Try.prog 18 0 0 := ⟨fld_of (by kernel_rfl)⟩
instance : Sz Try.prog 20 (.nilIface) 1 16 := ⟨by kernel_rfl⟩
instance : ZeroC Try.prog 20 [.nilIface] := ⟨zeroC_of (z := .nilIface) (by kernel_rfl) rfl⟩
instance : Scalar Try.prog 20 := ⟨_, Try.underlying20, rfl⟩
instance : Sz Try.prog 21 (.int .i32 0) 1 4 := ⟨by kernel_rfl⟩
instance : ZeroC Try.prog 21 [.int .i32 0] := ⟨zeroC_of (z := .int .i32 0) (by kernel_rfl) rfl⟩
instance : Scalar Try.prog 21 := ⟨_, Try.underlying21, rfl⟩
instance : Sz Try.prog 22 (.agg #[.int .i64 0, .int .i64 0, .int .i64 0, .int .i64 0, .bool false, .int .i64 0, .int .i64 0]) 7 56 := ⟨by kernel_rfl⟩
instance : ZeroC Try.prog 22 [.int .i64 0, .int .i64 0, .int .i64 0, .int .i64 0, .bool false, .int .i64 0, .int .i64 0] := ⟨zeroC_of (z := .agg #[.int .i64 0, .int .i64 0, .int .i64 0, .int .i64 0, .bool false, .int .i64 0, .int .i64 0]) (by kernel_rfl) rfl⟩
instance : Parts Try.prog 22 [(0, 1), (1, 1), (2, 1), (3, 1), (4, 1), (5, 1), (6, 1)] := ⟨.inl ⟨_, Try.underlying22, by kernel_rfl, by kernel_rfl⟩⟩
instance : Aggr Try.prog 22 7 := ⟨⟨_, Try.underlying22, rfl⟩, by kernel_rfl⟩
instance : Fld Try.prog 22 0 0 := ⟨fld_of (by kernel_rfl)⟩
instance : Fld Try.prog 22 1 1 := ⟨fld_of (by kernel_rfl)⟩
instance : Fld Try.prog 22 2 2 := ⟨fld_of (by kernel_rfl)⟩
instance : Fld Try.prog 22 3 3 := ⟨fld_of (by kernel_rfl)⟩
instance : Fld Try.prog 22 4 4 := ⟨fld_of (by kernel_rfl)⟩
instance : Fld Try.prog 22 5 5 := ⟨fld_of (by kernel_rfl)⟩
instance : Fld Try.prog 22 6 6 := ⟨fld_of (by kernel_rfl)⟩
instance : Sz Try.prog 23 (.agg #[.int .i64 0, .int .i64 0, .int .i64 0, .int .i64 0, .bool false, .int .i64 0, .int .i64 0]) 7 56 := ⟨by kernel_rfl⟩
instance : ZeroC Try.prog 23 [.int .i64 0, .int .i64 0, .int .i64 0, .int .i64 0, .bool false, .int .i64 0, .int .i64 0] := ⟨zeroC_of (z := .agg #[.int .i64 0, .int .i64 0, .int .i64 0, .int .i64 0, .bool false, .int .i64 0, .int .i64 0]) (by kernel_rfl) rfl⟩
instance : Parts Try.prog 23 [(0, 1), (1, 1), (2, 1), (3, 1), (4, 1), (5, 1), (6, 1)] := ⟨.inl ⟨_, Try.underlying23, by kernel_rfl, by kernel_rfl⟩⟩
instance : Aggr Try.prog 23 7 := ⟨⟨_, Try.underlying23, rfl⟩, by kernel_rfl⟩
instance : Fld Try.prog 23 0 0 := ⟨fld_of (by kernel_rfl)⟩
instance : Fld Try.prog 23 1 1 := ⟨fld_of (by kernel_rfl)⟩
instance : Fld Try.prog 23 2 2 := ⟨fld_of (by kernel_rfl)⟩
instance : Fld Try.prog 23 3 3 := ⟨fld_of (by kernel_rfl)⟩
instance : Fld Try.prog 23 4 4 := ⟨fld_of (by kernel_rfl)⟩
instance : Fld Try.prog 23 5 5 := ⟨fld_of (by kernel_rfl)⟩
instance : Fld Try.prog 23 6 6 := ⟨fld_of (by kernel_rfl)⟩
instance : Sz Try.prog 24 (.slice none 0 0) 1 24 := ⟨by kernel_rfl⟩
instance : ZeroC Try.prog 24 [.slice none 0 0] := ⟨zeroC_of (z := .slice none 0 0) (by kernel_rfl) rfl⟩
instance : Scalar Try.prog 24 := ⟨_, Try.underlying24, rfl⟩
instance : SliceT Try.prog 24 132 := ⟨Try.underlying24⟩
instance : Sz Try.prog 26 (.agg #[.int .i64 0, .int .i64 0, .int .i64 0, .int .i64 0, .bool false, .int .i64 0, .int .i64 0]) 7 56 := ⟨by kernel_rfl⟩
instance : ZeroC Try.prog 26 [.int .i64 0, .int .i64 0, .int .i64 0, .int .i64 0, .bool false, .int .i64 0, .int .i64 0] := ⟨zeroC_of (z := .agg #[.int .i64 0, .int .i64 0, .int .i64 0, .int .i64 0, .bool false, .int .i64 0, .int .i64 0]) (by kernel_rfl) rfl⟩
instance : Parts Try.prog 26 [(0, 1), (1, 1), (2, 1), (3, 1), (4, 1), (5, 1), (6, 1)] := ⟨.inl ⟨_, Try.underlying26, by kernel_rfl, by kernel_rfl⟩⟩
instance : Aggr Try.prog 26 7 := ⟨⟨_, Try.underlying26, rfl⟩, by kernel_rfl⟩
instance : Fld Try.prog 26 0 0 := ⟨fld_of (by kernel_rfl)⟩
instance : Fld Try.prog 26 1 1 := ⟨fld_of (by kernel_rfl)⟩
instance : Fld Try.prog 26 2 2 := ⟨fld_of (by kernel_rfl)⟩
instance : Fld Try.prog 26 3 3 := ⟨fld_of (by kernel_rfl)⟩
instance : Fld Try.prog 26 4 4 := ⟨fld_of (by kernel_rfl)⟩
instance : Fld Try.prog 26 5 5 := ⟨fld_of (by kernel_rfl)⟩
instance : Fld Try.prog 26 6 6 := ⟨fld_of (by kernel_rfl)⟩
instance : Sz Try.prog 31 (.agg #[.int .i64 0, .int .i64 0, .int .i64 0]) 3 24 := ⟨by kernel_rfl⟩
instance : ZeroC Try.prog 31 [.int .i64 0, .int .i64 0, .int .i64 0] := ⟨zeroC_of (z := .agg #[.int .i64 0, .int .i64 0, .int .i64 0]) (by kernel_rfl) rfl⟩
instance : Parts Try.prog 31 [(0, 1), (1, 1), (2, 1)] := ⟨.inl ⟨_, Try.underlying31, by kernel_rfl, by kernel_rfl⟩⟩
instance : Aggr Try.prog 31 3 := ⟨⟨_, Try.underlying31, rfl⟩, by kernel_rfl⟩
instance : Fld Try.prog 31 0 0 := ⟨fld_of (by kernel_rfl)⟩
instance : Fld Try.prog 31 1 1 := ⟨fld_of (by kernel_rfl)⟩
instance : Fld Try.prog 31 2 2 := ⟨fld_of (by kernel_rfl)⟩
instance : Sz Try.prog 32 (.agg #[.int .i64 0, .int .i64 0, .int .i64 0]) 3 24 := ⟨by kernel_rfl⟩
instance : ZeroC Try.prog 32 [.int .i64 0, .int .i64 0, .int .i64 0] := ⟨zeroC_of (z := .agg #[.int .i64 0, .int .i64 0, .int .i64 0]) (by kernel_rfl) rfl⟩
instance : Parts Try.prog 32 [(0, 1), (1, 1), (2, 1)] := ⟨.inl ⟨_, Try.underlying32, by kernel_rfl, by kernel_rfl⟩⟩
instance : Aggr Try.prog 32 3 := ⟨⟨_, Try.underlying32, rfl⟩, by kernel_rfl⟩
instance : Fld Try.prog 32 0 0 := ⟨fld_of (by kernel_rfl)⟩
instance : Fld Try.prog 32 1 1 := ⟨fld_of (by kernel_rfl)⟩
instance : Fld Try.prog 32 2 2 := ⟨fld_of (by kernel_rfl)⟩
instance : Sz Try.prog 33 (.agg #[.int .i64 0, .int .i64 0, .int .i64 0, .int .i64 0, .int .i64 0, .int .i64 0, .int .i64 0, .int .i64 0, .int .i64 0, .int .i64 0, .int .i64 0, .int .i64 0]) 12 96 := ⟨by kernel_rfl⟩
instance : ZeroC Try.prog 33 [.int .i64 0, .int .i64 0, .int .i64 0, .int .i64 0, .int .i64 0, .int .i64 0, .int .i64 0, .int .i64 0, .int .i64 0, .int .i64 0, .int .i64 0, .int .i64 0] := ⟨zeroC_of (z := .agg #[.int .i64 0, .int .i64 0, .int .i64 0, .int .i64 0, .int .i64 0, .int .i64 0, .int .i64 0, .int .i64 0, .int .i64 0, .int .i64 0, .int .i64 0, .int .i64 0]) (by kernel_rfl) rfl⟩
instance : Parts Try.prog 33 [(0, 3), (3, 3), (6, 3), (9, 3)] := ⟨.inr ⟨_, _, Try.underlying33, by kernel_rfl, by kernel_rfl⟩⟩
instance : Aggr Try.prog 33 12 := ⟨⟨_, Try.underlying33, rfl⟩, by kernel_rfl⟩
instance : ArrT Try.prog 33 4 32 := ⟨Try.underlying33⟩
instance : Sz Try.prog 34 (.agg #[.int .i64 0, .int .i64 0, .int .i64 0, .int .i64 0, .int .i64 0, .int .i64 0, .int .i64 0, .int .i64 0, .int .i64 0, .int .i64 0, .int .i64 0, .int .i64 0]) 12 96 := ⟨by kernel_rfl⟩
instance : ZeroC Try.prog 34 [.int .i64 0, .int .i64 0, .int .i64 0, .int .i64 0, .int .i64 0, .int .i64 0, .int .i64 0, .int .i64 0, .int .i64 0, .int .i64 0, .int .i64 0, .int .i64 0] := ⟨zeroC_of (z := .agg #[.int .i64 0, .int .i64 0, .int .i64 0, .int .i64 0, .int .i64 0, .int .i64 0, .int .i64 0, .int .i64 0, .int .i64 0, .int .i64 0, .int .i64 0, .int .i64 0]) (by kernel_rfl) rfl⟩
instance : Parts Try.prog 34 [(0, 12)] := ⟨.inl ⟨_, Try.underlying34, by kernel_rfl, by kernel_rfl⟩⟩
instance : Aggr Try.prog 34 12 := ⟨⟨_, Try.underlying34, rfl⟩, by kernel_rfl⟩
instance : Fld Try.prog 34 0 0 := ⟨fld_of (by kernel_rfl)⟩
instance : Sz Try.prog 35 (.agg #[.int .i64 0, .int .i64 0, .int .i64 0, .int .i64 0, .int .i64 0, .int .i64 0, .int .i64 0, .int .i64 0, .int .i64 0, .int .i64 0, .int .i64 0, .int .i64 0]) 12 96 := ⟨by kernel_rfl⟩
instance : ZeroC Try.prog 35 [.int .i64 0, .int .i64 0, .int .i64 0, .int .i64 0, .int .i64 0, .int .i64 0, .int .i64 0, .int .i64 0, .int .i64 0, .int .i64 0, .int .i64 0, .int .i64 0] := ⟨zeroC_of (z := .agg #[.int .i64 0, .int .i64 0, .int .i64 0, .int .i64 0, .int .i64 0, .int .i64 0, .int .i64 0, .int .i64 0, .int .i64 0, .int .i64 0, .int .i64 0, .int .i64 0]) (by kernel_rfl) rfl⟩
instance : Parts Try.prog 35 [(0, 12)] := ⟨.inl ⟨_, Try.underlying35, by kernel_rfl, by kernel_rfl⟩⟩
instance : Aggr Try.prog 35 12 := ⟨⟨_, Try.underlying35, rfl⟩, by kernel_rfl⟩
instance : Fld Try.prog 35 0 0 := ⟨fld_of (by kernel_rfl)⟩
instance : Sz Try.prog 36 (.slice none 0 0) 1 24 := ⟨by kernel_rfl⟩
instance : ZeroC Try.prog 36 [.slice none 0 0] := ⟨zeroC_of (z := .slice none 0 0) (by kernel_rfl) rfl⟩
instance : Scalar Try.prog 36 := ⟨_, Try.underlying36, rfl⟩
instance : SliceT Try.prog 36 3 := ⟨Try.underlying36⟩
instance : Sz Try.prog 37 (.agg #[.int .i64 0, .slice none 0 0]) 2 32 := ⟨by kernel_rfl⟩
instance : ZeroC Try.prog 37 [.int .i64 0, .slice none 0 0] := ⟨zeroC_of (z := .agg #[.int .i64 0, .slice none 0 0]) (by kernel_rfl) rfl⟩
instance : Parts Try.prog 37 [(0, 1), (1, 1)] := ⟨.inl ⟨_, Try.underlying37, by kernel_rfl, by kernel_rfl⟩⟩
instance : Aggr Try.prog 37 2 := ⟨⟨_, Try.underlying37, rfl⟩, by kernel_rfl⟩
instance : Fld Try.prog 37 0 0 := ⟨fld_of (by kernel_rfl)⟩
instance : Fld Try.prog 37 1 1 := ⟨fld_of (by kernel_rfl)⟩
instance : Sz Try.prog 38 (.agg #[.int .i64 0, .slice none 0 0]) 2 32 := ⟨by kernel_rfl⟩
instance : ZeroC Try.prog 38 [.int .i64 0, .slice none 0 0] := ⟨zeroC_of (z := .agg #[.int .i64 0, .slice none 0 0]) (by kernel_rfl) rfl⟩
instance : Parts Try.prog 38 [(0, 1), (1, 1)] := ⟨.inl ⟨_, Try.underlying38, by kernel_rfl, by kernel_rfl⟩⟩
instance : Aggr Try.prog 38 2 := ⟨⟨_, Try.underlying38, rfl⟩, by kernel_rfl⟩
instance : Fld Try.prog 38 0 0 := ⟨fld_of (by kernel_rfl)⟩
instance : Fld Try.prog 38 1 1 := ⟨fld_of (by kernel_rfl)⟩
instance : Sz Try.prog 40 (.slice none 0 0) 1 24 := ⟨by kernel_rfl⟩
instance : ZeroC Try.prog 40 [.slice none 0 0] := ⟨zeroC_of (z := .slice none 0 0) (by kernel_rfl) rfl⟩
instance : Scalar Try.prog 40 := ⟨_, Try.underlying40, rfl⟩
instance : SliceT Try.prog 40 140 := ⟨Try.underlying40⟩
instance : Sz Try.prog 41 (.agg #[.int .i64 0, .slice none 0 0]) 2 32 := ⟨by kernel_rfl⟩
instance : ZeroC Try.prog 41 [.int .i64 0, .slice none 0 0] := ⟨zeroC_of (z := .agg #[.int .i64 0, .slice none 0 0]) (by kernel_rfl) rfl⟩
instance : Parts Try.prog 41 [(0, 1), (1, 1)] := ⟨.inl ⟨_, Try.underlying41, by kernel_rfl, by kernel_rfl⟩⟩
instance : Aggr Try.prog 41 2 := ⟨⟨_, Try.underlying41, rfl⟩, by kernel_rfl⟩
instance : Fld Try.prog 41 0 0 := ⟨fld_of (by kernel_rfl)⟩
instance : Fld Try.prog 41 1 1 := ⟨fld_of (by kernel_rfl)⟩
instance : Sz Try.prog 42 (.agg #[.int .i64 0, .slice none 0 0, .int .i64 0, .int .i64 0, .slice none 0 0]) 5 72 := ⟨by kernel_rfl⟩
instance : ZeroC Try.prog 42 [.int .i64 0, .slice none 0 0, .int .i64 0, .int .i64 0, .slice none 0 0] := ⟨zeroC_of (z := .agg #[.int .i64 0, .slice none 0 0, .int .i64 0, .int .i64 0, .slice none 0 0]) (by kernel_rfl) rfl⟩
instance : Parts Try.prog 42 [(0, 1), (1, 1), (2, 1), (3, 2)] := ⟨.inl ⟨_, Try.underlying42, by kernel_rfl, by kernel_rfl⟩⟩
instance : Aggr Try.prog 42 5 := ⟨⟨_, Try.underlying42, rfl⟩, by kernel_rfl⟩
instance : Fld Try.prog 42 0 0 := ⟨fld_of (by kernel_rfl)⟩
instance : Fld Try.prog 42 1 1 := ⟨fld_of (by kernel_rfl)⟩
instance : Fld Try.prog 42 2 2 := ⟨fld_of (by kernel_rfl)⟩
instance : Fld Try.prog 42 3 3 := ⟨fld_of (by kernel_rfl)⟩
instance : Sz Try.prog 43 (.agg #[.int .i64 0, .slice none 0 0, .int .i64 0, .int .i64 0, .slice none 0 0]) 5 72 := ⟨by kernel_rfl⟩
instance : ZeroC Try.prog 43 [.int .i64 0, .slice none 0 0, .int .i64 0, .int .i64 0, .slice none 0 0] := ⟨zeroC_of (z := .agg #[.int .i64 0, .slice none 0 0, .int .i64 0, .int .i64 0, .slice none 0 0]) (by kernel_rfl) rfl⟩
instance : Parts Try.prog 43 [(0, 1), (1, 1), (2, 1), (3, 2)] := ⟨.inl ⟨_, Try.underlying43, by kernel_rfl, by kernel_rfl⟩⟩
instance : Aggr Try.prog 43 5 := ⟨⟨_, Try.underlying43, rfl⟩, by kernel_rfl⟩
instance : Fld Try.prog 43 0 0 := ⟨fld_of (by kernel_rfl)⟩
instance : Fld Try.prog 43 1 1 := ⟨fld_of (by kernel_rfl)⟩
instance : Fld Try.prog 43 2 2 := ⟨fld_of (by kernel_rfl)⟩
instance : Fld Try.prog 43 3 3 := ⟨fld_of (by kernel_rfl)⟩
instance : Sz Try.prog 45 (.nilFunc) 1 8 := ⟨by kernel_rfl⟩
instance : ZeroC Try.prog 45 [.nilFunc] := ⟨zeroC_of (z := .nilFunc) (by kernel_rfl) rfl⟩
instance : Scalar Try.prog 45 := ⟨_, Try.underlying45, rfl⟩
instance : Sz Try.prog 46 (.agg #[.int .i64 0, .int .i64 0, .int .i64 0]) 3 24 := ⟨by kernel_rfl⟩
instance : ZeroC Try.prog 46 [.int .i64 0, .int .i64 0, .int .i64 0] := ⟨zeroC_of (z := .agg #[.int .i64 0, .int .i64 0, .int .i64 0]) (by kernel_rfl) rfl⟩
instance : Parts Try.prog 46 [(0, 1), (1, 1), (2, 1)] := ⟨.inl ⟨_, Try.underlying46, by kernel_rfl, by kernel_rfl⟩⟩
instance : Aggr Try.prog 46 3 := ⟨⟨_, Try.underlying46, rfl⟩, by kernel_rfl⟩
instance : Fld Try.prog 46 0 0 := ⟨fld_of (by kernel_rfl)⟩
instance : Fld Try.prog 46 1 1 := ⟨fld_of (by kernel_rfl)⟩
instance : Fld Try.prog 46 2 2 := ⟨fld_of (by kernel_rfl)⟩
instance : Sz Try.prog 47 (.agg #[.int .i64 0, .int .i64 0, .int .i64 0, .int .i64 0, .int .i64 0, .int .i64 0, .int .i64 0, .int .i64 0, .int .i64 0, .int .i64 0, .int .i64 0, .int .i64 0]) 12 96 := ⟨by kernel_rfl⟩
instance : ZeroC Try.prog 47 [.int .i64 0, .int .i64 0, .int .i64 0, .int .i64 0, .int .i64 0, .int .i64 0, .int .i64 0, .int .i64 0, .int .i64 0, .int .i64 0, .int .i64 0, .int .i64 0] := ⟨zeroC_of (z := .agg #[.int .i64 0, .int .i64 0, .int .i64 0, .int .i64 0, .int .i64 0, .int .i64 0, .int .i64 0, .int .i64 0, .int .i64 0, .int .i64 0, .int .i64 0, .int .i64 0]) (by kernel_rfl) rfl⟩
instance : Parts Try.prog 47 [(0, 3), (3, 3), (6, 3), (9, 3)] := ⟨.inr ⟨_, _, Try.underlying47, by kernel_rfl, by kernel_rfl⟩⟩
instance : Aggr Try.prog 47 12 := ⟨⟨_, Try.underlying47, rfl⟩, by kernel_rfl⟩
instance : ArrT Try.prog 47 4 46 := ⟨Try.underlying47⟩
instance : Sz Try.prog 48 (.agg #[.int .i64 0, .int .i64 0, .int .i64 0, .int .i64 0, .int .i64 0, .int .i64 0, .int .i64 0, .int .i64 0, .int .i64 0, .int .i64 0, .int .i64 0, .int .i64 0]) 12 96 := ⟨by kernel_rfl⟩
instance : ZeroC Try.prog 48 [.int .i64 0, .int .i64 0, .int .i64 0, .int .i64 0, .int .i64 0, .int .i64 0, .int .i64 0, .int .i64 0, .int .i64 0, .int .i64 0, .int .i64 0, .int .i64 0] := ⟨zeroC_of (z := .agg #[.int .i64 0, .int .i64 0, .int .i64 0, .int .i64 0, .int .i64 0, .int .i64 0, .int .i64 0, .int .i64 0, .int .i64 0, .int .i64 0, .int .i64 0, .int .i64 0]) (by kernel_rfl) rfl⟩
instance : Parts Try.prog 48 [(0, 12)] := ⟨.inl ⟨_, Try.underlying48, by kernel_rfl, by kernel_rfl⟩⟩
instance : Aggr Try.prog 48 12 := ⟨⟨_, Try.underlying48, rfl⟩, by kernel_rfl⟩
instance : Fld Try.prog 48 0 0 := ⟨fld_of (by kernel_rfl)⟩
instance : Sz Try.prog 49 (.agg #[.int .i64 0, .int .i64 0, .int .i64 0, .int .i64 0, .int .i64 0, .int .i64 0, .int .i64 0, .int .i64 0, .int .i64 0, .int .i64 0, .int .i64 0, .int .i64 0]) 12 96 := ⟨by kernel_rfl⟩
instance : ZeroC Try.prog 49 [.int .i64 0, .int .i64 0, .int .i64 0, .int .i64 0, .int .i64 0, .int .i64 0, .int .i64 0, .int .i64 0, .int .i64 0, .int .i64 0, .int .i64 0, .int .i64 0] := ⟨zeroC_of (z := .agg #[.int .i64 0, .int .i64 0, .int .i64 0, .int .i64 0, .int .i64 0, .int .i64 0, .int .i64 0, .int .i64 0, .int .i64 0, .int .i64 0, .int .i64 0, .int .i64 0]) (by kernel_rfl) rfl⟩
instance : Parts Try.prog 49 [(0, 12)] := ⟨.inl ⟨_, Try.underlying49, by kernel_rfl, by kernel_rfl⟩⟩
instance : Aggr Try.prog 49 12 := ⟨⟨_, Try.underlying49, rfl⟩, by kernel_rfl⟩
instance : Fld Try.prog 49 0 0 := ⟨fld_of (by kernel_rfl)⟩
instance : Sz Try.prog 50 (.nilFunc) 1 8 := ⟨by kernel_rfl⟩
instance : ZeroC Try.prog 50 [.nilFunc] := ⟨zeroC_of (z := .nilFunc) (by kernel_rfl) rfl⟩
instance : Scalar Try.prog 50 := ⟨_, Try.underlying50, rfl⟩
instance : Sz Try.prog 53 (.nilFunc) 1 8 := ⟨by kernel_rfl⟩
instance : ZeroC Try.prog 53 [.nilFunc] := ⟨zeroC_of (z := .nilFunc) (by kernel_rfl) rfl⟩
instance : Scalar Try.prog 53 := ⟨_, Try.underlying53, rfl⟩
instance : Sz Try.prog 57 (.slice none 0 0) 1 24 := ⟨by kernel_rfl⟩
instance : ZeroC Try.prog 57 [.slice none 0 0] := ⟨zeroC_of (z := .slice none 0 0) (by kernel_rfl) rfl⟩
instance : Scalar Try.prog 57 := ⟨_, Try.underlying57, rfl⟩
instance : SliceT Try.prog 57 61 := ⟨Try.underlying57⟩
instance : Sz Try.prog 58 (.agg #[.int .i64 0, .slice none 0 0, .int .i64 0]) 3 40 := ⟨by kernel_rfl⟩
instance : ZeroC Try.prog 58 [.int .i64 0, .slice none 0 0, .int .i64 0] := ⟨zeroC_of (z := .agg #[.int .i64 0, .slice none 0 0, .int .i64 0]) (by kernel_rfl) rfl⟩
instance : Parts Try.prog 58 [(0, 1), (1, 1), (2, 1)] := ⟨.inl ⟨_, Try.underlying58, by kernel_rfl, by kernel_rfl⟩⟩
instance : Aggr Try.prog 58 3 := ⟨⟨_, Try.underlying58, rfl⟩, by kernel_rfl⟩
instance : Fld Try.prog 58 0 0 := ⟨fld_of (by kernel_rfl)⟩
instance : Fld Try.prog 58 1 1 := ⟨fld_of (by kernel_rfl)⟩
instance : Fld Try.prog 58 2 2 := ⟨fld_of (by kernel_rfl)⟩
instance : Sz Try.prog 59 (.agg #[.int .i64 0, .slice none 0 0, .int .i64 0]) 3 40 := ⟨by kernel_rfl⟩
instance : ZeroC Try.prog 59 [.int .i64 0, .slice none 0 0, .int .i64 0] := ⟨zeroC_of (z := .agg #[.int .i64 0, .slice none 0 0, .int .i64 0]) (by kernel_rfl) rfl⟩
instance : Parts Try.prog 59 [(0, 1), (1, 1), (2, 1)] := ⟨.inl ⟨_, Try.underlying59, by kernel_rfl, by kernel_rfl⟩⟩
instance : Aggr Try.prog 59 3 := ⟨⟨_, Try.underlying59, rfl⟩, by kernel_rfl⟩
instance : Fld Try.prog 59 0 0 := ⟨fld_of (by kernel_rfl)⟩
instance : Fld Try.prog 59 1 1 := ⟨fld_of (by kernel_rfl)⟩
instance : Fld Try.prog 59 2 2 := ⟨fld_of (by kernel_rfl)⟩
instance : Sz Try.prog 60 (.agg #[.int .i64 0, .int .i64 0, .int .i64 0]) 3 24 := ⟨by kernel_rfl⟩
instance : ZeroC Try.prog 60 [.int .i64 0, .int .i64 0, .int .i64 0] := ⟨zeroC_of (z := .agg #[.int .i64 0, .int .i64 0, .int .i64 0]) (by kernel_rfl) rfl⟩
instance : Parts Try.prog 60 [(0, 1), (1, 1), (2, 1)] := ⟨.inl ⟨_, Try.underlying60, by kernel_rfl, by kernel_rfl⟩⟩
instance : Aggr Try.prog 60 3 := ⟨⟨_, Try.underlying60, rfl⟩, by kernel_rfl⟩
instance : Fld Try.prog 60 0 0 := ⟨fld_of (by kernel_rfl)⟩
instance : Fld Try.prog 60 1 1 := ⟨fld_of (by kernel_rfl)⟩
instance : Fld Try.prog 60 2 2 := ⟨fld_of (by kernel_rfl)⟩
instance : Sz Try.prog 61 (.agg #[.int .i64 0, .int .i64 0, .int .i64 0]) 3 24 := ⟨by kernel_rfl⟩
instance : ZeroC Try.prog 61 [.int .i64 0, .int .i64 0, .int .i64 0] := ⟨zeroC_of (z := .agg #[.int .i64 0, .int .i64 0, .int .i64 0]) (by kernel_rfl) rfl⟩
instance : Parts Try.prog 61 [(0, 1), (1, 1), (2, 1)] := ⟨.inl ⟨_, Try.underlying61, by kernel_rfl, by kernel_rfl⟩⟩
instance : Aggr Try.prog 61 3 := ⟨⟨_, Try.underlying61, rfl⟩, by kernel_rfl⟩
instance : Fld Try.prog 61 0 0 := ⟨fld_of (by kernel_rfl)⟩
instance : Fld Try.prog 61 1 1 := ⟨fld_of (by kernel_rfl)⟩
instance : Fld Try.prog 61 2 2 := ⟨fld_of (by kernel_rfl)⟩
instance : Sz Try.prog 63 (.slice none 0 0) 1 24 := ⟨by kernel_rfl⟩
instance : ZeroC Try.prog 63 [.slice none 0 0] := ⟨zeroC_of (z := .slice none 0 0) (by kernel_rfl) rfl⟩
instance : Scalar Try.prog 63 := ⟨_, Try.underlying63, rfl⟩
instance : SliceT Try.prog 63 68 := ⟨Try.underlying63⟩
instance : Sz Try.prog 64 (.agg #[.int .i64 0, .slice none 0 0, .int .i64 0]) 3 40 := ⟨by kernel_rfl⟩
instance : ZeroC Try.prog 64 [.int .i64 0, .slice none 0 0, .int .i64 0] := ⟨zeroC_of (z := .agg #[.int .i64 0, .slice none 0 0, .int .i64 0]) (by kernel_rfl) rfl⟩
instance : Parts Try.prog 64 [(0, 1), (1, 1), (2, 1)] := ⟨.inl ⟨_, Try.underlying64, by kernel_rfl, by kernel_rfl⟩⟩
instance : Aggr Try.prog 64 3 := ⟨⟨_, Try.underlying64, rfl⟩, by kernel_rfl⟩
instance : Fld Try.prog 64 0 0 := ⟨fld_of (by kernel_rfl)⟩
instance : Fld Try.prog 64 1 1 := ⟨fld_of (by kernel_rfl)⟩
instance : Fld Try.prog 64 2 2 := ⟨fld_of (by kernel_rfl)⟩
instance : Sz Try.prog 65 (.agg #[.int .i64 0, .slice none 0 0, .int .i64 0]) 3 40 := ⟨by kernel_rfl⟩
instance : ZeroC Try.prog 65 [.int .i64 0, .slice none 0 0, .int .i64 0] := ⟨zeroC_of (z := .agg #[.int .i64 0, .slice none 0 0, .int .i64 0]) (by kernel_rfl) rfl⟩
instance : Parts Try.prog 65 [(0, 1), (1, 1), (2, 1)] := ⟨.inl ⟨_, Try.underlying65, by kernel_rfl, by kernel_rfl⟩⟩
instance : Aggr Try.prog 65 3 := ⟨⟨_, Try.underlying65, rfl⟩, by kernel_rfl⟩
instance : Fld Try.prog 65 0 0 := ⟨fld_of (by kernel_rfl)⟩
instance : Fld Try.prog 65 1 1 := ⟨fld_of (by kernel_rfl)⟩
instance : Fld Try.prog 65 2 2 := ⟨fld_of (by kernel_rfl)⟩
instance : Sz Try.prog 68 (.agg #[.int .i64 0, .int .i64 0, .int .i64 0]) 3 24 := ⟨by kernel_rfl⟩
instance : ZeroC Try.prog 68 [.int .i64 0, .int .i64 0, .int .i64 0] := ⟨zeroC_of (z := .agg #[.int .i64 0, .int .i64 0, .int .i64 0]) (by kernel_rfl) rfl⟩
instance : Parts Try.prog 68 [(0, 1), (1, 1), (2, 1)] := ⟨.inl ⟨_, Try.underlying68, by kernel_rfl, by kernel_rfl⟩⟩
instance : Aggr Try.prog 68 3 := ⟨⟨_, Try.underlying68, rfl⟩, by kernel_rfl⟩
instance : Fld Try.prog 68 0 0 := ⟨fld_of (by kernel_rfl)⟩
instance : Fld Try.prog 68 1 1 := ⟨fld_of (by kernel_rfl)⟩
instance : Fld Try.prog 68 2 2 := ⟨fld_of (by kernel_rfl)⟩
instance : Sz Try.prog 73 (.slice none 0 0) 1 24 := ⟨by kernel_rfl⟩
instance : ZeroC Try.prog 73 [.slice none 0 0] := ⟨zeroC_of (z := .slice none 0 0) (by kernel_rfl) rfl⟩
instance : Scalar Try.prog 73 := ⟨_, Try.underlying73, rfl⟩
instance : SliceT Try.prog 73 5 := ⟨Try.underlying73⟩
instance : Sz Try.prog 74 (.slice none 0 0) 1 24 := ⟨by kernel_rfl⟩
instance : ZeroC Try.prog 74 [.slice none 0 0] := ⟨zeroC_of (z := .slice none 0 0) (by kernel_rfl) rfl⟩
instance : Scalar Try.prog 74 := ⟨_, Try.underlying74, rfl⟩
instance : SliceT Try.prog 74 168 := ⟨Try.underlying74⟩
instance : Sz Try.prog 75 (.slice none 0 0) 1 24 := ⟨by kernel_rfl⟩
instance : ZeroC Try.prog 75 [.slice none 0 0] := ⟨zeroC_of (z := .slice none 0 0) (by kernel_rfl) rfl⟩
instance : Scalar Try.prog 75 := ⟨_, Try.underlying75, rfl⟩
instance : SliceT Try.prog 75 84 := ⟨Try.underlying75⟩
instance : Sz Try.prog 76 (.agg #[.slice none 0 0, .slice none 0 0]) 2 48 := ⟨by kernel_rfl⟩
instance : ZeroC Try.prog 76 [.slice none 0 0, .slice none 0 0] := ⟨zeroC_of (z := .agg #[.slice none 0 0, .slice none 0 0]) (by kernel_rfl) rfl⟩
instance : Parts Try.prog 76 [(0, 1), (1, 1)] := ⟨.inl ⟨_, Try.underlying76, by kernel_rfl, by kernel_rfl⟩⟩
instance : Aggr Try.prog 76 2 := ⟨⟨_, Try.underlying76, rfl⟩, by kernel_rfl⟩
instance : Fld Try.prog 76 0 0 := ⟨fld_of (by kernel_rfl)⟩
instance : Fld Try.prog 76 1 1 := ⟨fld_of (by kernel_rfl)⟩
instance : Sz Try.prog 77 (.agg #[.slice none 0 0, .slice none 0 0]) 2 48 := ⟨by kernel_rfl⟩
instance : ZeroC Try.prog 77 [.slice none 0 0, .slice none 0 0] := ⟨zeroC_of (z := .agg #[.slice none 0 0, .slice none 0 0]) (by kernel_rfl) rfl⟩
instance : Parts Try.prog 77 [(0, 1), (1, 1)] := ⟨.inl ⟨_, Try.underlying77, by kernel_rfl, by kernel_rfl⟩⟩
instance : Aggr Try.prog 77 2 := ⟨⟨_, Try.underlying77, rfl⟩, by kernel_rfl⟩
instance : Fld Try.prog 77 0 0 := ⟨fld_of (by kernel_rfl)⟩
instance : Fld Try.prog 77 1 1 := ⟨fld_of (by kernel_rfl)⟩
instance : Sz Try.prog 83 (.agg #[.string ⟨#[]⟩, .int .i64 0]) 2 24 := ⟨by kernel_rfl⟩
instance : ZeroC Try.prog 83 [.string ⟨#[]⟩, .int .i64 0] := ⟨zeroC_of (z := .agg #[.string ⟨#[]⟩, .int .i64 0]) (by kernel_rfl) rfl⟩
instance : Parts Try.prog 83 [(0, 1), (1, 1)] := ⟨.inl ⟨_, Try.underlying83, by kernel_rfl, by kernel_rfl⟩⟩
instance : Aggr Try.prog 83 2 := ⟨⟨_, Try.underlying83, rfl⟩, by kernel_rfl⟩
instance : Fld Try.prog 83 0 0 := ⟨fld_of (by kernel_rfl)⟩
instance : Fld Try.prog 83 1 1 := ⟨fld_of (by kernel_rfl)⟩
instance : Sz Try.prog 84 (.agg #[.string ⟨#[]⟩, .int .i64 0]) 2 24 := ⟨by kernel_rfl⟩
instance : ZeroC Try.prog 84 [.string ⟨#[]⟩, .int .i64 0] := ⟨zeroC_of (z := .agg #[.string ⟨#[]⟩, .int .i64 0]) (by kernel_rfl) rfl⟩
instance : Parts Try.prog 84 [(0, 1), (1, 1)] := ⟨.inl ⟨_, Try.underlying84, by kernel_rfl, by kernel_rfl⟩⟩
instance : Aggr Try.prog 84 2 := ⟨⟨_, Try.underlying84, rfl⟩, by kernel_rfl⟩
instance : Fld Try.prog 84 0 0 := ⟨fld_of (by kernel_rfl)⟩
instance : Fld Try.prog 84 1 1 := ⟨fld_of (by kernel_rfl)⟩
instance : Sz Try.prog 88 (.slice none 0 0) 1 24 := ⟨by kernel_rfl⟩
instance : ZeroC Try.prog 88 [.slice none 0 0] := ⟨zeroC_of (z := .slice none 0 0) (by kernel_rfl) rfl⟩
instance : Scalar Try.prog 88 := ⟨_, Try.underlying88, rfl⟩
instance : SliceT Try.prog 88 251 := ⟨Try.underlying88⟩
instance : Sz Try.prog 89 (.slice none 0 0) 1 24 := ⟨by kernel_rfl⟩
instance : ZeroC Try.prog 89 [.slice none 0 0] := ⟨zeroC_of (z := .slice none 0 0) (by kernel_rfl) rfl⟩
instance : Scalar Try.prog 89 := ⟨_, Try.underlying89, rfl⟩
instance : SliceT Try.prog 89 9 := ⟨Try.underlying89⟩
instance : Sz Try.prog 90 (.agg #[.slice none 0 0, .slice none 0 0]) 2 48 := ⟨by kernel_rfl⟩
instance : ZeroC Try.prog 90 [.slice none 0 0, .slice none 0 0] := ⟨zeroC_of (z := .agg #[.slice none 0 0, .slice none 0 0]) (by kernel_rfl) rfl⟩
instance : Parts Try.prog 90 [(0, 1), (1, 1)] := ⟨.inl ⟨_, Try.underlying90, by kernel_rfl, by kernel_rfl⟩⟩
instance : Aggr Try.prog 90 2 := ⟨⟨_, Try.underlying90, rfl⟩, by kernel_rfl⟩
instance : Fld Try.prog 90 0 0 := ⟨fld_of (by kernel_rfl)⟩
instance : Fld Try.prog 90 1 1 := ⟨fld_of (by kernel_rfl)⟩
instance : Sz Try.prog 91 (.agg #[.slice none 0 0, .slice none 0 0]) 2 48 := ⟨by kernel_rfl⟩
instance : ZeroC Try.prog 91 [.slice none 0 0, .slice none 0 0] := ⟨zeroC_of (z := .agg #[.slice none 0 0, .slice none 0 0]) (by kernel_rfl) rfl⟩
instance : Parts Try.prog 91 [(0, 1), (1, 1)] := ⟨.inl ⟨_, Try.underlying91, by kernel_rfl, by kernel_rfl⟩⟩
instance : Aggr Try.prog 91 2 := ⟨⟨_, Try.underlying91, rfl⟩, by kernel_rfl⟩
instance : Fld Try.prog 91 0 0 := ⟨fld_of (by kernel_rfl)⟩
instance : Fld Try.prog 91 1 1 := ⟨fld_of (by kernel_rfl)⟩
instance : Sz Try.prog 93 (.slice none 0 0) 1 24 := ⟨by kernel_rfl⟩
instance : ZeroC Try.prog 93 [.slice none 0 0] := ⟨zeroC_of (z := .slice none 0 0) (by kernel_rfl) rfl⟩
instance : Scalar Try.prog 93 := ⟨_, Try.underlying93, rfl⟩
instance : SliceT Try.prog 93 181 := ⟨Try.underlying93⟩
instance : Sz Try.prog 94 (.agg #[.slice none 0 0, .slice none 0 0]) 2 48 := ⟨by kernel_rfl⟩
instance : ZeroC Try.prog 94 [.slice none 0 0, .slice none 0 0] := ⟨zeroC_of (z := .agg #[.slice none 0 0, .slice none 0 0]) (by kernel_rfl) rfl⟩
instance : Parts Try.prog 94 [(0, 1), (1, 1)] := ⟨.inl ⟨_, Try.underlying94, by kernel_rfl, by kernel_rfl⟩⟩
instance : Aggr Try.prog 94 2 := ⟨⟨_, Try.underlying94, rfl⟩, by kernel_rfl⟩
instance : Fld Try.prog 94 0 0 := ⟨fld_of (by kernel_rfl)⟩
instance : Fld Try.prog 94 1 1 := ⟨fld_of (by kernel_rfl)⟩
instance : Sz Try.prog 95 (.agg #[.slice none 0 0, .slice none 0 0]) 2 48 := ⟨by kernel_rfl⟩
instance : ZeroC Try.prog 95 [.slice none 0 0, .slice none 0 0] := ⟨zeroC_of (z := .agg #[.slice none 0 0, .slice none 0 0]) (by kernel_rfl) rfl⟩
instance : Parts Try.prog 95 [(0, 1), (1, 1)] := ⟨.inl ⟨_, Try.underlying95, by kernel_rfl, by kernel_rfl⟩⟩
instance : Aggr Try.prog 95 2 := ⟨⟨_, Try.underlying95, rfl⟩, by kernel_rfl⟩
instance : Fld Try.prog 95 0 0 := ⟨fld_of (by kernel_rfl)⟩
instance : Fld Try.prog 95 1 1 := ⟨fld_of (by kernel_rfl)⟩
instance : Sz Try.prog 97 (.nilFunc) 1 8 := ⟨by kernel_rfl⟩
instance : ZeroC Try.prog 97 [.nilFunc] := ⟨zeroC_of (z := .nilFunc) (by kernel_rfl) rfl⟩
instance : Scalar Try.prog 97 := ⟨_, Try.underlying97, rfl⟩
instance : Sz Try.prog 98 (.nilFunc) 1 8 := ⟨by kernel_rfl⟩
instance : ZeroC Try.prog 98 [.nilFunc] := ⟨zeroC_of (z := .nilFunc) (by kernel_rfl) rfl⟩
instance : Scalar Try.prog 98 := ⟨_, Try.underlying98, rfl⟩
instance : Sz Try.prog 99 (.nilFunc) 1 8 := ⟨by kernel_rfl⟩
instance : ZeroC Try.prog 99 [.nilFunc] := ⟨zeroC_of (z := .nilFunc) (by kernel_rfl) rfl⟩
instance : Scalar Try.prog 99 := ⟨_, Try.underlying99, rfl⟩
instance : Sz Try.prog 100 (.nilFunc) 1 8 := ⟨by kernel_rfl⟩
instance : ZeroC Try.prog 100 [.nilFunc] := ⟨zeroC_of (z := .nilFunc) (by kernel_rfl) rfl⟩
instance : Scalar Try.prog 100 := ⟨_, Try.underlying100, rfl⟩
instance : Sz Try.prog 101 (.slice none 0 0) 1 24 := ⟨by kernel_rfl⟩
instance : ZeroC Try.prog 101 [.slice none 0 0] := ⟨zeroC_of (z := .slice none 0 0) (by kernel_rfl) rfl⟩
instance : Scalar Try.prog 101 := ⟨_, Try.underlying101, rfl⟩
instance : SliceT Try.prog 101 263 := ⟨Try.underlying101⟩
instance : Sz Try.prog 102 (.slice none 0 0) 1 24 := ⟨by kernel_rfl⟩
instance : ZeroC Try.prog 102 [.slice none 0 0] := ⟨zeroC_of (z := .slice none 0 0) (by kernel_rfl) rfl⟩
instance : Scalar Try.prog 102 := ⟨_, Try.underlying102, rfl⟩
instance : SliceT Try.prog 102 265 := ⟨Try.underlying102⟩
instance : Sz Try.prog 103 (.agg #[.slice none 0 0, .slice none 0 0]) 2 48 := ⟨by kernel_rfl⟩
instance : ZeroC Try.prog 103 [.slice none 0 0, .slice none 0 0] := ⟨zeroC_of (z := .agg #[.slice none 0 0, .slice none 0 0]) (by kernel_rfl) rfl⟩
instance : Parts Try.prog 103 [(0, 1), (1, 1)] := ⟨.inl ⟨_, Try.underlying103, by kernel_rfl, by kernel_rfl⟩⟩
instance : Aggr Try.prog 103 2 := ⟨⟨_, Try.underlying103, rfl⟩, by kernel_rfl⟩
instance : Fld Try.prog 103 0 0 := ⟨fld_of (by kernel_rfl)⟩
instance : Fld Try.prog 103 1 1 := ⟨fld_of (by kernel_rfl)⟩
instance : Sz Try.prog 104 (.agg #[.slice none 0 0, .slice none 0 0]) 2 48 := ⟨by kernel_rfl⟩
instance : ZeroC Try.prog 104 [.slice none 0 0, .slice none 0 0] := ⟨zeroC_of (z := .agg #[.slice none 0 0, .slice none 0 0]) (by kernel_rfl) rfl⟩
instance : Parts Try.prog 104 [(0, 1), (1, 1)] := ⟨.inl ⟨_, Try.underlying104, by kernel_rfl, by kernel_rfl⟩⟩
instance : Aggr Try.prog 104 2 := ⟨⟨_, Try.underlying104, rfl⟩, by kernel_rfl⟩
instance : Fld Try.prog 104 0 0 := ⟨fld_of (by kernel_rfl)⟩
instance : Fld Try.prog 104 1 1 := ⟨fld_of (by kernel_rfl)⟩
instance : Sz Try.prog 105 (.nilFunc) 1 8 := ⟨by kernel_rfl⟩
instance : ZeroC Try.prog 105 [.nilFunc] := ⟨zeroC_of (z := .nilFunc) (by kernel_rfl) rfl⟩
instance : Scalar Try.prog 105 := ⟨_, Try.underlying105, rfl⟩
instance : Sz Try.prog 107 (.nilFunc) 1 8 := ⟨by kernel_rfl⟩
instance : ZeroC Try.prog 107 [.nilFunc] := ⟨zeroC_of (z := .nilFunc) (by kernel_rfl) rfl⟩
instance : Scalar Try.prog 107 := ⟨_, Try.underlying107, rfl⟩
instance : Sz Try.prog 108 (.nilFunc) 1 8 := ⟨by kernel_rfl⟩
instance : ZeroC Try.prog 108 [.nilFunc] := ⟨zeroC_of (z := .nilFunc) (by kernel_rfl) rfl⟩
instance : Scalar Try.prog 108 := ⟨_, Try.underlying108, rfl⟩
instance : Sz Try.prog 109 (.nilFunc) 1 8 := ⟨by kernel_rfl⟩
instance : ZeroC Try.prog 109 [.nilFunc] := ⟨zeroC_of (z := .nilFunc) (by kernel_rfl) rfl⟩
instance : Scalar Try.prog 109 := ⟨_, Try.underlying109, rfl⟩
instance : Sz Try.prog 110 (.nilFunc) 1 8 := ⟨by kernel_rfl⟩
instance : ZeroC Try.prog 110 [.nilFunc] := ⟨zeroC_of (z := .nilFunc) (by kernel_rfl) rfl⟩
instance : Scalar Try.prog 110 := ⟨_, Try.underlying110, rfl⟩
instance : Sz Try.prog 111 (.slice none 0 0) 1 24 := ⟨by kernel_rfl⟩
instance : ZeroC Try.prog 111 [.slice none 0 0] := ⟨zeroC_of (z := .slice none 0 0) (by kernel_rfl) rfl⟩
instance : Scalar Try.prog 111 := ⟨_, Try.underlying111, rfl⟩
instance : SliceT Try.prog 111 104 := ⟨Try.underlying111⟩
instance : Sz Try.prog 112 (.slice none 0 0) 1 24 := ⟨by kernel_rfl⟩
instance : ZeroC Try.prog 112 [.slice none 0 0] := ⟨zeroC_of (z := .slice none 0 0) (by kernel_rfl) rfl⟩
instance : Scalar Try.prog 112 := ⟨_, Try.underlying112, rfl⟩
instance : SliceT Try.prog 112 275 := ⟨Try.underlying112⟩
instance : Sz Try.prog 113 (.agg #[.int .i64 0, .int .i64 0, .int .i64 0, .int .i64 0, .bool false, .int .i64 0, .int .i64 0, .int .i64 0, .slice none 0 0, .slice none 0 0, .slice none 0 0, .int .i64 0]) 12 144 := ⟨by kernel_rfl⟩
instance : ZeroC Try.prog 113 [.int .i64 0, .int .i64 0, .int .i64 0, .int .i64 0, .bool false, .int .i64 0, .int .i64 0, .int .i64 0, .slice none 0 0, .slice none 0 0, .slice none 0 0, .int .i64 0] := ⟨zeroC_of (z := .agg #[.int .i64 0, .int .i64 0, .int .i64 0, .int .i64 0, .bool false, .int .i64 0, .int .i64 0, .int .i64 0, .slice none 0 0, .slice none 0 0, .slice none 0 0, .int .i64 0]) (by kernel_rfl) rfl⟩
instance : Parts Try.prog 113 [(0, 7), (7, 2), (9, 1), (10, 1), (11, 1)] := ⟨.inl ⟨_, Try.underlying113, by kernel_rfl, by kernel_rfl⟩⟩
instance : Aggr Try.prog 113 12 := ⟨⟨_, Try.underlying113, rfl⟩, by kernel_rfl⟩
instance : Fld Try.prog 113 0 0 := ⟨fld_of (by kernel_rfl)⟩
instance : Fld Try.prog 113 1 7 := ⟨fld_of (by kernel_rfl)⟩
instance : Fld Try.prog 113 2 9 := ⟨fld_of (by kernel_rfl)⟩
instance : Fld Try.prog 113 3 10 := ⟨fld_of (by kernel_rfl)⟩
instance : Fld Try.prog 113 4 11 := ⟨fld_of (by kernel_rfl)⟩
instance : Sz Try.prog 114 (.agg #[.int .i64 0, .int .i64 0, .int .i64 0, .int .i64 0, .bool false, .int .i64 0, .int .i64 0, .int .i64 0, .slice none 0 0, .slice none 0 0, .slice none 0 0, .int .i64 0]) 12 144 := ⟨by kernel_rfl⟩
instance : ZeroC Try.prog 114 [.int .i64 0, .int .i64 0, .int .i64 0, .int .i64 0, .bool false, .int .i64 0, .int .i64 0, .int .i64 0, .slice none 0 0, .slice none 0 0, .slice none 0 0, .int .i64 0] := ⟨zeroC_of (z := .agg #[.int .i64 0, .int .i64 0, .int .i64 0, .int .i64 0, .bool false, .int .i64 0, .int .i64 0, .int .i64 0, .slice none 0 0, .slice none 0 0, .slice none 0 0, .int .i64 0]) (by kernel_rfl) rfl⟩
instance : Parts Try.prog 114 [(0, 7), (7, 2), (9, 1), (10, 1), (11, 1)] := ⟨.inl ⟨_, Try.underlying114, by kernel_rfl, by kernel_rfl⟩⟩
instance : Aggr Try.prog 114 12 := ⟨⟨_, Try.underlying114, rfl⟩, by kernel_rfl⟩
instance : Fld Try.prog 114 0 0 := ⟨fld_of (by kernel_rfl)⟩
instance : Fld Try.prog 114 1 7 := ⟨fld_of (by kernel_rfl)⟩
instance : Fld Try.prog 114 2 9 := ⟨fld_of (by kernel_rfl)⟩
instance : Fld Try.prog 114 3 10 := ⟨fld_of (by kernel_rfl)⟩
instance : Fld Try.prog 114 4 11 := ⟨fld_of (by kernel_rfl)⟩
instance : Sz Try.prog 115 (.nilFunc) 1 8 := ⟨by kernel_rfl⟩
instance : ZeroC Try.prog 115 [.nilFunc] := ⟨zeroC_of (z := .nilFunc) (by kernel_rfl) rfl⟩
instance : Scalar Try.prog 115 := ⟨_, Try.underlying115, rfl⟩
instance : Sz Try.prog 116 (.nilFunc) 1 8 := ⟨by kernel_rfl⟩
instance : ZeroC Try.prog 116 [.nilFunc] := ⟨zeroC_of (z := .nilFunc) (by kernel_rfl) rfl⟩
instance : Scalar Try.prog 116 := ⟨_, Try.underlying116, rfl⟩
instance : Sz Try.prog 117 (.slice none 0 0) 1 24 := ⟨by kernel_rfl⟩
instance : ZeroC Try.prog 117 [.slice none 0 0] := ⟨zeroC_of (z := .slice none 0 0) (by kernel_rfl) rfl⟩
instance : Scalar Try.prog 117 := ⟨_, Try.underlying117, rfl⟩
instance : SliceT Try.prog 117 77 := ⟨Try.underlying117⟩
instance : Sz Try.prog 118 (.slice none 0 0) 1 24 := ⟨by kernel_rfl⟩
instance : ZeroC Try.prog 118 [.slice none 0 0] := ⟨zeroC_of (z := .slice none 0 0) (by kernel_rfl) rfl⟩
instance : Scalar Try.prog 118 := ⟨_, Try.underlying118, rfl⟩
instance : SliceT Try.prog 118 215 := ⟨Try.underlying118⟩
instance : Sz Try.prog 119 (.agg #[.int .i64 0, .int .i64 0, .int .i64 0, .int .i64 0, .bool false, .int .i64 0, .int .i64 0, .int .i64 0, .slice none 0 0, .slice none 0 0, .slice none 0 0, .int .i64 0]) 12 144 := ⟨by kernel_rfl⟩
instance : ZeroC Try.prog 119 [.int .i64 0, .int .i64 0, .int .i64 0, .int .i64 0, .bool false, .int .i64 0, .int .i64 0, .int .i64 0, .slice none 0 0, .slice none 0 0, .slice none 0 0, .int .i64 0] := ⟨zeroC_of (z := .agg #[.int .i64 0, .int .i64 0, .int .i64 0, .int .i64 0, .bool false, .int .i64 0, .int .i64 0, .int .i64 0, .slice none 0 0, .slice none 0 0, .slice none 0 0, .int .i64 0]) (by kernel_rfl) rfl⟩
instance : Parts Try.prog 119 [(0, 7), (7, 2), (9, 1), (10, 1), (11, 1)] := ⟨.inl ⟨_, Try.underlying119, by kernel_rfl, by kernel_rfl⟩⟩
instance : Aggr Try.prog 119 12 := ⟨⟨_, Try.underlying119, rfl⟩, by kernel_rfl⟩
instance : Fld Try.prog 119 0 0 := ⟨fld_of (by kernel_rfl)⟩
instance : Fld Try.prog 119 1 7 := ⟨fld_of (by kernel_rfl)⟩
instance : Fld Try.prog 119 2 9 := ⟨fld_of (by kernel_rfl)⟩
instance : Fld Try.prog 119 3 10 := ⟨fld_of (by kernel_rfl)⟩
instance : Fld Try.prog 119 4 11 := ⟨fld_of (by kernel_rfl)⟩
instance : Sz Try.prog 120 (.agg #[.int .i64 0, .int .i64 0, .int .i64 0, .int .i64 0, .bool false, .int .i64 0, .int .i64 0, .int .i64 0, .slice none 0 0, .slice none 0 0, .slice none 0 0, .int .i64 0]) 12 144 := ⟨by kernel_rfl⟩
instance : ZeroC Try.prog 120 [.int .i64 0, .int .i64 0, .int .i64 0, .int .i64 0, .bool false, .int .i64 0, .int .i64 0, .int .i64 0, .slice none 0 0, .slice none 0 0, .slice none 0 0, .int .i64 0] := ⟨zeroC_of (z := .agg #[.int .i64 0, .int .i64 0, .int .i64 0, .int .i64 0, .bool false, .int .i64 0, .int .i64 0, .int .i64 0, .slice none 0 0, .slice none 0 0, .slice none 0 0, .int .i64 0]) (by kernel_rfl) rfl⟩
instance : Parts Try.prog 120 [(0, 7), (7, 2), (9, 1), (10, 1), (11, 1)] := ⟨.inl ⟨_, Try.underlying120, by kernel_rfl, by kernel_rfl⟩⟩
instance : Aggr Try.prog 120 12 := ⟨⟨_, Try.underlying120, rfl⟩, by kernel_rfl⟩
instance : Fld Try.prog 120 0 0 := ⟨fld_of (by kernel_rfl)⟩
instance : Fld Try.prog 120 1 7 := ⟨fld_of (by kernel_rfl)⟩
instance : Fld Try.prog 120 2 9 := ⟨fld_of (by kernel_rfl)⟩
instance : Fld Try.prog 120 3 10 := ⟨fld_of (by kernel_rfl)⟩
instance : Fld Try.prog 120 4 11 := ⟨fld_of (by kernel_rfl)⟩
instance : Sz Try.prog 121 (.nilFunc) 1 8 := ⟨by kernel_rfl⟩
instance : ZeroC Try.prog 121 [.nilFunc] := ⟨zeroC_of (z := .nilFunc) (by kernel_rfl) rfl⟩
instance : Scalar Try.prog 121 := ⟨_, Try.underlying121, rfl⟩
instance : Sz Try.prog 122 (.nilFunc) 1 8 := ⟨by kernel_rfl⟩
instance : ZeroC Try.prog 122 [.nilFunc] := ⟨zeroC_of (z := .nilFunc) (by kernel_rfl) rfl⟩
instance : Scalar Try.prog 122 := ⟨_, Try.underlying122, rfl⟩
instance : Sz Try.prog 130 (.nilFunc) 1 8 := ⟨by kernel_rfl⟩
instance : ZeroC Try.prog 130 [.nilFunc] := ⟨zeroC_of (z := .nilFunc) (by kernel_rfl) rfl⟩
instance : Scalar Try.prog 130 := ⟨_, Try.underlying130, rfl⟩
instance : Sz Try.prog 131 (.agg #[.int .i64 0, .int .i64 0, .int .i64 0, .int .i64 0]) 4 32 := ⟨by kernel_rfl⟩
instance : ZeroC Try.prog 131 [.int .i64 0, .int .i64 0, .int .i64 0, .int .i64 0] := ⟨zeroC_of (z := .agg #[.int .i64 0, .int .i64 0, .int .i64 0, .int .i64 0]) (by kernel_rfl) rfl⟩
instance : Parts Try.prog 131 [(0, 1), (1, 1), (2, 1), (3, 1)] := ⟨.inl ⟨_, Try.underlying131, by kernel_rfl, by kernel_rfl⟩⟩
instance : Aggr Try.prog 131 4 := ⟨⟨_, Try.underlying131, rfl⟩, by kernel_rfl⟩
instance : Fld Try.prog 131 0 0 := ⟨fld_of (by kernel_rfl)⟩
instance : Fld Try.prog 131 1 1 := ⟨fld_of (by kernel_rfl)⟩
instance : Fld Try.prog 131 2 2 := ⟨fld_of (by kernel_rfl)⟩
instance : Fld Try.prog 131 3 3 := ⟨fld_of (by kernel_rfl)⟩
instance : Sz Try.prog 132 (.agg #[.int .i64 0, .int .i64 0, .int .i64 0, .int .i64 0]) 4 32 := ⟨by kernel_rfl⟩
instance : ZeroC Try.prog 132 [.int .i64 0, .int .i64 0, .int .i64 0, .int .i64 0] := ⟨zeroC_of (z := .agg #[.int .i64 0, .int .i64 0, .int .i64 0, .int .i64 0]) (by kernel_rfl) rfl⟩
instance : Parts Try.prog 132 [(0, 1), (1, 1), (2, 1), (3, 1)] := ⟨.inl ⟨_, Try.underlying132, by kernel_rfl, by kernel_rfl⟩⟩
instance : Aggr Try.prog 132 4 := ⟨⟨_, Try.underlying132, rfl⟩, by kernel_rfl⟩
instance : Fld Try.prog 132 0 0 := ⟨fld_of (by kernel_rfl)⟩
instance : Fld Try.prog 132 1 1 := ⟨fld_of (by kernel_rfl)⟩
instance : Fld Try.prog 132 2 2 := ⟨fld_of (by kernel_rfl)⟩
instance : Fld Try.prog 132 3 3 := ⟨fld_of (by kernel_rfl)⟩
instance : Sz Try.prog 133 (.chan none) 1 8 := ⟨by kernel_rfl⟩
instance : ZeroC Try.prog 133 [.chan none] := ⟨zeroC_of (z := .chan none) (by kernel_rfl) rfl⟩
instance : Scalar Try.prog 133 := ⟨_, Try.underlying133, rfl⟩
instance : Sz Try.prog 139 (.agg #[.int .i64 0, .int .i64 0, .int .i64 0, .int .i64 0, .int .i64 0]) 5 40 := ⟨by kernel_rfl⟩
instance : ZeroC Try.prog 139 [.int .i64 0, .int .i64 0, .int .i64 0, .int .i64 0, .int .i64 0] := ⟨zeroC_of (z := .agg #[.int .i64 0, .int .i64 0, .int .i64 0, .int .i64 0, .int .i64 0]) (by kernel_rfl) rfl⟩
instance : Parts Try.prog 139 [(0, 1), (1, 1), (2, 1), (3, 1), (4, 1)] := ⟨.inl ⟨_, Try.underlying139, by kernel_rfl, by kernel_rfl⟩⟩
instance : Aggr Try.prog 139 5 := ⟨⟨_, Try.underlying139, rfl⟩, by kernel_rfl⟩
instance : Fld Try.prog 139 0 0 := ⟨fld_of (by kernel_rfl)⟩
instance : Fld Try.prog 139 1 1 := ⟨fld_of (by kernel_rfl)⟩
instance : Fld Try.prog 139 2 2 := ⟨fld_of (by kernel_rfl)⟩
instance : Fld Try.prog 139 3 3 := ⟨fld_of (by kernel_rfl)⟩
instance : Fld Try.prog 139 4 4 := ⟨fld_of (by kernel_rfl)⟩
instance : Sz Try.prog 140 (.agg #[.int .i64 0, .int .i64 0, .int .i64 0, .int .i64 0, .int .i64 0]) 5 40 := ⟨by kernel_rfl⟩
instance : ZeroC Try.prog 140 [.int .i64 0, .int .i64 0, .int .i64 0, .int .i64 0, .int .i64 0] := ⟨zeroC_of (z := .agg #[.int .i64 0, .int .i64 0, .int .i64 0, .int .i64 0, .int .i64 0]) (by kernel_rfl) rfl⟩
instance : Parts Try.prog 140 [(0, 1), (1, 1), (2, 1), (3, 1), (4, 1)] := ⟨.inl ⟨_, Try.underlying140, by kernel_rfl, by kernel_rfl⟩⟩
instance : Aggr Try.prog 140 5 := ⟨⟨_, Try.underlying140, rfl⟩, by kernel_rfl⟩
instance : Fld Try.prog 140 0 0 := ⟨fld_of (by kernel_rfl)⟩
instance : Fld Try.prog 140 1 1 := ⟨fld_of (by kernel_rfl)⟩
instance : Fld Try.prog 140 2 2 := ⟨fld_of (by kernel_rfl)⟩
instance : Fld Try.prog 140 3 3 := ⟨fld_of (by kernel_rfl)⟩
instance : Fld Try.prog 140 4 4 := ⟨fld_of (by kernel_rfl)⟩
instance : Sz Try.prog 142 (.nilFunc) 1 8 := ⟨by kernel_rfl⟩
instance : ZeroC Try.prog 142 [.nilFunc] := ⟨zeroC_of (z := .nilFunc) (by kernel_rfl) rfl⟩
instance : Scalar Try.prog 142 := ⟨_, Try.underlying142, rfl⟩
instance : Sz Try.prog 143 (.nilFunc) 1 8 := ⟨by kernel_rfl⟩
instance : ZeroC Try.prog 143 [.nilFunc] := ⟨zeroC_of (z := .nilFunc) (by kernel_rfl) rfl⟩
instance : Scalar Try.prog 143 := ⟨_, Try.underlying143, rfl⟩
instance : Sz Try.prog 152 (.nilFunc) 1 8 := ⟨by kernel_rfl⟩
instance : ZeroC Try.prog 152 [.nilFunc] := ⟨zeroC_of (z := .nilFunc) (by kernel_rfl) rfl⟩
instance : Scalar Try.prog 152 := ⟨_, Try.underlying152, rfl⟩
instance : Sz Try.prog 153 (.map none) 1 8 := ⟨by kernel_rfl⟩
instance : ZeroC Try.prog 153 [.map none] := ⟨zeroC_of (z := .map none) (by kernel_rfl) rfl⟩
instance : Scalar Try.prog 153 := ⟨_, Try.underlying153, rfl⟩
instance : Sz Try.prog 154 (.map none) 1 8 := ⟨by kernel_rfl⟩
instance : ZeroC Try.prog 154 [.map none] := ⟨zeroC_of (z := .map none) (by kernel_rfl) rfl⟩
instance : Scalar Try.prog 154 := ⟨_, Try.underlying154, rfl⟩
instance : Sz Try.prog 159 (.nilFunc) 1 8 := ⟨by kernel_rfl⟩
instance : ZeroC Try.prog 159 [.nilFunc] := ⟨zeroC_of (z := .nilFunc) (by kernel_rfl) rfl⟩
instance : Scalar Try.prog 159 := ⟨_, Try.underlying159, rfl⟩
instance : Sz Try.prog 161 (.pointer none) 1 8 := ⟨by kernel_rfl⟩
instance : ZeroC Try.prog 161 [.pointer none] := ⟨zeroC_of (z := .pointer none) (by kernel_rfl) rfl⟩
instance : Scalar Try.prog 161 := ⟨_, Try.underlying161, rfl⟩
instance : Sz Try.prog 164 (.map none) 1 8 := ⟨by kernel_rfl⟩
instance : ZeroC Try.prog 164 [.map none] := ⟨zeroC_of (z := .map none) (by kernel_rfl) rfl⟩
instance : Scalar Try.prog 164 := ⟨_, Try.underlying164, rfl⟩
instance : Sz Try.prog 167 (.agg #[.int .i64 0, .string ⟨#[]⟩, .int .i64 0, .slice none 0 0]) 4 56 := ⟨by kernel_rfl⟩
instance : ZeroC Try.prog 167 [.int .i64 0, .string ⟨#[]⟩, .int .i64 0, .slice none 0 0] := ⟨zeroC_of (z := .agg #[.int .i64 0, .string ⟨#[]⟩, .int .i64 0, .slice none 0 0]) (by kernel_rfl) rfl⟩
instance : Parts Try.prog 167 [(0, 1), (1, 1), (2, 1), (3, 1)] := ⟨.inl ⟨_, Try.underlying167, by kernel_rfl, by kernel_rfl⟩⟩
instance : Aggr Try.prog 167 4 := ⟨⟨_, Try.underlying167, rfl⟩, by kernel_rfl⟩
instance : Fld Try.prog 167 0 0 := ⟨fld_of (by kernel_rfl)⟩
instance : Fld Try.prog 167 1 1 := ⟨fld_of (by kernel_rfl)⟩
instance : Fld Try.prog 167 2 2 := ⟨fld_of (by kernel_rfl)⟩
instance : Fld Try.prog 167 3 3 := ⟨fld_of (by kernel_rfl)⟩
instance : Sz Try.prog 168 (.agg #[.int .i64 0, .string ⟨#[]⟩, .int .i64 0, .slice none 0 0]) 4 56 := ⟨by kernel_rfl⟩
instance : ZeroC Try.prog 168 [.int .i64 0, .string ⟨#[]⟩, .int .i64 0, .slice none 0 0] := ⟨zeroC_of (z := .agg #[.int .i64 0, .string ⟨#[]⟩, .int .i64 0, .slice none 0 0]) (by kernel_rfl) rfl⟩
instance : Parts Try.prog 168 [(0, 1), (1, 1), (2, 1), (3, 1)] := ⟨.inl ⟨_, Try.underlying168, by kernel_rfl, by kernel_rfl⟩⟩
instance : Aggr Try.prog 168 4 := ⟨⟨_, Try.underlying168, rfl⟩, by kernel_rfl⟩
instance : Fld Try.prog 168 0 0 := ⟨fld_of (by kernel_rfl)⟩
instance : Fld Try.prog 168 1 1 := ⟨fld_of (by kernel_rfl)⟩
instance : Fld Try.prog 168 2 2 := ⟨fld_of (by kernel_rfl)⟩
instance : Fld Try.prog 168 3 3 := ⟨fld_of (by kernel_rfl)⟩
instance : Sz Try.prog 169 (.nilFunc) 1 8 := ⟨by kernel_rfl⟩
instance : ZeroC Try.prog 169 [.nilFunc] := ⟨zeroC_of (z := .nilFunc) (by kernel_rfl) rfl⟩
instance : Scalar Try.prog 169 := ⟨_, Try.underlying169, rfl⟩
instance : Sz Try.prog 170 (.nilIface) 1 16 := ⟨by kernel_rfl⟩
instance : ZeroC Try.prog 170 [.nilIface] := ⟨zeroC_of (z := .nilIface) (by kernel_rfl) rfl⟩
instance : Scalar Try.prog 170 := ⟨_, Try.underlying170, rfl⟩
instance : Sz Try.prog 171 (.nilIface) 1 16 := ⟨by kernel_rfl⟩
instance : ZeroC Try.prog 171 [.nilIface] := ⟨zeroC_of (z := .nilIface) (by kernel_rfl) rfl⟩
instance : Scalar Try.prog 171 := ⟨_, Try.underlying171, rfl⟩
instance : Sz Try.prog 175 (.slice none 0 0) 1 24 := ⟨by kernel_rfl⟩
instance : ZeroC Try.prog 175 [.slice none 0 0] := ⟨zeroC_of (z := .slice none 0 0) (by kernel_rfl) rfl⟩
instance : Scalar Try.prog 175 := ⟨_, Try.underlying175, rfl⟩
instance : SliceT Try.prog 175 4 := ⟨Try.underlying175⟩
instance : Sz Try.prog 177 (.nilFunc) 1 8 := ⟨by kernel_rfl⟩
instance : ZeroC Try.prog 177 [.nilFunc] := ⟨zeroC_of (z := .nilFunc) (by kernel_rfl) rfl⟩
instance : Scalar Try.prog 177 := ⟨_, Try.underlying177, rfl⟩
instance : Sz Try.prog 179 (.nilFunc) 1 8 := ⟨by kernel_rfl⟩
instance : ZeroC Try.prog 179 [.nilFunc] := ⟨zeroC_of (z := .nilFunc) (by kernel_rfl) rfl⟩
instance : Scalar Try.prog 179 := ⟨_, Try.underlying179, rfl⟩
instance : Sz Try.prog 180 (.agg #[.int .i64 0, .string ⟨#[]⟩, .int .i64 0]) 3 32 := ⟨by kernel_rfl⟩
instance : ZeroC Try.prog 180 [.int .i64 0, .string ⟨#[]⟩, .int .i64 0] := ⟨zeroC_of (z := .agg #[.int .i64 0, .string ⟨#[]⟩, .int .i64 0]) (by kernel_rfl) rfl⟩
instance : Parts Try.prog 180 [(0, 1), (1, 1), (2, 1)] := ⟨.inl ⟨_, Try.underlying180, by kernel_rfl, by kernel_rfl⟩⟩
instance : Aggr Try.prog 180 3 := ⟨⟨_, Try.underlying180, rfl⟩, by kernel_rfl⟩
instance : Fld Try.prog 180 0 0 := ⟨fld_of (by kernel_rfl)⟩
instance : Fld Try.prog 180 1 1 := ⟨fld_of (by kernel_rfl)⟩
instance : Fld Try.prog 180 2 2 := ⟨fld_of (by kernel_rfl)⟩
instance : Sz Try.prog 181 (.agg #[.int .i64 0, .string ⟨#[]⟩, .int .i64 0]) 3 32 := ⟨by kernel_rfl⟩
instance : ZeroC Try.prog 181 [.int .i64 0, .string ⟨#[]⟩, .int .i64 0] := ⟨zeroC_of (z := .agg #[.int .i64 0, .string ⟨#[]⟩, .int .i64 0]) (by kernel_rfl) rfl⟩
instance : Parts Try.prog 181 [(0, 1), (1, 1), (2, 1)] := ⟨.inl ⟨_, Try.underlying181, by kernel_rfl, by kernel_rfl⟩⟩
instance : Aggr Try.prog 181 3 := ⟨⟨_, Try.underlying181, rfl⟩, by kernel_rfl⟩
instance : Fld Try.prog 181 0 0 := ⟨fld_of (by kernel_rfl)⟩
instance : Fld Try.prog 181 1 1 := ⟨fld_of (by kernel_rfl)⟩
instance : Fld Try.prog 181 2 2 := ⟨fld_of (by kernel_rfl)⟩
instance : Sz Try.prog 184 (.nilFunc) 1 8 := ⟨by kernel_rfl⟩
instance : ZeroC Try.prog 184 [.nilFunc] := ⟨zeroC_of (z := .nilFunc) (by kernel_rfl) rfl⟩
instance : Scalar Try.prog 184 := ⟨_, Try.underlying184, rfl⟩
instance : Sz Try.prog 189 (.nilFunc) 1 8 := ⟨by kernel_rfl⟩
instance : ZeroC Try.prog 189 [.nilFunc] := ⟨zeroC_of (z := .nilFunc) (by kernel_rfl) rfl⟩
instance : Scalar Try.prog 189 := ⟨_, Try.underlying189, rfl⟩
instance : Sz Try.prog 199 (.nilFunc) 1 8 := ⟨by kernel_rfl⟩
instance : ZeroC Try.prog 199 [.nilFunc] := ⟨zeroC_of (z := .nilFunc) (by kernel_rfl) rfl⟩
instance : Scalar Try.prog 199 := ⟨_, Try.underlying199, rfl⟩
instance : Sz Try.prog 214 (.agg #[.int .i64 0, .int .i64 0, .int .i64 0, .int .i64 0, .int .i64 0, .int .i64 0, .int .i64 0, .int .i64 0, .int .i64 0, .int .i64 0, .int .i64 0, .int .i64 0, .int .i64 0, .int .i64 0, .int .i64 0, .int .i64 0, .int .i64 0, .int .i64 0, .int .i64 0, .int .i64 0, .int .i64 0, .int .i64 0, .int .i64 0, .int .i64 0, .int .i64 0, .int .i64 0]) 26 208 := ⟨by kernel_rfl⟩
instance : ZeroC Try.prog 214 [.int .i64 0, .int .i64 0, .int .i64 0, .int .i64 0, .int .i64 0, .int .i64 0, .int .i64 0, .int .i64 0, .int .i64 0, .int .i64 0, .int .i64 0, .int .i64 0, .int .i64 0, .int .i64 0, .int .i64 0, .int .i64 0, .int .i64 0, .int .i64 0, .int .i64 0, .int .i64 0, .int .i64 0, .int .i64 0, .int .i64 0, .int .i64 0, .int .i64 0, .int .i64 0] := ⟨zeroC_of (z := .agg #[.int .i64 0, .int .i64 0, .int .i64 0, .int .i64 0, .int .i64 0, .int .i64 0, .int .i64 0, .int .i64 0, .int .i64 0, .int .i64 0, .int .i64 0, .int .i64 0, .int .i64 0, .int .i64 0, .int .i64 0, .int .i64 0, .int .i64 0, .int .i64 0, .int .i64 0, .int .i64 0, .int .i64 0, .int .i64 0, .int .i64 0, .int .i64 0, .int .i64 0, .int .i64 0]) (by kernel_rfl) rfl⟩
instance : Parts Try.prog 214 [(0, 12), (12, 12), (24, 1), (25, 1)] := ⟨.inl ⟨_, Try.underlying214, by kernel_rfl, by kernel_rfl⟩⟩
instance : Aggr Try.prog 214 26 := ⟨⟨_, Try.underlying214, rfl⟩, by kernel_rfl⟩
instance : Fld Try.prog 214 0 0 := ⟨fld_of (by kernel_rfl)⟩
instance : Fld Try.prog 214 1 12 := ⟨fld_of (by kernel_rfl)⟩
instance : Fld Try.prog 214 2 24 := ⟨fld_of (by kernel_rfl)⟩
instance : Fld Try.prog 214 3 25 := ⟨fld_of (by kernel_rfl)⟩
instance : Sz Try.prog 215 (.agg #[.int .i64 0, .int .i64 0, .int .i64 0, .int .i64 0, .int .i64 0, .int .i64 0, .int .i64 0, .int .i64 0, .int .i64 0, .int .i64 0, .int .i64 0, .int .i64 0, .int .i64 0, .int .i64 0, .int .i64 0, .int .i64 0, .int .i64 0, .int .i64 0, .int .i64 0, .int .i64 0, .int .i64 0, .int .i64 0, .int .i64 0, .int .i64 0, .int .i64 0, .int .i64 0]) 26 208 := ⟨by kernel_rfl⟩
instance : ZeroC Try.prog 215 [.int .i64 0, .int .i64 0, .int .i64 0, .int .i64 0, .int .i64 0, .int .i64 0, .int .i64 0, .int .i64 0, .int .i64 0, .int .i64 0, .int .i64 0, .int .i64 0, .int .i64 0, .int .i64 0, .int .i64 0, .int .i64 0, .int .i64 0, .int .i64 0, .int .i64 0, .int .i64 0, .int .i64 0, .int .i64 0, .int .i64 0, .int .i64 0, .int .i64 0, .int .i64 0] := ⟨zeroC_of (z := .agg #[.int .i64 0, .int .i64 0, .int .i64 0, .int .i64 0, .int .i64 0, .int .i64 0, .int .i64 0, .int .i64 0, .int .i64 0, .int .i64 0, .int .i64 0, .int .i64 0, .int .i64 0, .int .i64 0, .int .i64 0, .int .i64 0, .int .i64 0, .int .i64 0, .int .i64 0, .int .i64 0, .int .i64 0, .int .i64 0, .int .i64 0, .int .i64 0, .int .i64 0, .int .i64 0]) (by kernel_rfl) rfl⟩
instance : Parts Try.prog 215 [(0, 12), (12, 12), (24, 1), (25, 1)] := ⟨.inl ⟨_, Try.underlying215, by kernel_rfl, by kernel_rfl⟩⟩
instance : Aggr Try.prog 215 26 := ⟨⟨_, Try.underlying215, rfl⟩, by kernel_rfl⟩
instance : Fld Try.prog 215 0 0 := ⟨fld_of (by kernel_rfl)⟩
instance : Fld Try.prog 215 1 12 := ⟨fld_of (by kernel_rfl)⟩
instance : Fld Try.prog 215 2 24 := ⟨fld_of (by kernel_rfl)⟩
instance : Fld Try.prog 215 3 25 := ⟨fld_of (by kernel_rfl)⟩
instance : Sz Try.prog 221 (.chan none) 1 8 := ⟨by kernel_rfl⟩
instance : ZeroC Try.prog 221 [.chan none] := ⟨zeroC_of (z := .chan none) (by kernel_rfl) rfl⟩
instance : Scalar Try.prog 221 := ⟨_, Try.underlying221, rfl⟩
instance : Sz Try.prog 222 (.nilFunc) 1 8 := ⟨by kernel_rfl⟩
instance : ZeroC Try.prog 222 [.nilFunc] := ⟨zeroC_of (z := .nilFunc) (by kernel_rfl) rfl⟩
instance : Scalar Try.prog 222 := ⟨_, Try.underlying222, rfl⟩
instance : Sz Try.prog 223 (.nilFunc) 1 8 := ⟨by kernel_rfl⟩
instance : ZeroC Try.prog 223 [.nilFunc] := ⟨zeroC_of (z := .nilFunc) (by kernel_rfl) rfl⟩
instance : Scalar Try.prog 223 := ⟨_, Try.underlying223, rfl⟩
instance : Sz Try.prog 226 (.nilFunc) 1 8 := ⟨by kernel_rfl⟩
instance : ZeroC Try.prog 226 [.nilFunc] := ⟨zeroC_of (z := .nilFunc) (by kernel_rfl) rfl⟩
instance : Scalar Try.prog 226 := ⟨_, Try.underlying226, rfl⟩
instance : Sz Try.prog 227 (.agg #[.int .i64 0, .int .i64 0, .int .i64 0, .int .i64 0]) 4 32 := ⟨by kernel_rfl⟩
instance : ZeroC Try.prog 227 [.int .i64 0, .int .i64 0, .int .i64 0, .int .i64 0] := ⟨zeroC_of (z := .agg #[.int .i64 0, .int .i64 0, .int .i64 0, .int .i64 0]) (by kernel_rfl) rfl⟩
instance : Parts Try.prog 227 [(0, 1), (1, 1), (2, 1), (3, 1)] := ⟨.inr ⟨_, _, Try.underlying227, by kernel_rfl, by kernel_rfl⟩⟩
instance : Aggr Try.prog 227 4 := ⟨⟨_, Try.underlying227, rfl⟩, by kernel_rfl⟩
instance : ArrT Try.prog 227 4 3 := ⟨Try.underlying227⟩
instance : Sz Try.prog 233 (.nilFunc) 1 8 := ⟨by kernel_rfl⟩
instance : ZeroC Try.prog 233 [.nilFunc] := ⟨zeroC_of (z := .nilFunc) (by kernel_rfl) rfl⟩
instance : Scalar Try.prog 233 := ⟨_, Try.underlying233, rfl⟩
instance : Sz Try.prog 238 (.agg #[.slice none 0 0, .int .i64 0, .int .i64 0]) 3 40 := ⟨by kernel_rfl⟩
instance : ZeroC Try.prog 238 [.slice none 0 0, .int .i64 0, .int .i64 0] := ⟨zeroC_of (z := .agg #[.slice none 0 0, .int .i64 0, .int .i64 0]) (by kernel_rfl) rfl⟩
instance : Parts Try.prog 238 [(0, 1), (1, 1), (2, 1)] := ⟨.inl ⟨_, Try.underlying238, by kernel_rfl, by kernel_rfl⟩⟩
instance : Aggr Try.prog 238 3 := ⟨⟨_, Try.underlying238, rfl⟩, by kernel_rfl⟩
instance : Fld Try.prog 238 0 0 := ⟨fld_of (by kernel_rfl)⟩
instance : Fld Try.prog 238 1 1 := ⟨fld_of (by kernel_rfl)⟩
instance : Fld Try.prog 238 2 2 := ⟨fld_of (by kernel_rfl)⟩
instance : Sz Try.prog 239 (.agg #[.slice none 0 0, .int .i64 0, .int .i64 0]) 3 40 := ⟨by kernel_rfl⟩
instance : ZeroC Try.prog 239 [.slice none 0 0, .int .i64 0, .int .i64 0] := ⟨zeroC_of (z := .agg #[.slice none 0 0, .int .i64 0, .int .i64 0]) (by kernel_rfl) rfl⟩
instance : Parts Try.prog 239 [(0, 1), (1, 1), (2, 1)] := ⟨.inl ⟨_, Try.underlying239, by kernel_rfl, by kernel_rfl⟩⟩
instance : Aggr Try.prog 239 3 := ⟨⟨_, Try.underlying239, rfl⟩, by kernel_rfl⟩
instance : Fld Try.prog 239 0 0 := ⟨fld_of (by kernel_rfl)⟩
instance : Fld Try.prog 239 1 1 := ⟨fld_of (by kernel_rfl)⟩
instance : Fld Try.prog 239 2 2 := ⟨fld_of (by kernel_rfl)⟩
instance : Sz Try.prog 242 (.nilFunc) 1 8 := ⟨by kernel_rfl⟩
instance : ZeroC Try.prog 242 [.nilFunc] := ⟨zeroC_of (z := .nilFunc) (by kernel_rfl) rfl⟩
instance : Scalar Try.prog 242 := ⟨_, Try.underlying242, rfl⟩
instance : Sz Try.prog 243 (.nilFunc) 1 8 := ⟨by kernel_rfl⟩
instance : ZeroC Try.prog 243 [.nilFunc] := ⟨zeroC_of (z := .nilFunc) (by kernel_rfl) rfl⟩
instance : Scalar Try.prog 243 := ⟨_, Try.underlying243, rfl⟩
instance : Sz Try.prog 244 (.agg #[.int .i64 0, .string ⟨#[]⟩, .int .i64 0, .slice none 0 0]) 4 56 := ⟨by kernel_rfl⟩
instance : ZeroC Try.prog 244 [.int .i64 0, .string ⟨#[]⟩, .int .i64 0, .slice none 0 0] := ⟨zeroC_of (z := .agg #[.int .i64 0, .string ⟨#[]⟩, .int .i64 0, .slice none 0 0]) (by kernel_rfl) rfl⟩
instance : Parts Try.prog 244 [(0, 4)] := ⟨.inl ⟨_, Try.underlying244, by kernel_rfl, by kernel_rfl⟩⟩
instance : Aggr Try.prog 244 4 := ⟨⟨_, Try.underlying244, rfl⟩, by kernel_rfl⟩
instance : Fld Try.prog 244 0 0 := ⟨fld_of (by kernel_rfl)⟩
instance : Sz Try.prog 245 (.agg #[.int .i64 0, .string ⟨#[]⟩, .int .i64 0, .slice none 0 0]) 4 56 := ⟨by kernel_rfl⟩
instance : ZeroC Try.prog 245 [.int .i64 0, .string ⟨#[]⟩, .int .i64 0, .slice none 0 0] := ⟨zeroC_of (z := .agg #[.int .i64 0, .string ⟨#[]⟩, .int .i64 0, .slice none 0 0]) (by kernel_rfl) rfl⟩
instance : Parts Try.prog 245 [(0, 4)] := ⟨.inl ⟨_, Try.underlying245, by kernel_rfl, by kernel_rfl⟩⟩
instance : Aggr Try.prog 245 4 := ⟨⟨_, Try.underlying245, rfl⟩, by kernel_rfl⟩
instance : Fld Try.prog 245 0 0 := ⟨fld_of (by kernel_rfl)⟩
instance : Sz Try.prog 246 (.agg #[.int .i64 0, .string ⟨#[]⟩, .int .i64 0, .slice none 0 0]) 4 56 := ⟨by kernel_rfl⟩
instance : ZeroC Try.prog 246 [.int .i64 0, .string ⟨#[]⟩, .int .i64 0, .slice none 0 0] := ⟨zeroC_of (z := .agg #[.int .i64 0, .string ⟨#[]⟩, .int .i64 0, .slice none 0 0]) (by kernel_rfl) rfl⟩
instance : Parts Try.prog 246 [(0, 4)] := ⟨.inl ⟨_, Try.underlying246, by kernel_rfl, by kernel_rfl⟩⟩
instance : Aggr Try.prog 246 4 := ⟨⟨_, Try.underlying246, rfl⟩, by kernel_rfl⟩
instance : Fld Try.prog 246 0 0 := ⟨fld_of (by kernel_rfl)⟩
instance : Sz Try.prog 248 (.agg #[.int .i64 0, .string ⟨#[]⟩, .int .i64 0, .slice none 0 0]) 4 56 := ⟨by kernel_rfl⟩
instance : ZeroC Try.prog 248 [.int .i64 0, .string ⟨#[]⟩, .int .i64 0, .slice none 0 0] := ⟨zeroC_of (z := .agg #[.int .i64 0, .string ⟨#[]⟩, .int .i64 0, .slice none 0 0]) (by kernel_rfl) rfl⟩
instance : Parts Try.prog 248 [(0, 4)] := ⟨.inl ⟨_, Try.underlying248, by kernel_rfl, by kernel_rfl⟩⟩
instance : Aggr Try.prog 248 4 := ⟨⟨_, Try.underlying248, rfl⟩, by kernel_rfl⟩
instance : Fld Try.prog 248 0 0 := ⟨fld_of (by kernel_rfl)⟩
instance : Sz Try.prog 251 (.agg #[.int .i64 0, .string ⟨#[]⟩, .int .i64 0]) 3 32 := ⟨by kernel_rfl⟩
instance : ZeroC Try.prog 251 [.int .i64 0, .string ⟨#[]⟩, .int .i64 0] := ⟨zeroC_of (z := .agg #[.int .i64 0, .string ⟨#[]⟩, .int .i64 0]) (by kernel_rfl) rfl⟩
instance : Parts Try.prog 251 [(0, 1), (1, 1), (2, 1)] := ⟨.inl ⟨_, Try.underlying251, by kernel_rfl, by kernel_rfl⟩⟩
instance : Aggr Try.prog 251 3 := ⟨⟨_, Try.underlying251, rfl⟩, by kernel_rfl⟩
instance : Fld Try.prog 251 0 0 := ⟨fld_of (by kernel_rfl)⟩
instance : Fld Try.prog 251 1 1 := ⟨fld_of (by kernel_rfl)⟩
instance : Fld Try.prog 251 2 2 := ⟨fld_of (by kernel_rfl)⟩
instance : Sz Try.prog 263 (.agg #[.int .i64 0, .string ⟨#[]⟩, .int .i64 0, .slice none 0 0]) 4 56 := ⟨by kernel_rfl⟩
instance : ZeroC Try.prog 263 [.int .i64 0, .string ⟨#[]⟩, .int .i64 0, .slice none 0 0] := ⟨zeroC_of (z := .agg #[.int .i64 0, .string ⟨#[]⟩, .int .i64 0, .slice none 0 0]) (by kernel_rfl) rfl⟩
instance : Parts Try.prog 263 [(0, 1), (1, 1), (2, 1), (3, 1)] := ⟨.inl ⟨_, Try.underlying263, by kernel_rfl, by kernel_rfl⟩⟩
instance : Aggr Try.prog 263 4 := ⟨⟨_, Try.underlying263, rfl⟩, by kernel_rfl⟩
instance : Fld Try.prog 263 0 0 := ⟨fld_of (by kernel_rfl)⟩
instance : Fld Try.prog 263 1 1 := ⟨fld_of (by kernel_rfl)⟩
instance : Fld Try.prog 263 2 2 := ⟨fld_of (by kernel_rfl)⟩
instance : Fld Try.prog 263 3 3 := ⟨fld_of (by kernel_rfl)⟩
instance : Sz Try.prog 265 (.agg #[.string ⟨#[]⟩, .int .i64 0]) 2 24 := ⟨by kernel_rfl⟩
instance : ZeroC Try.prog 265 [.string ⟨#[]⟩, .int .i64 0] := ⟨zeroC_of (z := .agg #[.string ⟨#[]⟩, .int .i64 0]) (by kernel_rfl) rfl⟩
instance : Parts Try.prog 265 [(0, 1), (1, 1)] := ⟨.inl ⟨_, Try.underlying265, by kernel_rfl, by kernel_rfl⟩⟩
instance : Aggr Try.prog 265 2 := ⟨⟨_, Try.underlying265, rfl⟩, by kernel_rfl⟩
instance : Fld Try.prog 265 0 0 := ⟨fld_of (by kernel_rfl)⟩
instance : Fld Try.prog 265 1 1 := ⟨fld_of (by kernel_rfl)⟩
instance : Sz Try.prog 274 (.agg #[.int .i64 0, .int .i64 0, .int .i64 0, .int .i64 0, .int .i64 0, .int .i64 0, .int .i64 0, .int .i64 0, .int .i64 0, .int .i64 0, .int .i64 0, .int .i64 0, .int .i64 0, .int .i64 0, .int .i64 0, .int .i64 0, .int .i64 0, .int .i64 0, .int .i64 0, .int .i64 0, .int .i64 0, .int .i64 0, .int .i64 0, .int .i64 0, .int .i64 0, .int .i64 0]) 26 208 := ⟨by kernel_rfl⟩
instance : ZeroC Try.prog 274 [.int .i64 0, .int .i64 0, .int .i64 0, .int .i64 0, .int .i64 0, .int .i64 0, .int .i64 0, .int .i64 0, .int .i64 0, .int .i64 0, .int .i64 0, .int .i64 0, .int .i64 0, .int .i64 0, .int .i64 0, .int .i64 0, .int .i64 0, .int .i64 0, .int .i64 0, .int .i64 0, .int .i64 0, .int .i64 0, .int .i64 0, .int .i64 0, .int .i64 0, .int .i64 0] := ⟨zeroC_of (z := .agg #[.int .i64 0, .int .i64 0, .int .i64 0, .int .i64 0, .int .i64 0, .int .i64 0, .int .i64 0, .int .i64 0, .int .i64 0, .int .i64 0, .int .i64 0, .int .i64 0, .int .i64 0, .int .i64 0, .int .i64 0, .int .i64 0, .int .i64 0, .int .i64 0, .int .i64 0, .int .i64 0, .int .i64 0, .int .i64 0, .int .i64 0, .int .i64 0, .int .i64 0, .int .i64 0]) (by kernel_rfl) rfl⟩
instance : Parts Try.prog 274 [(0, 12), (12, 12), (24, 1), (25, 1)] := ⟨.inl ⟨_, Try.underlying274, by kernel_rfl, by kernel_rfl⟩⟩
instance : Aggr Try.prog 274 26 := ⟨⟨_, Try.underlying274, rfl⟩, by kernel_rfl⟩
instance : Fld Try.prog 274 0 0 := ⟨fld_of (by kernel_rfl)⟩
instance : Fld Try.prog 274 1 12 := ⟨fld_of (by kernel_rfl)⟩
instance : Fld Try.prog 274 2 24 := ⟨fld_of (by kernel_rfl)⟩
instance : Fld Try.prog 274 3 25 := ⟨fld_of (by kernel_rfl)⟩
instance : Sz Try.prog 275 (.agg #[.int .i64 0, .int .i64 0, .int .i64 0, .int .i64 0, .int .i64 0, .int .i64 0, .int .i64 0, .int .i64 0, .int .i64 0, .int .i64 0, .int .i64 0, .int .i64 0, .int .i64 0, .int .i64 0, .int .i64 0, .int .i64 0, .int .i64 0, .int .i64 0, .int .i64 0, .int .i64 0, .int .i64 0, .int .i64 0, .int .i64 0, .int .i64 0, .int .i64 0, .int .i64 0]) 26 208 := ⟨by kernel_rfl⟩
instance : ZeroC Try.prog 275 [.int .i64 0, .int .i64 0, .int .i64 0, .int .i64 0, .int .i64 0, .int .i64 0, .int .i64 0, .int .i64 0, .int .i64 0, .int .i64 0, .int .i64 0, .int .i64 0, .int .i64 0, .int .i64 0, .int .i64 0, .int .i64 0, .int .i64 0, .int .i64 0, .int .i64 0, .int .i64 0, .int .i64 0, .int .i64 0, .int .i64 0, .int .i64 0, .int .i64 0, .int .i64 0] := ⟨zeroC_of (z := .agg #[.int .i64 0, .int .i64 0, .int .i64 0, .int .i64 0, .int .i64 0, .int .i64 0, .int .i64 0, .int .i64 0, .int .i64 0, .int .i64 0, .int .i64 0, .int .i64 0, .int .i64 0, .int .i64 0, .int .i64 0, .int .i64 0, .int .i64 0, .int .i64 0, .int .i64 0, .int .i64 0, .int .i64 0, .int .i64 0, .int .i64 0, .int .i64 0, .int .i64 0, .int .i64 0]) (by kernel_rfl) rfl⟩
instance : Parts Try.prog 275 [(0, 12), (12, 12), (24, 1), (25, 1)] := ⟨.inl ⟨_, Try.underlying275, by kernel_rfl, by kernel_rfl⟩⟩
instance : Aggr Try.prog 275 26 := ⟨⟨_, Try.underlying275, rfl⟩, by kernel_rfl⟩
instance : Fld Try.prog 275 0 0 := ⟨fld_of (by kernel_rfl)⟩
instance : Fld Try.prog 275 1 12 := ⟨fld_of (by kernel_rfl)⟩
instance : Fld Try.prog 275 2 24 := ⟨fld_of (by kernel_rfl)⟩
instance : Fld Try.prog 275 3 25 := ⟨fld_of (by kernel_rfl)⟩
instance : Sz Try.prog 277 (.agg #[.int .i64 0, .int .i64 0, .int .i64 0, .int .i64 0, .int .i64 0, .int .i64 0]) 6 48 := ⟨by kernel_rfl⟩
instance : ZeroC Try.prog 277 [.int .i64 0, .int .i64 0, .int .i64 0, .int .i64 0, .int .i64 0, .int .i64 0] := ⟨zeroC_of (z := .agg #[.int .i64 0, .int .i64 0, .int .i64 0, .int .i64 0, .int .i64 0, .int .i64 0]) (by kernel_rfl) rfl⟩
instance : Parts Try.prog 277 [(0, 3), (3, 3)] := ⟨.inl ⟨_, Try.underlying277, by kernel_rfl, by kernel_rfl⟩⟩
instance : Aggr Try.prog 277 6 := ⟨⟨_, Try.underlying277, rfl⟩, by kernel_rfl⟩
instance : Fld Try.prog 277 0 0 := ⟨fld_of (by kernel_rfl)⟩
instance : Fld Try.prog 277 1 3 := ⟨fld_of (by kernel_rfl)⟩
instance : Sz Try.prog 278 (.agg #[.int .i64 0, .int .i64 0, .int .i64 0, .int .i64 0, .int .i64 0, .int .i64 0]) 6 48 := ⟨by kernel_rfl⟩
instance : ZeroC Try.prog 278 [.int .i64 0, .int .i64 0, .int .i64 0, .int .i64 0, .int .i64 0, .int .i64 0] := ⟨zeroC_of (z := .agg #[.int .i64 0, .int .i64 0, .int .i64 0, .int .i64 0, .int .i64 0, .int .i64 0]) (by kernel_rfl) rfl⟩
instance : Parts Try.prog 278 [(0, 3), (3, 3)] := ⟨.inl ⟨_, Try.underlying278, by kernel_rfl, by kernel_rfl⟩⟩
instance : Aggr Try.prog 278 6 := ⟨⟨_, Try.underlying278, rfl⟩, by kernel_rfl⟩
instance : Fld Try.prog 278 0 0 := ⟨fld_of (by kernel_rfl)⟩
instance : Fld Try.prog 278 1 3 := ⟨fld_of (by kernel_rfl)⟩
instance : Sz Try.prog 285 (.int .u64 0) 1 8 := ⟨by kernel_rfl⟩
instance : ZeroC Try.prog 285 [.int .u64 0] := ⟨zeroC_of (z := .int .u64 0) (by kernel_rfl) rfl⟩
instance : Scalar Try.prog 285 := ⟨_, Try.underlying285, rfl⟩
instance : Sz Try.prog 286 (.slice none 0 0) 1 24 := ⟨by kernel_rfl⟩
instance : ZeroC Try.prog 286 [.slice none 0 0] := ⟨zeroC_of (z := .slice none 0 0) (by kernel_rfl) rfl⟩
instance : Scalar Try.prog 286 := ⟨_, Try.underlying286, rfl⟩
instance : SliceT Try.prog 286 293 := ⟨Try.underlying286⟩
instance : Sz Try.prog 289 (.pointer none) 1 8 := ⟨by kernel_rfl⟩
instance : ZeroC Try.prog 289 [.pointer none] := ⟨zeroC_of (z := .pointer none) (by kernel_rfl) rfl⟩
instance : Scalar Try.prog 289 := ⟨_, Try.underlying289, rfl⟩
instance : Sz Try.prog 290 (.agg #[.slice none 0 0, .int .i64 0, .slice none 0 0, .slice none 0 0, .int .i64 0]) 5 88 := ⟨by kernel_rfl⟩
instance : ZeroC Try.prog 290 [.slice none 0 0, .int .i64 0, .slice none 0 0, .slice none 0 0, .int .i64 0] := ⟨zeroC_of (z := .agg #[.slice none 0 0, .int .i64 0, .slice none 0 0, .slice none 0 0, .int .i64 0]) (by kernel_rfl) rfl⟩
instance : Parts Try.prog 290 [(0, 1), (1, 1), (2, 2), (4, 1)] := ⟨.inl ⟨_, Try.underlying290, by kernel_rfl, by kernel_rfl⟩⟩
instance : Aggr Try.prog 290 5 := ⟨⟨_, Try.underlying290, rfl⟩, by kernel_rfl⟩
instance : Fld Try.prog 290 0 0 := ⟨fld_of (by kernel_rfl)⟩
instance : Fld Try.prog 290 1 1 := ⟨fld_of (by kernel_rfl)⟩
instance : Fld Try.prog 290 2 2 := ⟨fld_of (by kernel_rfl)⟩
instance : Fld Try.prog 290 3 4 := ⟨fld_of (by kernel_rfl)⟩
instance : Sz Try.prog 291 (.agg #[.slice none 0 0, .int .i64 0, .slice none 0 0, .slice none 0 0, .int .i64 0]) 5 88 := ⟨by kernel_rfl⟩
instance : ZeroC Try.prog 291 [.slice none 0 0, .int .i64 0, .slice none 0 0, .slice none 0 0, .int .i64 0] := ⟨zeroC_of (z := .agg #[.slice none 0 0, .int .i64 0, .slice none 0 0, .slice none 0 0, .int .i64 0]) (by kernel_rfl) rfl⟩
instance : Parts Try.prog 291 [(0, 1), (1, 1), (2, 2), (4, 1)] := ⟨.inl ⟨_, Try.underlying291, by kernel_rfl, by kernel_rfl⟩⟩
instance : Aggr Try.prog 291 5 := ⟨⟨_, Try.underlying291, rfl⟩, by kernel_rfl⟩
instance : Fld Try.prog 291 0 0 := ⟨fld_of (by kernel_rfl)⟩
instance : Fld Try.prog 291 1 1 := ⟨fld_of (by kernel_rfl)⟩
instance : Fld Try.prog 291 2 2 := ⟨fld_of (by kernel_rfl)⟩
instance : Fld Try.prog 291 3 4 := ⟨fld_of (by kernel_rfl)⟩
instance : Sz Try.prog 292 (.agg #[.int .i64 0, .string ⟨#[]⟩, .int .i64 0, .int .i64 0]) 4 40 := ⟨by kernel_rfl⟩
instance : ZeroC Try.prog 292 [.int .i64 0, .string ⟨#[]⟩, .int .i64 0, .int .i64 0] := ⟨zeroC_of (z := .agg #[.int .i64 0, .string ⟨#[]⟩, .int .i64 0, .int .i64 0]) (by kernel_rfl) rfl⟩
instance : Parts Try.prog 292 [(0, 1), (1, 1), (2, 1), (3, 1)] := ⟨.inl ⟨_, Try.underlying292, by kernel_rfl, by kernel_rfl⟩⟩
instance : Aggr Try.prog 292 4 := ⟨⟨_, Try.underlying292, rfl⟩, by kernel_rfl⟩
instance : Fld Try.prog 292 0 0 := ⟨fld_of (by kernel_rfl)⟩
instance : Fld Try.prog 292 1 1 := ⟨fld_of (by kernel_rfl)⟩
instance : Fld Try.prog 292 2 2 := ⟨fld_of (by kernel_rfl)⟩
instance : Fld Try.prog 292 3 3 := ⟨fld_of (by kernel_rfl)⟩
instance : Sz Try.prog 293 (.agg #[.int .i64 0, .string ⟨#[]⟩, .int .i64 0, .int .i64 0]) 4 40 := ⟨by kernel_rfl⟩
instance : ZeroC Try.prog 293 [.int .i64 0, .string ⟨#[]⟩, .int .i64 0, .int .i64 0] := ⟨zeroC_of (z := .agg #[.int .i64 0, .string ⟨#[]⟩, .int .i64 0, .int .i64 0]) (by kernel_rfl) rfl⟩
instance : Parts Try.prog 293 [(0, 1), (1, 1), (2, 1), (3, 1)] := ⟨.inl ⟨_, Try.underlying293, by kernel_rfl, by kernel_rfl⟩⟩
instance : Aggr Try.prog 293 4 := ⟨⟨_, Try.underlying293, rfl⟩, by kernel_rfl⟩
instance : Fld Try.prog 293 0 0 := ⟨fld_of (by kernel_rfl)⟩
instance : Fld Try.prog 293 1 1 := ⟨fld_of (by kernel_rfl)⟩
instance : Fld Try.prog 293 2 2 := ⟨fld_of (by kernel_rfl)⟩
instance : Fld Try.prog 293 3 3 := ⟨fld_of (by kernel_rfl)⟩
instance : Sz Try.prog 302 (.pointer none) 1 8 := ⟨by kernel_rfl⟩
instance : ZeroC Try.prog 302 [.pointer none] := ⟨zeroC_of (z := .pointer none) (by kernel_rfl) rfl⟩
instance : Scalar Try.prog 302 := ⟨_, Try.underlying302, rfl⟩
instance : Sz Try.prog 310 (.int .i64 0) 1 8 := ⟨by kernel_rfl⟩
instance : ZeroC Try.prog 310 [.int .i64 0] := ⟨zeroC_of (z := .int .i64 0) (by kernel_rfl) rfl⟩
instance : Scalar Try.prog 310 := ⟨_, Try.underlying310, rfl⟩
instance : Sz Try.prog 317 (.int .u32 0) 1 4 := ⟨by kernel_rfl⟩
instance : ZeroC Try.prog 317 [.int .u32 0] := ⟨zeroC_of (z := .int .u32 0) (by kernel_rfl) rfl⟩
instance : Scalar Try.prog 317 := ⟨_, Try.underlying317, rfl⟩
instance : Sz Try.prog 319 (.int .u64 0) 1 8 := ⟨by kernel_rfl⟩
instance : ZeroC Try.prog 319 [.int .u64 0] := ⟨zeroC_of (z := .int .u64 0) (by kernel_rfl) rfl⟩
instance : Scalar Try.prog 319 := ⟨_, Try.underlying319, rfl⟩
instance : Sz Try.prog 330 (.slice none 0 0) 1 24 := ⟨by kernel_rfl⟩
instance : ZeroC Try.prog 330 [.slice none 0 0] := ⟨zeroC_of (z := .slice none 0 0) (by kernel_rfl) rfl⟩
instance : Scalar Try.prog 330 := ⟨_, Try.underlying330, rfl⟩
instance : SliceT Try.prog 330 46 := ⟨Try.underlying330⟩
instance : Sz Try.prog 332 (.int .u64 0) 1 8 := ⟨by kernel_rfl⟩
instance : ZeroC Try.prog 332 [.int .u64 0] := ⟨zeroC_of (z := .int .u64 0) (by kernel_rfl) rfl⟩
instance : Scalar Try.prog 332 := ⟨_, Try.underlying332, rfl⟩
instance : Sz Try.prog 336 (.pointer none) 1 8 := ⟨by kernel_rfl⟩
instance : ZeroC Try.prog 336 [.pointer none] := ⟨zeroC_of (z := .pointer none) (by kernel_rfl) rfl⟩
instance : Scalar Try.prog 336 := ⟨_, Try.underlying336, rfl⟩
instance : Sz Try.prog 344 (.pointer none) 1 8 := ⟨by kernel_rfl⟩
instance : ZeroC Try.prog 344 [.pointer none] := ⟨zeroC_of (z := .pointer none) (by kernel_rfl) rfl⟩
instance : Scalar Try.prog 344 := ⟨_, Try.underlying344, rfl⟩
instance : Sz Try.prog 348 (.agg #[.pointer none, .pointer none, .pointer none, .string ⟨#[]⟩]) 4 40 := ⟨by kernel_rfl⟩
instance : ZeroC Try.prog 348 [.pointer none, .pointer none, .pointer none, .string ⟨#[]⟩] := ⟨zeroC_of (z := .agg #[.pointer none, .pointer none, .pointer none, .string ⟨#[]⟩]) (by kernel_rfl) rfl⟩
instance : Parts Try.prog 348 [(0, 1), (1, 1), (2, 1), (3, 1)] := ⟨.inl ⟨_, Try.underlying348, by kernel_rfl, by kernel_rfl⟩⟩
instance : Aggr Try.prog 348 4 := ⟨⟨_, Try.underlying348, rfl⟩, by kernel_rfl⟩
instance : Fld Try.prog 348 0 0 := ⟨fld_of (by kernel_rfl)⟩
instance : Fld Try.prog 348 1 1 := ⟨fld_of (by kernel_rfl)⟩
instance : Fld Try.prog 348 2 2 := ⟨fld_of (by kernel_rfl)⟩
instance : Fld Try.prog 348 3 3 := ⟨fld_of (by kernel_rfl)⟩
instance : Sz Try.prog 349 (.agg #[.pointer none, .pointer none, .pointer none, .string ⟨#[]⟩]) 4 40 := ⟨by kernel_rfl⟩
instance : ZeroC Try.prog 349 [.pointer none, .pointer none, .pointer none, .string ⟨#[]⟩] := ⟨zeroC_of (z := .agg #[.pointer none, .pointer none, .pointer none, .string ⟨#[]⟩]) (by kernel_rfl) rfl⟩
instance : Parts Try.prog 349 [(0, 1), (1, 1), (2, 1), (3, 1)] := ⟨.inl ⟨_, Try.underlying349, by kernel_rfl, by kernel_rfl⟩⟩
instance : Aggr Try.prog 349 4 := ⟨⟨_, Try.underlying349, rfl⟩, by kernel_rfl⟩
instance : Fld Try.prog 349 0 0 := ⟨fld_of (by kernel_rfl)⟩
instance : Fld Try.prog 349 1 1 := ⟨fld_of (by kernel_rfl)⟩
instance : Fld Try.prog 349 2 2 := ⟨fld_of (by kernel_rfl)⟩
instance : Fld Try.prog 349 3 3 := ⟨fld_of (by kernel_rfl)⟩
instance : Sz Try.prog 354 (.int .u8 0) 1 1 := ⟨by kernel_rfl⟩
instance : ZeroC Try.prog 354 [.int .u8 0] := ⟨zeroC_of (z := .int .u8 0) (by kernel_rfl) rfl⟩
instance : Scalar Try.prog 354 := ⟨_, Try.underlying354, rfl⟩
instance : Sz Try.prog 355 (.int .u8 0) 1 1 := ⟨by kernel_rfl⟩
instance : ZeroC Try.prog 355 [.int .u8 0] := ⟨zeroC_of (z := .int .u8 0) (by kernel_rfl) rfl⟩
instance : Scalar Try.prog 355 := ⟨_, Try.underlying355, rfl⟩
instance : Sz Try.prog 356 (.nilFunc) 1 8 := ⟨by kernel_rfl⟩
instance : ZeroC Try.prog 356 [.nilFunc] := ⟨zeroC_of (z := .nilFunc) (by kernel_rfl) rfl⟩
instance : Scalar Try.prog 356 := ⟨_, Try.underlying356, rfl⟩
instance : Sz Try.prog 357 (.pointer none) 1 8 := ⟨by kernel_rfl⟩
instance : ZeroC Try.prog 357 [.pointer none] := ⟨zeroC_of (z := .pointer none) (by kernel_rfl) rfl⟩
instance : Scalar Try.prog 357 := ⟨_, Try.underlying357, rfl⟩
instance : Sz Try.prog 358 (.int .i32 0) 1 4 := ⟨by kernel_rfl⟩
instance : ZeroC Try.prog 358 [.int .i32 0] := ⟨zeroC_of (z := .int .i32 0) (by kernel_rfl) rfl⟩
instance : Scalar Try.prog 358 := ⟨_, Try.underlying358, rfl⟩
instance : Sz Try.prog 359 (.int .i32 0) 1 4 := ⟨by kernel_rfl⟩
instance : ZeroC Try.prog 359 [.int .i32 0] := ⟨zeroC_of (z := .int .i32 0) (by kernel_rfl) rfl⟩
instance : Scalar Try.prog 359 := ⟨_, Try.underlying359, rfl⟩
instance : Sz Try.prog 360 (.agg #[.int .u64 0, .int .u64 0, .int .u32 0, .int .u8 0, .int .u8 0, .int .u8 0, .int .u8 0, .nilFunc, .pointer none, .int .i32 0, .int .i32 0]) 11 48 := ⟨by kernel_rfl⟩
instance : ZeroC Try.prog 360 [.int .u64 0, .int .u64 0, .int .u32 0, .int .u8 0, .int .u8 0, .int .u8 0, .int .u8 0, .nilFunc, .pointer none, .int .i32 0, .int .i32 0] := ⟨zeroC_of (z := .agg #[.int .u64 0, .int .u64 0, .int .u32 0, .int .u8 0, .int .u8 0, .int .u8 0, .int .u8 0, .nilFunc, .pointer none, .int .i32 0, .int .i32 0]) (by kernel_rfl) rfl⟩
instance : Parts Try.prog 360 [(0, 1), (1, 1), (2, 1), (3, 1), (4, 1), (5, 1), (6, 1), (7, 1), (8, 1), (9, 1), (10, 1)] := ⟨.inl ⟨_, Try.underlying360, by kernel_rfl, by kernel_rfl⟩⟩
instance : Aggr Try.prog 360 11 := ⟨⟨_, Try.underlying360, rfl⟩, by kernel_rfl⟩
instance : Fld Try.prog 360 0 0 := ⟨fld_of (by kernel_rfl)⟩
instance : Fld Try.prog 360 1 1 := ⟨fld_of (by kernel_rfl)⟩
instance : Fld Try.prog 360 2 2 := ⟨fld_of (by kernel_rfl)⟩
instance : Fld Try.prog 360 3 3 := ⟨fld_of (by kernel_rfl)⟩
instance : Fld Try.prog 360 4 4 := ⟨fld_of (by kernel_rfl)⟩
instance : Fld Try.prog 360 5 5 := ⟨fld_of (by kernel_rfl)⟩
instance : Fld Try.prog 360 6 6 := ⟨fld_of (by kernel_rfl)⟩
instance : Fld Try.prog 360 7 7 := ⟨fld_of (by kernel_rfl)⟩
instance : Fld Try.prog 360 8 8 := ⟨fld_of (by kernel_rfl)⟩
instance : Fld Try.prog 360 9 9 := ⟨fld_of (by kernel_rfl)⟩
instance : Fld Try.prog 360 10 10 := ⟨fld_of (by kernel_rfl)⟩
instance : Sz Try.prog 361 (.agg #[.int .u64 0, .int .u64 0, .int .u32 0, .int .u8 0, .int .u8 0, .int .u8 0, .int .u8 0, .nilFunc, .pointer none, .int .i32 0, .int .i32 0]) 11 48 := ⟨by kernel_rfl⟩
instance : ZeroC Try.prog 361 [.int .u64 0, .int .u64 0, .int .u32 0, .int .u8 0, .int .u8 0, .int .u8 0, .int .u8 0, .nilFunc, .pointer none, .int .i32 0, .int .i32 0] := ⟨zeroC_of (z := .agg #[.int .u64 0, .int .u64 0, .int .u32 0, .int .u8 0, .int .u8 0, .int .u8 0, .int .u8 0, .nilFunc, .pointer none, .int .i32 0, .int .i32 0]) (by kernel_rfl) rfl⟩
instance : Parts Try.prog 361 [(0, 1), (1, 1), (2, 1), (3, 1), (4, 1), (5, 1), (6, 1), (7, 1), (8, 1), (9, 1), (10, 1)] := ⟨.inl ⟨_, Try.underlying361, by kernel_rfl, by kernel_rfl⟩⟩
instance : Aggr Try.prog 361 11 := ⟨⟨_, Try.underlying361, rfl⟩, by kernel_rfl⟩
instance : Fld Try.prog 361 0 0 := ⟨fld_of (by kernel_rfl)⟩
instance : Fld Try.prog 361 1 1 := ⟨fld_of (by kernel_rfl)⟩
instance : Fld Try.prog 361 2 2 := ⟨fld_of (by kernel_rfl)⟩
instance : Fld Try.prog 361 3 3 := ⟨fld_of (by kernel_rfl)⟩
instance : Fld Try.prog 361 4 4 := ⟨fld_of (by kernel_rfl)⟩
instance : Fld Try.prog 361 5 5 := ⟨fld_of (by kernel_rfl)⟩
instance : Fld Try.prog 361 6 6 := ⟨fld_of (by kernel_rfl)⟩
instance : Fld Try.prog 361 7 7 := ⟨fld_of (by kernel_rfl)⟩
instance : Fld Try.prog 361 8 8 := ⟨fld_of (by kernel_rfl)⟩
instance : Fld Try.prog 361 9 9 := ⟨fld_of (by kernel_rfl)⟩
instance : Fld Try.prog 361 10 10 := ⟨fld_of (by kernel_rfl)⟩
end Go.Proofs.Ytgoimincdbbafaa.St
