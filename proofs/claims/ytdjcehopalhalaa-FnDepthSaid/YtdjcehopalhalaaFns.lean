/-
  A call of each function of the program that has a body enters it.
-/
import Derived.Test.YtdjcehopalhalaaStDraw
import Derived.Test.YtdjcehopalhalaaRows
set_option linter.unusedSimpArgs false
set_option linter.unusedVariables false
namespace Go.Proofs.Ytdjcehopalhalaa.St
theorem mixed : Try.prog.follows .mixedOrders = true := by kernel_rfl
theorem en3 : Enters Try.prog 3 := enters_of Try.func3 (by kernel_rfl) rfl
instance : En Try.prog 3 := ⟨en3⟩
theorem en4 : Enters Try.prog 4 := enters_of Try.func4 (by kernel_rfl) rfl
instance : En Try.prog 4 := ⟨en4⟩
theorem en5 : Enters Try.prog 5 := enters_of Try.func5 (by kernel_rfl) rfl
instance : En Try.prog 5 := ⟨en5⟩
theorem en6 : Enters Try.prog 6 := enters_of Try.func6 (by kernel_rfl) rfl
instance : En Try.prog 6 := ⟨en6⟩
theorem en7 : Enters Try.prog 7 := enters_of Try.func7 (by kernel_rfl) rfl
instance : En Try.prog 7 := ⟨en7⟩
theorem en8 : Enters Try.prog 8 := enters_of Try.func8 (by kernel_rfl) rfl
instance : En Try.prog 8 := ⟨en8⟩
theorem en9 : Enters Try.prog 9 := enters_of Try.func9 (by kernel_rfl) rfl
instance : En Try.prog 9 := ⟨en9⟩
theorem en10 : Enters Try.prog 10 := enters_of Try.func10 (by kernel_rfl) rfl
instance : En Try.prog 10 := ⟨en10⟩
theorem en11 : Enters Try.prog 11 := enters_of Try.func11 (by kernel_rfl) rfl
instance : En Try.prog 11 := ⟨en11⟩
theorem en12 : Enters Try.prog 12 := enters_of Try.func12 (by kernel_rfl) rfl
instance : En Try.prog 12 := ⟨en12⟩
theorem en13 : Enters Try.prog 13 := enters_of Try.func13 (by kernel_rfl) rfl
instance : En Try.prog 13 := ⟨en13⟩
theorem en14 : Enters Try.prog 14 := enters_of Try.func14 (by kernel_rfl) rfl
instance : En Try.prog 14 := ⟨en14⟩
theorem en15 : Enters Try.prog 15 := enters_of Try.func15 (by kernel_rfl) rfl
instance : En Try.prog 15 := ⟨en15⟩
theorem en16 : Enters Try.prog 16 := enters_of Try.func16 (by kernel_rfl) rfl
instance : En Try.prog 16 := ⟨en16⟩
theorem en17 : Enters Try.prog 17 := enters_of Try.func17 (by kernel_rfl) rfl
instance : En Try.prog 17 := ⟨en17⟩
theorem en18 : Enters Try.prog 18 := enters_of Try.func18 (by kernel_rfl) rfl
instance : En Try.prog 18 := ⟨en18⟩
theorem en19 : Enters Try.prog 19 := enters_of Try.func19 (by kernel_rfl) rfl
instance : En Try.prog 19 := ⟨en19⟩
theorem en20 : Enters Try.prog 20 := enters_of Try.func20 (by kernel_rfl) rfl
instance : En Try.prog 20 := ⟨en20⟩
theorem en21 : Enters Try.prog 21 := enters_of Try.func21 (by kernel_rfl) rfl
instance : En Try.prog 21 := ⟨en21⟩
theorem en22 : Enters Try.prog 22 := enters_of Try.func22 (by kernel_rfl) rfl
instance : En Try.prog 22 := ⟨en22⟩
theorem en23 : Enters Try.prog 23 := enters_of Try.func23 (by kernel_rfl) rfl
instance : En Try.prog 23 := ⟨en23⟩
theorem en24 : Enters Try.prog 24 := enters_of Try.func24 (by kernel_rfl) rfl
instance : En Try.prog 24 := ⟨en24⟩
theorem en25 : Enters Try.prog 25 := enters_of Try.func25 (by kernel_rfl) rfl
instance : En Try.prog 25 := ⟨en25⟩
theorem en26 : Enters Try.prog 26 := enters_of Try.func26 (by kernel_rfl) rfl
instance : En Try.prog 26 := ⟨en26⟩
theorem en27 : Enters Try.prog 27 := enters_of Try.func27 (by kernel_rfl) rfl
instance : En Try.prog 27 := ⟨en27⟩
theorem en28 : Enters Try.prog 28 := enters_of Try.func28 (by kernel_rfl) rfl
instance : En Try.prog 28 := ⟨en28⟩
theorem en29 : Enters Try.prog 29 := enters_of Try.func29 (by kernel_rfl) rfl
instance : En Try.prog 29 := ⟨en29⟩
theorem en30 : Enters Try.prog 30 := enters_of Try.func30 (by kernel_rfl) rfl
instance : En Try.prog 30 := ⟨en30⟩
theorem en31 : Enters Try.prog 31 := enters_of Try.func31 (by kernel_rfl) rfl
instance : En Try.prog 31 := ⟨en31⟩
theorem en32 : Enters Try.prog 32 := enters_of Try.func32 (by kernel_rfl) rfl
instance : En Try.prog 32 := ⟨en32⟩
theorem en33 : Enters Try.prog 33 := enters_of Try.func33 (by kernel_rfl) rfl
instance : En Try.prog 33 := ⟨en33⟩
theorem en34 : Enters Try.prog 34 := enters_of Try.func34 (by kernel_rfl) rfl
instance : En Try.prog 34 := ⟨en34⟩
theorem en35 : Enters Try.prog 35 := enters_of Try.func35 (by kernel_rfl) rfl
instance : En Try.prog 35 := ⟨en35⟩
theorem en36 : Enters Try.prog 36 := enters_of Try.func36 (by kernel_rfl) rfl
instance : En Try.prog 36 := ⟨en36⟩
theorem en37 : Enters Try.prog 37 := enters_of Try.func37 (by kernel_rfl) rfl
instance : En Try.prog 37 := ⟨en37⟩
theorem en38 : Enters Try.prog 38 := enters_of Try.func38 (by kernel_rfl) rfl
instance : En Try.prog 38 := ⟨en38⟩
theorem en39 : Enters Try.prog 39 := enters_of Try.func39 (by kernel_rfl) rfl
instance : En Try.prog 39 := ⟨en39⟩
theorem en40 : Enters Try.prog 40 := enters_of Try.func40 (by kernel_rfl) rfl
instance : En Try.prog 40 := ⟨en40⟩
theorem en41 : Enters Try.prog 41 := enters_of Try.func41 (by kernel_rfl) rfl
instance : En Try.prog 41 := ⟨en41⟩
theorem en42 : Enters Try.prog 42 := enters_of Try.func42 (by kernel_rfl) rfl
instance : En Try.prog 42 := ⟨en42⟩
theorem en43 : Enters Try.prog 43 := enters_of Try.func43 (by kernel_rfl) rfl
instance : En Try.prog 43 := ⟨en43⟩
theorem en44 : Enters Try.prog 44 := enters_of Try.func44 (by kernel_rfl) rfl
instance : En Try.prog 44 := ⟨en44⟩
theorem en45 : Enters Try.prog 45 := enters_of Try.func45 (by kernel_rfl) rfl
instance : En Try.prog 45 := ⟨en45⟩
theorem en46 : Enters Try.prog 46 := enters_of Try.func46 (by kernel_rfl) rfl
instance : En Try.prog 46 := ⟨en46⟩
theorem en47 : Enters Try.prog 47 := enters_of Try.func47 (by kernel_rfl) rfl
instance : En Try.prog 47 := ⟨en47⟩
theorem en48 : Enters Try.prog 48 := enters_of Try.func48 (by kernel_rfl) rfl
instance : En Try.prog 48 := ⟨en48⟩
theorem en49 : Enters Try.prog 49 := enters_of Try.func49 (by kernel_rfl) rfl
instance : En Try.prog 49 := ⟨en49⟩
theorem en50 : Enters Try.prog 50 := enters_of Try.func50 (by kernel_rfl) rfl
instance : En Try.prog 50 := ⟨en50⟩
theorem en51 : Enters Try.prog 51 := enters_of Try.func51 (by kernel_rfl) rfl
instance : En Try.prog 51 := ⟨en51⟩
theorem en52 : Enters Try.prog 52 := enters_of Try.func52 (by kernel_rfl) rfl
instance : En Try.prog 52 := ⟨en52⟩
theorem en53 : Enters Try.prog 53 := enters_of Try.func53 (by kernel_rfl) rfl
instance : En Try.prog 53 := ⟨en53⟩
theorem en54 : Enters Try.prog 54 := enters_of Try.func54 (by kernel_rfl) rfl
instance : En Try.prog 54 := ⟨en54⟩
theorem en55 : Enters Try.prog 55 := enters_of Try.func55 (by kernel_rfl) rfl
instance : En Try.prog 55 := ⟨en55⟩
theorem en56 : Enters Try.prog 56 := enters_of Try.func56 (by kernel_rfl) rfl
instance : En Try.prog 56 := ⟨en56⟩
theorem en57 : Enters Try.prog 57 := enters_of Try.func57 (by kernel_rfl) rfl
instance : En Try.prog 57 := ⟨en57⟩
theorem en58 : Enters Try.prog 58 := enters_of Try.func58 (by kernel_rfl) rfl
instance : En Try.prog 58 := ⟨en58⟩
theorem en59 : Enters Try.prog 59 := enters_of Try.func59 (by kernel_rfl) rfl
instance : En Try.prog 59 := ⟨en59⟩
theorem en60 : Enters Try.prog 60 := enters_of Try.func60 (by kernel_rfl) rfl
instance : En Try.prog 60 := ⟨en60⟩
theorem en61 : Enters Try.prog 61 := enters_of Try.func61 (by kernel_rfl) rfl
instance : En Try.prog 61 := ⟨en61⟩
theorem en62 : Enters Try.prog 62 := enters_of Try.func62 (by kernel_rfl) rfl
instance : En Try.prog 62 := ⟨en62⟩
theorem en63 : Enters Try.prog 63 := enters_of Try.func63 (by kernel_rfl) rfl
instance : En Try.prog 63 := ⟨en63⟩
theorem en64 : Enters Try.prog 64 := enters_of Try.func64 (by kernel_rfl) rfl
instance : En Try.prog 64 := ⟨en64⟩
theorem en65 : Enters Try.prog 65 := enters_of Try.func65 (by kernel_rfl) rfl
instance : En Try.prog 65 := ⟨en65⟩
theorem en66 : Enters Try.prog 66 := enters_of Try.func66 (by kernel_rfl) rfl
instance : En Try.prog 66 := ⟨en66⟩
theorem en67 : Enters Try.prog 67 := enters_of Try.func67 (by kernel_rfl) rfl
instance : En Try.prog 67 := ⟨en67⟩
theorem en68 : Enters Try.prog 68 := enters_of Try.func68 (by kernel_rfl) rfl
instance : En Try.prog 68 := ⟨en68⟩
theorem en69 : Enters Try.prog 69 := enters_of Try.func69 (by kernel_rfl) rfl
instance : En Try.prog 69 := ⟨en69⟩
theorem en70 : Enters Try.prog 70 := enters_of Try.func70 (by kernel_rfl) rfl
instance : En Try.prog 70 := ⟨en70⟩
theorem en71 : Enters Try.prog 71 := enters_of Try.func71 (by kernel_rfl) rfl
instance : En Try.prog 71 := ⟨en71⟩
theorem en72 : Enters Try.prog 72 := enters_of Try.func72 (by kernel_rfl) rfl
instance : En Try.prog 72 := ⟨en72⟩
theorem en73 : Enters Try.prog 73 := enters_of Try.func73 (by kernel_rfl) rfl
instance : En Try.prog 73 := ⟨en73⟩
theorem en74 : Enters Try.prog 74 := enters_of Try.func74 (by kernel_rfl) rfl
instance : En Try.prog 74 := ⟨en74⟩
theorem en75 : Enters Try.prog 75 := enters_of Try.func75 (by kernel_rfl) rfl
instance : En Try.prog 75 := ⟨en75⟩
theorem en76 : Enters Try.prog 76 := enters_of Try.func76 (by kernel_rfl) rfl
instance : En Try.prog 76 := ⟨en76⟩
theorem en77 : Enters Try.prog 77 := enters_of Try.func77 (by kernel_rfl) rfl
instance : En Try.prog 77 := ⟨en77⟩
theorem en78 : Enters Try.prog 78 := enters_of Try.func78 (by kernel_rfl) rfl
instance : En Try.prog 78 := ⟨en78⟩
theorem en79 : Enters Try.prog 79 := enters_of Try.func79 (by kernel_rfl) rfl
instance : En Try.prog 79 := ⟨en79⟩
theorem en80 : Enters Try.prog 80 := enters_of Try.func80 (by kernel_rfl) rfl
instance : En Try.prog 80 := ⟨en80⟩
theorem en81 : Enters Try.prog 81 := enters_of Try.func81 (by kernel_rfl) rfl
instance : En Try.prog 81 := ⟨en81⟩
theorem en82 : Enters Try.prog 82 := enters_of Try.func82 (by kernel_rfl) rfl
instance : En Try.prog 82 := ⟨en82⟩
theorem en83 : Enters Try.prog 83 := enters_of Try.func83 (by kernel_rfl) rfl
instance : En Try.prog 83 := ⟨en83⟩
theorem en84 : Enters Try.prog 84 := enters_of Try.func84 (by kernel_rfl) rfl
instance : En Try.prog 84 := ⟨en84⟩
theorem en85 : Enters Try.prog 85 := enters_of Try.func85 (by kernel_rfl) rfl
instance : En Try.prog 85 := ⟨en85⟩
theorem en86 : Enters Try.prog 86 := enters_of Try.func86 (by kernel_rfl) rfl
instance : En Try.prog 86 := ⟨en86⟩
theorem en87 : Enters Try.prog 87 := enters_of Try.func87 (by kernel_rfl) rfl
instance : En Try.prog 87 := ⟨en87⟩
theorem en88 : Enters Try.prog 88 := enters_of Try.func88 (by kernel_rfl) rfl
instance : En Try.prog 88 := ⟨en88⟩
theorem en89 : Enters Try.prog 89 := enters_of Try.func89 (by kernel_rfl) rfl
instance : En Try.prog 89 := ⟨en89⟩
theorem en90 : Enters Try.prog 90 := enters_of Try.func90 (by kernel_rfl) rfl
instance : En Try.prog 90 := ⟨en90⟩
theorem en91 : Enters Try.prog 91 := enters_of Try.func91 (by kernel_rfl) rfl
instance : En Try.prog 91 := ⟨en91⟩
theorem en92 : Enters Try.prog 92 := enters_of Try.func92 (by kernel_rfl) rfl
instance : En Try.prog 92 := ⟨en92⟩
theorem en93 : Enters Try.prog 93 := enters_of Try.func93 (by kernel_rfl) rfl
instance : En Try.prog 93 := ⟨en93⟩
theorem en94 : Enters Try.prog 94 := enters_of Try.func94 (by kernel_rfl) rfl
instance : En Try.prog 94 := ⟨en94⟩
theorem en95 : Enters Try.prog 95 := enters_of Try.func95 (by kernel_rfl) rfl
instance : En Try.prog 95 := ⟨en95⟩
theorem en96 : Enters Try.prog 96 := enters_of Try.func96 (by kernel_rfl) rfl
instance : En Try.prog 96 := ⟨en96⟩
theorem en97 : Enters Try.prog 97 := enters_of Try.func97 (by kernel_rfl) rfl
instance : En Try.prog 97 := ⟨en97⟩
theorem en98 : Enters Try.prog 98 := enters_of Try.func98 (by kernel_rfl) rfl
instance : En Try.prog 98 := ⟨en98⟩
theorem en99 : Enters Try.prog 99 := enters_of Try.func99 (by kernel_rfl) rfl
instance : En Try.prog 99 := ⟨en99⟩
theorem en100 : Enters Try.prog 100 := enters_of Try.func100 (by kernel_rfl) rfl
instance : En Try.prog 100 := ⟨en100⟩
theorem en101 : Enters Try.prog 101 := enters_of Try.func101 (by kernel_rfl) rfl
instance : En Try.prog 101 := ⟨en101⟩
theorem en102 : Enters Try.prog 102 := enters_of Try.func102 (by kernel_rfl) rfl
instance : En Try.prog 102 := ⟨en102⟩
theorem en103 : Enters Try.prog 103 := enters_of Try.func103 (by kernel_rfl) rfl
instance : En Try.prog 103 := ⟨en103⟩
theorem en104 : Enters Try.prog 104 := enters_of Try.func104 (by kernel_rfl) rfl
instance : En Try.prog 104 := ⟨en104⟩
theorem en105 : Enters Try.prog 105 := enters_of Try.func105 (by kernel_rfl) rfl
instance : En Try.prog 105 := ⟨en105⟩
theorem en106 : Enters Try.prog 106 := enters_of Try.func106 (by kernel_rfl) rfl
instance : En Try.prog 106 := ⟨en106⟩
theorem en107 : Enters Try.prog 107 := enters_of Try.func107 (by kernel_rfl) rfl
instance : En Try.prog 107 := ⟨en107⟩
theorem en108 : Enters Try.prog 108 := enters_of Try.func108 (by kernel_rfl) rfl
instance : En Try.prog 108 := ⟨en108⟩
theorem en109 : Enters Try.prog 109 := enters_of Try.func109 (by kernel_rfl) rfl
instance : En Try.prog 109 := ⟨en109⟩
theorem en110 : Enters Try.prog 110 := enters_of Try.func110 (by kernel_rfl) rfl
instance : En Try.prog 110 := ⟨en110⟩
theorem en111 : Enters Try.prog 111 := enters_of Try.func111 (by kernel_rfl) rfl
instance : En Try.prog 111 := ⟨en111⟩
theorem en112 : Enters Try.prog 112 := enters_of Try.func112 (by kernel_rfl) rfl
instance : En Try.prog 112 := ⟨en112⟩
theorem en113 : Enters Try.prog 113 := enters_of Try.func113 (by kernel_rfl) rfl
instance : En Try.prog 113 := ⟨en113⟩
theorem en114 : Enters Try.prog 114 := enters_of Try.func114 (by kernel_rfl) rfl
instance : En Try.prog 114 := ⟨en114⟩
theorem en115 : Enters Try.prog 115 := enters_of Try.func115 (by kernel_rfl) rfl
instance : En Try.prog 115 := ⟨en115⟩
theorem en116 : Enters Try.prog 116 := enters_of Try.func116 (by kernel_rfl) rfl
instance : En Try.prog 116 := ⟨en116⟩
theorem en117 : Enters Try.prog 117 := enters_of Try.func117 (by kernel_rfl) rfl
instance : En Try.prog 117 := ⟨en117⟩
theorem en118 : Enters Try.prog 118 := enters_of Try.func118 (by kernel_rfl) rfl
instance : En Try.prog 118 := ⟨en118⟩
theorem en119 : Enters Try.prog 119 := enters_of Try.func119 (by kernel_rfl) rfl
instance : En Try.prog 119 := ⟨en119⟩
theorem en120 : Enters Try.prog 120 := enters_of Try.func120 (by kernel_rfl) rfl
instance : En Try.prog 120 := ⟨en120⟩
theorem en121 : Enters Try.prog 121 := enters_of Try.func121 (by kernel_rfl) rfl
instance : En Try.prog 121 := ⟨en121⟩
theorem en122 : Enters Try.prog 122 := enters_of Try.func122 (by kernel_rfl) rfl
instance : En Try.prog 122 := ⟨en122⟩
theorem en123 : Enters Try.prog 123 := enters_of Try.func123 (by kernel_rfl) rfl
instance : En Try.prog 123 := ⟨en123⟩
theorem en124 : Enters Try.prog 124 := enters_of Try.func124 (by kernel_rfl) rfl
instance : En Try.prog 124 := ⟨en124⟩
theorem en125 : Enters Try.prog 125 := enters_of Try.func125 (by kernel_rfl) rfl
instance : En Try.prog 125 := ⟨en125⟩
theorem en126 : Enters Try.prog 126 := enters_of Try.func126 (by kernel_rfl) rfl
instance : En Try.prog 126 := ⟨en126⟩
theorem en127 : Enters Try.prog 127 := enters_of Try.func127 (by kernel_rfl) rfl
instance : En Try.prog 127 := ⟨en127⟩
theorem en128 : Enters Try.prog 128 := enters_of Try.func128 (by kernel_rfl) rfl
instance : En Try.prog 128 := ⟨en128⟩
theorem en129 : Enters Try.prog 129 := enters_of Try.func129 (by kernel_rfl) rfl
instance : En Try.prog 129 := ⟨en129⟩
theorem en130 : Enters Try.prog 130 := enters_of Try.func130 (by kernel_rfl) rfl
instance : En Try.prog 130 := ⟨en130⟩
theorem en131 : Enters Try.prog 131 := enters_of Try.func131 (by kernel_rfl) rfl
instance : En Try.prog 131 := ⟨en131⟩
theorem en132 : Enters Try.prog 132 := enters_of Try.func132 (by kernel_rfl) rfl
instance : En Try.prog 132 := ⟨en132⟩
theorem en133 : Enters Try.prog 133 := enters_of Try.func133 (by kernel_rfl) rfl
instance : En Try.prog 133 := ⟨en133⟩
theorem en134 : Enters Try.prog 134 := enters_of Try.func134 (by kernel_rfl) rfl
instance : En Try.prog 134 := ⟨en134⟩
theorem en135 : Enters Try.prog 135 := enters_of Try.func135 (by kernel_rfl) rfl
instance : En Try.prog 135 := ⟨en135⟩
theorem en136 : Enters Try.prog 136 := enters_of Try.func136 (by kernel_rfl) rfl
instance : En Try.prog 136 := ⟨en136⟩
theorem en137 : Enters Try.prog 137 := enters_of Try.func137 (by kernel_rfl) rfl
instance : En Try.prog 137 := ⟨en137⟩
theorem en138 : Enters Try.prog 138 := enters_of Try.func138 (by kernel_rfl) rfl
instance : En Try.prog 138 := ⟨en138⟩
theorem en139 : Enters Try.prog 139 := enters_of Try.func139 (by kernel_rfl) rfl
instance : En Try.prog 139 := ⟨en139⟩
theorem en140 : Enters Try.prog 140 := enters_of Try.func140 (by kernel_rfl) rfl
instance : En Try.prog 140 := ⟨en140⟩
theorem en141 : Enters Try.prog 141 := enters_of Try.func141 (by kernel_rfl) rfl
instance : En Try.prog 141 := ⟨en141⟩
theorem en142 : Enters Try.prog 142 := enters_of Try.func142 (by kernel_rfl) rfl
instance : En Try.prog 142 := ⟨en142⟩
theorem en143 : Enters Try.prog 143 := enters_of Try.func143 (by kernel_rfl) rfl
instance : En Try.prog 143 := ⟨en143⟩
theorem en144 : Enters Try.prog 144 := enters_of Try.func144 (by kernel_rfl) rfl
instance : En Try.prog 144 := ⟨en144⟩
theorem en145 : Enters Try.prog 145 := enters_of Try.func145 (by kernel_rfl) rfl
instance : En Try.prog 145 := ⟨en145⟩
theorem en146 : Enters Try.prog 146 := enters_of Try.func146 (by kernel_rfl) rfl
instance : En Try.prog 146 := ⟨en146⟩
theorem en147 : Enters Try.prog 147 := enters_of Try.func147 (by kernel_rfl) rfl
instance : En Try.prog 147 := ⟨en147⟩
theorem en148 : Enters Try.prog 148 := enters_of Try.func148 (by kernel_rfl) rfl
instance : En Try.prog 148 := ⟨en148⟩
theorem en149 : Enters Try.prog 149 := enters_of Try.func149 (by kernel_rfl) rfl
instance : En Try.prog 149 := ⟨en149⟩
theorem en150 : Enters Try.prog 150 := enters_of Try.func150 (by kernel_rfl) rfl
instance : En Try.prog 150 := ⟨en150⟩
theorem en151 : Enters Try.prog 151 := enters_of Try.func151 (by kernel_rfl) rfl
instance : En Try.prog 151 := ⟨en151⟩
theorem en152 : Enters Try.prog 152 := enters_of Try.func152 (by kernel_rfl) rfl
instance : En Try.prog 152 := ⟨en152⟩
theorem en153 : Enters Try.prog 153 := enters_of Try.func153 (by kernel_rfl) rfl
instance : En Try.prog 153 := ⟨en153⟩
theorem en154 : Enters Try.prog 154 := enters_of Try.func154 (by kernel_rfl) rfl
instance : En Try.prog 154 := ⟨en154⟩
theorem en155 : Enters Try.prog 155 := enters_of Try.func155 (by kernel_rfl) rfl
instance : En Try.prog 155 := ⟨en155⟩
theorem en156 : Enters Try.prog 156 := enters_of Try.func156 (by kernel_rfl) rfl
instance : En Try.prog 156 := ⟨en156⟩
theorem en157 : Enters Try.prog 157 := enters_of Try.func157 (by kernel_rfl) rfl
instance : En Try.prog 157 := ⟨en157⟩
theorem en158 : Enters Try.prog 158 := enters_of Try.func158 (by kernel_rfl) rfl
instance : En Try.prog 158 := ⟨en158⟩
theorem en159 : Enters Try.prog 159 := enters_of Try.func159 (by kernel_rfl) rfl
instance : En Try.prog 159 := ⟨en159⟩
theorem en160 : Enters Try.prog 160 := enters_of Try.func160 (by kernel_rfl) rfl
instance : En Try.prog 160 := ⟨en160⟩
theorem en161 : Enters Try.prog 161 := enters_of Try.func161 (by kernel_rfl) rfl
instance : En Try.prog 161 := ⟨en161⟩
theorem en162 : Enters Try.prog 162 := enters_of Try.func162 (by kernel_rfl) rfl
instance : En Try.prog 162 := ⟨en162⟩
theorem en163 : Enters Try.prog 163 := enters_of Try.func163 (by kernel_rfl) rfl
instance : En Try.prog 163 := ⟨en163⟩
theorem en164 : Enters Try.prog 164 := enters_of Try.func164 (by kernel_rfl) rfl
instance : En Try.prog 164 := ⟨en164⟩
theorem en165 : Enters Try.prog 165 := enters_of Try.func165 (by kernel_rfl) rfl
instance : En Try.prog 165 := ⟨en165⟩
theorem en166 : Enters Try.prog 166 := enters_of Try.func166 (by kernel_rfl) rfl
instance : En Try.prog 166 := ⟨en166⟩
theorem en167 : Enters Try.prog 167 := enters_of Try.func167 (by kernel_rfl) rfl
instance : En Try.prog 167 := ⟨en167⟩
theorem en168 : Enters Try.prog 168 := enters_of Try.func168 (by kernel_rfl) rfl
instance : En Try.prog 168 := ⟨en168⟩
theorem en169 : Enters Try.prog 169 := enters_of Try.func169 (by kernel_rfl) rfl
instance : En Try.prog 169 := ⟨en169⟩
theorem en170 : Enters Try.prog 170 := enters_of Try.func170 (by kernel_rfl) rfl
instance : En Try.prog 170 := ⟨en170⟩
theorem en171 : Enters Try.prog 171 := enters_of Try.func171 (by kernel_rfl) rfl
instance : En Try.prog 171 := ⟨en171⟩
theorem en172 : Enters Try.prog 172 := enters_of Try.func172 (by kernel_rfl) rfl
instance : En Try.prog 172 := ⟨en172⟩
theorem en173 : Enters Try.prog 173 := enters_of Try.func173 (by kernel_rfl) rfl
instance : En Try.prog 173 := ⟨en173⟩
theorem en174 : Enters Try.prog 174 := enters_of Try.func174 (by kernel_rfl) rfl
instance : En Try.prog 174 := ⟨en174⟩
theorem en175 : Enters Try.prog 175 := enters_of Try.func175 (by kernel_rfl) rfl
instance : En Try.prog 175 := ⟨en175⟩
theorem en176 : Enters Try.prog 176 := enters_of Try.func176 (by kernel_rfl) rfl
instance : En Try.prog 176 := ⟨en176⟩
theorem en177 : Enters Try.prog 177 := enters_of Try.func177 (by kernel_rfl) rfl
instance : En Try.prog 177 := ⟨en177⟩
theorem en178 : Enters Try.prog 178 := enters_of Try.func178 (by kernel_rfl) rfl
instance : En Try.prog 178 := ⟨en178⟩
theorem en179 : Enters Try.prog 179 := enters_of Try.func179 (by kernel_rfl) rfl
instance : En Try.prog 179 := ⟨en179⟩
theorem en180 : Enters Try.prog 180 := enters_of Try.func180 (by kernel_rfl) rfl
instance : En Try.prog 180 := ⟨en180⟩
theorem en181 : Enters Try.prog 181 := enters_of Try.func181 (by kernel_rfl) rfl
instance : En Try.prog 181 := ⟨en181⟩
theorem en182 : Enters Try.prog 182 := enters_of Try.func182 (by kernel_rfl) rfl
instance : En Try.prog 182 := ⟨en182⟩
theorem en183 : Enters Try.prog 183 := enters_of Try.func183 (by kernel_rfl) rfl
instance : En Try.prog 183 := ⟨en183⟩
theorem en184 : Enters Try.prog 184 := enters_of Try.func184 (by kernel_rfl) rfl
instance : En Try.prog 184 := ⟨en184⟩
theorem en185 : Enters Try.prog 185 := enters_of Try.func185 (by kernel_rfl) rfl
instance : En Try.prog 185 := ⟨en185⟩
theorem en186 : Enters Try.prog 186 := enters_of Try.func186 (by kernel_rfl) rfl
instance : En Try.prog 186 := ⟨en186⟩
theorem en187 : Enters Try.prog 187 := enters_of Try.func187 (by kernel_rfl) rfl
instance : En Try.prog 187 := ⟨en187⟩
theorem en188 : Enters Try.prog 188 := enters_of Try.func188 (by kernel_rfl) rfl
instance : En Try.prog 188 := ⟨en188⟩
theorem en189 : Enters Try.prog 189 := enters_of Try.func189 (by kernel_rfl) rfl
instance : En Try.prog 189 := ⟨en189⟩
theorem en190 : Enters Try.prog 190 := enters_of Try.func190 (by kernel_rfl) rfl
instance : En Try.prog 190 := ⟨en190⟩
theorem en191 : Enters Try.prog 191 := enters_of Try.func191 (by kernel_rfl) rfl
instance : En Try.prog 191 := ⟨en191⟩
theorem en192 : Enters Try.prog 192 := enters_of Try.func192 (by kernel_rfl) rfl
instance : En Try.prog 192 := ⟨en192⟩
theorem en193 : Enters Try.prog 193 := enters_of Try.func193 (by kernel_rfl) rfl
instance : En Try.prog 193 := ⟨en193⟩
theorem en194 : Enters Try.prog 194 := enters_of Try.func194 (by kernel_rfl) rfl
instance : En Try.prog 194 := ⟨en194⟩
theorem en195 : Enters Try.prog 195 := enters_of Try.func195 (by kernel_rfl) rfl
instance : En Try.prog 195 := ⟨en195⟩
theorem en196 : Enters Try.prog 196 := enters_of Try.func196 (by kernel_rfl) rfl
instance : En Try.prog 196 := ⟨en196⟩
theorem en197 : Enters Try.prog 197 := enters_of Try.func197 (by kernel_rfl) rfl
instance : En Try.prog 197 := ⟨en197⟩
theorem en198 : Enters Try.prog 198 := enters_of Try.func198 (by kernel_rfl) rfl
instance : En Try.prog 198 := ⟨en198⟩
theorem en199 : Enters Try.prog 199 := enters_of Try.func199 (by kernel_rfl) rfl
instance : En Try.prog 199 := ⟨en199⟩
theorem en200 : Enters Try.prog 200 := enters_of Try.func200 (by kernel_rfl) rfl
instance : En Try.prog 200 := ⟨en200⟩
theorem en201 : Enters Try.prog 201 := enters_of Try.func201 (by kernel_rfl) rfl
instance : En Try.prog 201 := ⟨en201⟩
theorem en202 : Enters Try.prog 202 := enters_of Try.func202 (by kernel_rfl) rfl
instance : En Try.prog 202 := ⟨en202⟩
theorem en203 : Enters Try.prog 203 := enters_of Try.func203 (by kernel_rfl) rfl
instance : En Try.prog 203 := ⟨en203⟩
theorem en204 : Enters Try.prog 204 := enters_of Try.func204 (by kernel_rfl) rfl
instance : En Try.prog 204 := ⟨en204⟩
theorem en205 : Enters Try.prog 205 := enters_of Try.func205 (by kernel_rfl) rfl
instance : En Try.prog 205 := ⟨en205⟩
theorem en206 : Enters Try.prog 206 := enters_of Try.func206 (by kernel_rfl) rfl
instance : En Try.prog 206 := ⟨en206⟩
theorem en207 : Enters Try.prog 207 := enters_of Try.func207 (by kernel_rfl) rfl
instance : En Try.prog 207 := ⟨en207⟩
theorem en208 : Enters Try.prog 208 := enters_of Try.func208 (by kernel_rfl) rfl
instance : En Try.prog 208 := ⟨en208⟩
theorem en209 : Enters Try.prog 209 := enters_of Try.func209 (by kernel_rfl) rfl
instance : En Try.prog 209 := ⟨en209⟩
theorem en210 : Enters Try.prog 210 := enters_of Try.func210 (by kernel_rfl) rfl
instance : En Try.prog 210 := ⟨en210⟩
theorem en211 : Enters Try.prog 211 := enters_of Try.func211 (by kernel_rfl) rfl
instance : En Try.prog 211 := ⟨en211⟩
theorem en212 : Enters Try.prog 212 := enters_of Try.func212 (by kernel_rfl) rfl
instance : En Try.prog 212 := ⟨en212⟩
theorem en213 : Enters Try.prog 213 := enters_of Try.func213 (by kernel_rfl) rfl
instance : En Try.prog 213 := ⟨en213⟩
theorem en214 : Enters Try.prog 214 := enters_of Try.func214 (by kernel_rfl) rfl
instance : En Try.prog 214 := ⟨en214⟩
theorem en215 : Enters Try.prog 215 := enters_of Try.func215 (by kernel_rfl) rfl
instance : En Try.prog 215 := ⟨en215⟩
theorem en216 : Enters Try.prog 216 := enters_of Try.func216 (by kernel_rfl) rfl
instance : En Try.prog 216 := ⟨en216⟩
theorem en217 : Enters Try.prog 217 := enters_of Try.func217 (by kernel_rfl) rfl
instance : En Try.prog 217 := ⟨en217⟩
theorem en218 : Enters Try.prog 218 := enters_of Try.func218 (by kernel_rfl) rfl
instance : En Try.prog 218 := ⟨en218⟩
theorem en219 : Enters Try.prog 219 := enters_of Try.func219 (by kernel_rfl) rfl
instance : En Try.prog 219 := ⟨en219⟩
theorem en220 : Enters Try.prog 220 := enters_of Try.func220 (by kernel_rfl) rfl
instance : En Try.prog 220 := ⟨en220⟩
theorem en221 : Enters Try.prog 221 := enters_of Try.func221 (by kernel_rfl) rfl
instance : En Try.prog 221 := ⟨en221⟩
theorem en222 : Enters Try.prog 222 := enters_of Try.func222 (by kernel_rfl) rfl
instance : En Try.prog 222 := ⟨en222⟩
theorem en223 : Enters Try.prog 223 := enters_of Try.func223 (by kernel_rfl) rfl
instance : En Try.prog 223 := ⟨en223⟩
theorem en224 : Enters Try.prog 224 := enters_of Try.func224 (by kernel_rfl) rfl
instance : En Try.prog 224 := ⟨en224⟩
theorem en225 : Enters Try.prog 225 := enters_of Try.func225 (by kernel_rfl) rfl
instance : En Try.prog 225 := ⟨en225⟩
theorem en226 : Enters Try.prog 226 := enters_of Try.func226 (by kernel_rfl) rfl
instance : En Try.prog 226 := ⟨en226⟩
theorem en227 : Enters Try.prog 227 := enters_of Try.func227 (by kernel_rfl) rfl
instance : En Try.prog 227 := ⟨en227⟩
theorem en228 : Enters Try.prog 228 := enters_of Try.func228 (by kernel_rfl) rfl
instance : En Try.prog 228 := ⟨en228⟩
theorem en229 : Enters Try.prog 229 := enters_of Try.func229 (by kernel_rfl) rfl
instance : En Try.prog 229 := ⟨en229⟩
theorem en230 : Enters Try.prog 230 := enters_of Try.func230 (by kernel_rfl) rfl
instance : En Try.prog 230 := ⟨en230⟩
theorem en231 : Enters Try.prog 231 := enters_of Try.func231 (by kernel_rfl) rfl
instance : En Try.prog 231 := ⟨en231⟩
theorem en232 : Enters Try.prog 232 := enters_of Try.func232 (by kernel_rfl) rfl
instance : En Try.prog 232 := ⟨en232⟩
theorem en233 : Enters Try.prog 233 := enters_of Try.func233 (by kernel_rfl) rfl
instance : En Try.prog 233 := ⟨en233⟩
theorem en234 : Enters Try.prog 234 := enters_of Try.func234 (by kernel_rfl) rfl
instance : En Try.prog 234 := ⟨en234⟩
theorem en235 : Enters Try.prog 235 := enters_of Try.func235 (by kernel_rfl) rfl
instance : En Try.prog 235 := ⟨en235⟩
theorem en236 : Enters Try.prog 236 := enters_of Try.func236 (by kernel_rfl) rfl
instance : En Try.prog 236 := ⟨en236⟩
theorem en237 : Enters Try.prog 237 := enters_of Try.func237 (by kernel_rfl) rfl
instance : En Try.prog 237 := ⟨en237⟩
theorem en238 : Enters Try.prog 238 := enters_of Try.func238 (by kernel_rfl) rfl
instance : En Try.prog 238 := ⟨en238⟩
theorem en239 : Enters Try.prog 239 := enters_of Try.func239 (by kernel_rfl) rfl
instance : En Try.prog 239 := ⟨en239⟩
theorem en240 : Enters Try.prog 240 := enters_of Try.func240 (by kernel_rfl) rfl
instance : En Try.prog 240 := ⟨en240⟩
theorem en241 : Enters Try.prog 241 := enters_of Try.func241 (by kernel_rfl) rfl
instance : En Try.prog 241 := ⟨en241⟩
theorem en242 : Enters Try.prog 242 := enters_of Try.func242 (by kernel_rfl) rfl
instance : En Try.prog 242 := ⟨en242⟩
instance : Sz Try.prog 1 (.nilFunc) 1 8 := ⟨by kernel_rfl⟩
instance : ZeroC Try.prog 1 [.nilFunc] := ⟨zeroC_of (z := .nilFunc) (by kernel_rfl) rfl⟩
instance : Scalar Try.prog 1 := ⟨_, Try.underlying1, rfl⟩
instance : Sz Try.prog 2 (.int .i64 0) 1 8 := ⟨by kernel_rfl⟩
instance : ZeroC Try.prog 2 [.int .i64 0] := ⟨zeroC_of (z := .int .i64 0) (by kernel_rfl) rfl⟩
instance : Scalar Try.prog 2 := ⟨_, Try.underlying2, rfl⟩
instance : Sz Try.prog 3 (.int .i64 0) 1 8 := ⟨by kernel_rfl⟩
instance : ZeroC Try.prog 3 [.int .i64 0] := ⟨zeroC_of (z := .int .i64 0) (by kernel_rfl) rfl⟩
instance : Scalar Try.prog 3 := ⟨_, Try.underlying3, rfl⟩
instance : Sz Try.prog 4 (.bool false) 1 1 := ⟨by kernel_rfl⟩
instance : ZeroC Try.prog 4 [.bool false] := ⟨zeroC_of (z := .bool false) (by kernel_rfl) rfl⟩
instance : Scalar Try.prog 4 := ⟨_, Try.underlying4, rfl⟩
instance : BoolT Try.prog 4 := ⟨Try.underlying4⟩
instance : Sz Try.prog 5 (.int .u8 0) 1 1 := ⟨by kernel_rfl⟩
instance : ZeroC Try.prog 5 [.int .u8 0] := ⟨zeroC_of (z := .int .u8 0) (by kernel_rfl) rfl⟩
instance : Scalar Try.prog 5 := ⟨_, Try.underlying5, rfl⟩
instance : Sz Try.prog 6 (.int .u8 0) 1 1 := ⟨by kernel_rfl⟩
instance : ZeroC Try.prog 6 [.int .u8 0] := ⟨zeroC_of (z := .int .u8 0) (by kernel_rfl) rfl⟩
instance : Scalar Try.prog 6 := ⟨_, Try.underlying6, rfl⟩
instance : Sz Try.prog 7 (.agg #[.int .i64 0, .int .i64 0, .bool false, .int .u8 0]) 4 24 := ⟨by kernel_rfl⟩
instance : ZeroC Try.prog 7 [.int .i64 0, .int .i64 0, .bool false, .int .u8 0] := ⟨zeroC_of (z := .agg #[.int .i64 0, .int .i64 0, .bool false, .int .u8 0]) (by kernel_rfl) rfl⟩
instance : Parts Try.prog 7 [(0, 1), (1, 1), (2, 1), (3, 1)] := ⟨.inl ⟨_, Try.underlying7, by kernel_rfl, by kernel_rfl⟩⟩
instance : Aggr Try.prog 7 4 := ⟨⟨_, Try.underlying7, rfl⟩, by kernel_rfl⟩
instance : Fld Try.prog 7 0 0 := ⟨fld_of (by kernel_rfl)⟩
instance : Fld Try.prog 7 1 1 := ⟨fld_of (by kernel_rfl)⟩
instance : Fld Try.prog 7 2 2 := ⟨fld_of (by kernel_rfl)⟩
instance : Fld Try.prog 7 3 3 := ⟨fld_of (by kernel_rfl)⟩
instance : Sz Try.prog 8 (.agg #[.int .i64 0, .int .i64 0, .bool false, .int .u8 0]) 4 24 := ⟨by kernel_rfl⟩
instance : ZeroC Try.prog 8 [.int .i64 0, .int .i64 0, .bool false, .int .u8 0] := ⟨zeroC_of (z := .agg #[.int .i64 0, .int .i64 0, .bool false, .int .u8 0]) (by kernel_rfl) rfl⟩
instance : Parts Try.prog 8 [(0, 1), (1, 1), (2, 1), (3, 1)] := ⟨.inl ⟨_, Try.underlying8, by kernel_rfl, by kernel_rfl⟩⟩
instance : Aggr Try.prog 8 4 := ⟨⟨_, Try.underlying8, rfl⟩, by kernel_rfl⟩
instance : Fld Try.prog 8 0 0 := ⟨fld_of (by kernel_rfl)⟩
instance : Fld Try.prog 8 1 1 := ⟨fld_of (by kernel_rfl)⟩
instance : Fld Try.prog 8 2 2 := ⟨fld_of (by kernel_rfl)⟩
instance : Fld Try.prog 8 3 3 := ⟨fld_of (by kernel_rfl)⟩
instance : Sz Try.prog 9 (.string ⟨#[]⟩) 1 16 := ⟨by kernel_rfl⟩
instance : ZeroC Try.prog 9 [.string ⟨#[]⟩] := ⟨zeroC_of (z := .string ⟨#[]⟩) (by kernel_rfl) rfl⟩
instance : Scalar Try.prog 9 := ⟨_, Try.underlying9, rfl⟩
instance : StrT Try.prog 9 := ⟨Try.underlying9⟩
instance : Sz Try.prog 10 (.string ⟨#[]⟩) 1 16 := ⟨by kernel_rfl⟩
instance : ZeroC Try.prog 10 [.string ⟨#[]⟩] := ⟨zeroC_of (z := .string ⟨#[]⟩) (by kernel_rfl) rfl⟩
instance : Scalar Try.prog 10 := ⟨_, Try.underlying10, rfl⟩
instance : StrT Try.prog 10 := ⟨Try.underlying10⟩
instance : Sz Try.prog 11 (.string ⟨#[]⟩) 1 16 := ⟨by kernel_rfl⟩
instance : ZeroC Try.prog 11 [.string ⟨#[]⟩] := ⟨zeroC_of (z := .string ⟨#[]⟩) (by kernel_rfl) rfl⟩
instance : Scalar Try.prog 11 := ⟨_, Try.underlying11, rfl⟩
instance : StrT Try.prog 11 := ⟨Try.underlying11⟩
instance : Sz Try.prog 12 (.int .u64 0) 1 8 := ⟨by kernel_rfl⟩
instance : ZeroC Try.prog 12 [.int .u64 0] := ⟨zeroC_of (z := .int .u64 0) (by kernel_rfl) rfl⟩
instance : Scalar Try.prog 12 := ⟨_, Try.underlying12, rfl⟩
instance : Sz Try.prog 13 (.agg #[.string ⟨#[]⟩, .int .u64 0]) 2 24 := ⟨by kernel_rfl⟩
instance : ZeroC Try.prog 13 [.string ⟨#[]⟩, .int .u64 0] := ⟨zeroC_of (z := .agg #[.string ⟨#[]⟩, .int .u64 0]) (by kernel_rfl) rfl⟩
instance : Parts Try.prog 13 [(0, 1), (1, 1)] := ⟨.inl ⟨_, Try.underlying13, by kernel_rfl, by kernel_rfl⟩⟩
instance : Aggr Try.prog 13 2 := ⟨⟨_, Try.underlying13, rfl⟩, by kernel_rfl⟩
instance : Fld Try.prog 13 0 0 := ⟨fld_of (by kernel_rfl)⟩
instance : Fld Try.prog 13 1 1 := ⟨fld_of (by kernel_rfl)⟩
instance : Sz Try.prog 14 (.agg #[.string ⟨#[]⟩, .int .u64 0]) 2 24 := ⟨by kernel_rfl⟩
instance : ZeroC Try.prog 14 [.string ⟨#[]⟩, .int .u64 0] := ⟨zeroC_of (z := .agg #[.string ⟨#[]⟩, .int .u64 0]) (by kernel_rfl) rfl⟩
instance : Parts Try.prog 14 [(0, 1), (1, 1)] := ⟨.inl ⟨_, Try.underlying14, by kernel_rfl, by kernel_rfl⟩⟩
instance : Aggr Try.prog 14 2 := ⟨⟨_, Try.underlying14, rfl⟩, by kernel_rfl⟩
instance : Fld Try.prog 14 0 0 := ⟨fld_of (by kernel_rfl)⟩
instance : Fld Try.prog 14 1 1 := ⟨fld_of (by kernel_rfl)⟩
instance : Sz Try.prog 15 (.pointer none) 1 8 := ⟨by kernel_rfl⟩
instance : ZeroC Try.prog 15 [.pointer none] := ⟨zeroC_of (z := .pointer none) (by kernel_rfl) rfl⟩
instance : Scalar Try.prog 15 := ⟨_, Try.underlying15, rfl⟩
instance : Sz Try.prog 16 (.pointer none) 1 8 := ⟨by kernel_rfl⟩
instance : ZeroC Try.prog 16 [.pointer none] := ⟨zeroC_of (z := .pointer none) (by kernel_rfl) rfl⟩
instance : Scalar Try.prog 16 := ⟨_, Try.underlying16, rfl⟩
instance : Sz Try.prog 17 (.pointer none) 1 8 := ⟨by kernel_rfl⟩
instance : ZeroC Try.prog 17 [.pointer none] := ⟨zeroC_of (z := .pointer none) (by kernel_rfl) rfl⟩
instance : Scalar Try.prog 17 := ⟨_, Try.underlying17, rfl⟩
instance : Sz Try.prog 18 (.agg #[.pointer none]) 1 8 := ⟨by kernel_rfl⟩
instance : ZeroC Try.prog 18 [.pointer none] := ⟨zeroC_of (z := .agg #[.pointer none]) (by kernel_rfl) rfl⟩
instance : Parts Try.prog 18 [(0, 1)] := ⟨.inl ⟨_, Try.underlying18, by kernel_rfl, by kernel_rfl⟩⟩
instance : Aggr Try.prog 18 1 := ⟨⟨_, Try.underlying18, rfl⟩, by kernel_rfl⟩
instance : Fld Try.prog 18 0 0 := ⟨fld_of (by kernel_rfl)⟩
instance : Sz Try.prog 19 (.agg #[.pointer none]) 1 8 := ⟨by kernel_rfl⟩
instance : ZeroC Try.prog 19 [.pointer none] := ⟨zeroC_of (z := .agg #[.pointer none]) (by kernel_rfl) rfl⟩
instance : Parts Try.prog 19 [(0, 1)] := ⟨.inl ⟨_, Try.underlying19, by kernel_rfl, by kernel_rfl⟩⟩
instance : Aggr Try.prog 19 1 := ⟨⟨_, Try.underlying19, rfl⟩, by kernel_rfl⟩
instance : Fld Try.prog 19 0 0 := ⟨fld_of (by kernel_rfl)⟩
instance : Sz Try.prog 20 (.nilIface) 1 16 := ⟨by kernel_rfl⟩
instance : ZeroC Try.prog 20 [.nilIface] := ⟨zeroC_of (z := .nilIface) (by kernel_rfl) rfl⟩
instance : Scalar Try.prog 20 := ⟨_, Try.underlying20, rfl⟩
instance : Sz Try.prog 21 (.int .i32 0) 1 4 := ⟨by kernel_rfl⟩
instance : ZeroC Try.prog 21 [.int .i32 0] := ⟨zeroC_of (z := .int .i32 0) (by kernel_rfl) rfl⟩
instance : Scalar Try.prog 21 := ⟨_, Try.underlying21, rfl⟩
instance : Sz Try.prog 22 (.slice none 0 0) 1 24 := ⟨by kernel_rfl⟩
instance : ZeroC Try.prog 22 [.slice none 0 0] := ⟨zeroC_of (z := .slice none 0 0) (by kernel_rfl) rfl⟩
instance : Scalar Try.prog 22 := ⟨_, Try.underlying22, rfl⟩
instance : SliceT Try.prog 22 5 := ⟨Try.underlying22⟩
instance : Sz Try.prog 23 (.nilFunc) 1 8 := ⟨by kernel_rfl⟩
instance : ZeroC Try.prog 23 [.nilFunc] := ⟨zeroC_of (z := .nilFunc) (by kernel_rfl) rfl⟩
instance : Scalar Try.prog 23 := ⟨_, Try.underlying23, rfl⟩
instance : Sz Try.prog 24 (.slice none 0 0) 1 24 := ⟨by kernel_rfl⟩
instance : ZeroC Try.prog 24 [.slice none 0 0] := ⟨zeroC_of (z := .slice none 0 0) (by kernel_rfl) rfl⟩
instance : Scalar Try.prog 24 := ⟨_, Try.underlying24, rfl⟩
instance : SliceT Try.prog 24 3 := ⟨Try.underlying24⟩
instance : Sz Try.prog 25 (.nilFunc) 1 8 := ⟨by kernel_rfl⟩
instance : ZeroC Try.prog 25 [.nilFunc] := ⟨zeroC_of (z := .nilFunc) (by kernel_rfl) rfl⟩
instance : Scalar Try.prog 25 := ⟨_, Try.underlying25, rfl⟩
instance : Sz Try.prog 26 (.nilFunc) 1 8 := ⟨by kernel_rfl⟩
instance : ZeroC Try.prog 26 [.nilFunc] := ⟨zeroC_of (z := .nilFunc) (by kernel_rfl) rfl⟩
instance : Scalar Try.prog 26 := ⟨_, Try.underlying26, rfl⟩
instance : Sz Try.prog 27 (.agg #[.int .i64 0, .int .i64 0, .int .i64 0]) 3 24 := ⟨by kernel_rfl⟩
instance : ZeroC Try.prog 27 [.int .i64 0, .int .i64 0, .int .i64 0] := ⟨zeroC_of (z := .agg #[.int .i64 0, .int .i64 0, .int .i64 0]) (by kernel_rfl) rfl⟩
instance : Parts Try.prog 27 [(0, 1), (1, 1), (2, 1)] := ⟨.inl ⟨_, Try.underlying27, by kernel_rfl, by kernel_rfl⟩⟩
instance : Aggr Try.prog 27 3 := ⟨⟨_, Try.underlying27, rfl⟩, by kernel_rfl⟩
instance : Fld Try.prog 27 0 0 := ⟨fld_of (by kernel_rfl)⟩
instance : Fld Try.prog 27 1 1 := ⟨fld_of (by kernel_rfl)⟩
instance : Fld Try.prog 27 2 2 := ⟨fld_of (by kernel_rfl)⟩
instance : Sz Try.prog 28 (.agg #[.int .i64 0, .int .i64 0, .int .i64 0]) 3 24 := ⟨by kernel_rfl⟩
instance : ZeroC Try.prog 28 [.int .i64 0, .int .i64 0, .int .i64 0] := ⟨zeroC_of (z := .agg #[.int .i64 0, .int .i64 0, .int .i64 0]) (by kernel_rfl) rfl⟩
instance : Parts Try.prog 28 [(0, 1), (1, 1), (2, 1)] := ⟨.inl ⟨_, Try.underlying28, by kernel_rfl, by kernel_rfl⟩⟩
instance : Aggr Try.prog 28 3 := ⟨⟨_, Try.underlying28, rfl⟩, by kernel_rfl⟩
instance : Fld Try.prog 28 0 0 := ⟨fld_of (by kernel_rfl)⟩
instance : Fld Try.prog 28 1 1 := ⟨fld_of (by kernel_rfl)⟩
instance : Fld Try.prog 28 2 2 := ⟨fld_of (by kernel_rfl)⟩
instance : Sz Try.prog 29 (.agg #[.int .i64 0, .int .i64 0, .int .i64 0, .int .i64 0, .int .i64 0, .int .i64 0, .int .i64 0, .int .i64 0, .int .i64 0]) 9 72 := ⟨by kernel_rfl⟩
instance : ZeroC Try.prog 29 [.int .i64 0, .int .i64 0, .int .i64 0, .int .i64 0, .int .i64 0, .int .i64 0, .int .i64 0, .int .i64 0, .int .i64 0] := ⟨zeroC_of (z := .agg #[.int .i64 0, .int .i64 0, .int .i64 0, .int .i64 0, .int .i64 0, .int .i64 0, .int .i64 0, .int .i64 0, .int .i64 0]) (by kernel_rfl) rfl⟩
instance : Parts Try.prog 29 [(0, 3), (3, 3), (6, 3)] := ⟨.inr ⟨_, _, Try.underlying29, by kernel_rfl, by kernel_rfl⟩⟩
instance : Aggr Try.prog 29 9 := ⟨⟨_, Try.underlying29, rfl⟩, by kernel_rfl⟩
instance : ArrT Try.prog 29 3 28 := ⟨Try.underlying29⟩
instance : Sz Try.prog 30 (.agg #[.int .i64 0, .int .i64 0, .int .i64 0, .int .i64 0, .int .i64 0, .int .i64 0, .int .i64 0, .int .i64 0, .int .i64 0]) 9 72 := ⟨by kernel_rfl⟩
instance : ZeroC Try.prog 30 [.int .i64 0, .int .i64 0, .int .i64 0, .int .i64 0, .int .i64 0, .int .i64 0, .int .i64 0, .int .i64 0, .int .i64 0] := ⟨zeroC_of (z := .agg #[.int .i64 0, .int .i64 0, .int .i64 0, .int .i64 0, .int .i64 0, .int .i64 0, .int .i64 0, .int .i64 0, .int .i64 0]) (by kernel_rfl) rfl⟩
instance : Parts Try.prog 30 [(0, 9)] := ⟨.inl ⟨_, Try.underlying30, by kernel_rfl, by kernel_rfl⟩⟩
instance : Aggr Try.prog 30 9 := ⟨⟨_, Try.underlying30, rfl⟩, by kernel_rfl⟩
instance : Fld Try.prog 30 0 0 := ⟨fld_of (by kernel_rfl)⟩
instance : Sz Try.prog 31 (.agg #[.int .i64 0, .int .i64 0, .int .i64 0, .int .i64 0, .int .i64 0, .int .i64 0, .int .i64 0, .int .i64 0, .int .i64 0]) 9 72 := ⟨by kernel_rfl⟩
instance : ZeroC Try.prog 31 [.int .i64 0, .int .i64 0, .int .i64 0, .int .i64 0, .int .i64 0, .int .i64 0, .int .i64 0, .int .i64 0, .int .i64 0] := ⟨zeroC_of (z := .agg #[.int .i64 0, .int .i64 0, .int .i64 0, .int .i64 0, .int .i64 0, .int .i64 0, .int .i64 0, .int .i64 0, .int .i64 0]) (by kernel_rfl) rfl⟩
instance : Parts Try.prog 31 [(0, 9)] := ⟨.inl ⟨_, Try.underlying31, by kernel_rfl, by kernel_rfl⟩⟩
instance : Aggr Try.prog 31 9 := ⟨⟨_, Try.underlying31, rfl⟩, by kernel_rfl⟩
instance : Fld Try.prog 31 0 0 := ⟨fld_of (by kernel_rfl)⟩
instance : Sz Try.prog 33 (.nilFunc) 1 8 := ⟨by kernel_rfl⟩
instance : ZeroC Try.prog 33 [.nilFunc] := ⟨zeroC_of (z := .nilFunc) (by kernel_rfl) rfl⟩
instance : Scalar Try.prog 33 := ⟨_, Try.underlying33, rfl⟩
instance : Sz Try.prog 34 (.nilFunc) 1 8 := ⟨by kernel_rfl⟩
instance : ZeroC Try.prog 34 [.nilFunc] := ⟨zeroC_of (z := .nilFunc) (by kernel_rfl) rfl⟩
instance : Scalar Try.prog 34 := ⟨_, Try.underlying34, rfl⟩
instance : Sz Try.prog 35 (.nilFunc) 1 8 := ⟨by kernel_rfl⟩
instance : ZeroC Try.prog 35 [.nilFunc] := ⟨zeroC_of (z := .nilFunc) (by kernel_rfl) rfl⟩
instance : Scalar Try.prog 35 := ⟨_, Try.underlying35, rfl⟩
instance : Sz Try.prog 36 (.nilFunc) 1 8 := ⟨by kernel_rfl⟩
instance : ZeroC Try.prog 36 [.nilFunc] := ⟨zeroC_of (z := .nilFunc) (by kernel_rfl) rfl⟩
instance : Scalar Try.prog 36 := ⟨_, Try.underlying36, rfl⟩
instance : Sz Try.prog 37 (.nilFunc) 1 8 := ⟨by kernel_rfl⟩
instance : ZeroC Try.prog 37 [.nilFunc] := ⟨zeroC_of (z := .nilFunc) (by kernel_rfl) rfl⟩
instance : Scalar Try.prog 37 := ⟨_, Try.underlying37, rfl⟩
instance : Sz Try.prog 38 (.nilFunc) 1 8 := ⟨by kernel_rfl⟩
instance : ZeroC Try.prog 38 [.nilFunc] := ⟨zeroC_of (z := .nilFunc) (by kernel_rfl) rfl⟩
instance : Scalar Try.prog 38 := ⟨_, Try.underlying38, rfl⟩
instance : Sz Try.prog 39 (.nilFunc) 1 8 := ⟨by kernel_rfl⟩
instance : ZeroC Try.prog 39 [.nilFunc] := ⟨zeroC_of (z := .nilFunc) (by kernel_rfl) rfl⟩
instance : Scalar Try.prog 39 := ⟨_, Try.underlying39, rfl⟩
instance : Sz Try.prog 40 (.slice none 0 0) 1 24 := ⟨by kernel_rfl⟩
instance : ZeroC Try.prog 40 [.slice none 0 0] := ⟨zeroC_of (z := .slice none 0 0) (by kernel_rfl) rfl⟩
instance : Scalar Try.prog 40 := ⟨_, Try.underlying40, rfl⟩
instance : SliceT Try.prog 40 43 := ⟨Try.underlying40⟩
instance : Sz Try.prog 41 (.nilFunc) 1 8 := ⟨by kernel_rfl⟩
instance : ZeroC Try.prog 41 [.nilFunc] := ⟨zeroC_of (z := .nilFunc) (by kernel_rfl) rfl⟩
instance : Scalar Try.prog 41 := ⟨_, Try.underlying41, rfl⟩
instance : Sz Try.prog 42 (.agg #[.int .i64 0, .int .i64 0, .int .i64 0, .int .i64 0, .int .i64 0]) 5 40 := ⟨by kernel_rfl⟩
instance : ZeroC Try.prog 42 [.int .i64 0, .int .i64 0, .int .i64 0, .int .i64 0, .int .i64 0] := ⟨zeroC_of (z := .agg #[.int .i64 0, .int .i64 0, .int .i64 0, .int .i64 0, .int .i64 0]) (by kernel_rfl) rfl⟩
instance : Parts Try.prog 42 [(0, 1), (1, 1), (2, 1), (3, 1), (4, 1)] := ⟨.inl ⟨_, Try.underlying42, by kernel_rfl, by kernel_rfl⟩⟩
instance : Aggr Try.prog 42 5 := ⟨⟨_, Try.underlying42, rfl⟩, by kernel_rfl⟩
instance : Fld Try.prog 42 0 0 := ⟨fld_of (by kernel_rfl)⟩
instance : Fld Try.prog 42 1 1 := ⟨fld_of (by kernel_rfl)⟩
instance : Fld Try.prog 42 2 2 := ⟨fld_of (by kernel_rfl)⟩
instance : Fld Try.prog 42 3 3 := ⟨fld_of (by kernel_rfl)⟩
instance : Fld Try.prog 42 4 4 := ⟨fld_of (by kernel_rfl)⟩
instance : Sz Try.prog 43 (.agg #[.int .i64 0, .int .i64 0, .int .i64 0, .int .i64 0, .int .i64 0]) 5 40 := ⟨by kernel_rfl⟩
instance : ZeroC Try.prog 43 [.int .i64 0, .int .i64 0, .int .i64 0, .int .i64 0, .int .i64 0] := ⟨zeroC_of (z := .agg #[.int .i64 0, .int .i64 0, .int .i64 0, .int .i64 0, .int .i64 0]) (by kernel_rfl) rfl⟩
instance : Parts Try.prog 43 [(0, 1), (1, 1), (2, 1), (3, 1), (4, 1)] := ⟨.inl ⟨_, Try.underlying43, by kernel_rfl, by kernel_rfl⟩⟩
instance : Aggr Try.prog 43 5 := ⟨⟨_, Try.underlying43, rfl⟩, by kernel_rfl⟩
instance : Fld Try.prog 43 0 0 := ⟨fld_of (by kernel_rfl)⟩
instance : Fld Try.prog 43 1 1 := ⟨fld_of (by kernel_rfl)⟩
instance : Fld Try.prog 43 2 2 := ⟨fld_of (by kernel_rfl)⟩
instance : Fld Try.prog 43 3 3 := ⟨fld_of (by kernel_rfl)⟩
instance : Fld Try.prog 43 4 4 := ⟨fld_of (by kernel_rfl)⟩
instance : Sz Try.prog 44 (.nilFunc) 1 8 := ⟨by kernel_rfl⟩
instance : ZeroC Try.prog 44 [.nilFunc] := ⟨zeroC_of (z := .nilFunc) (by kernel_rfl) rfl⟩
instance : Scalar Try.prog 44 := ⟨_, Try.underlying44, rfl⟩
instance : Sz Try.prog 45 (.nilFunc) 1 8 := ⟨by kernel_rfl⟩
instance : ZeroC Try.prog 45 [.nilFunc] := ⟨zeroC_of (z := .nilFunc) (by kernel_rfl) rfl⟩
instance : Scalar Try.prog 45 := ⟨_, Try.underlying45, rfl⟩
instance : Sz Try.prog 46 (.nilFunc) 1 8 := ⟨by kernel_rfl⟩
instance : ZeroC Try.prog 46 [.nilFunc] := ⟨zeroC_of (z := .nilFunc) (by kernel_rfl) rfl⟩
instance : Scalar Try.prog 46 := ⟨_, Try.underlying46, rfl⟩
instance : Sz Try.prog 47 (.nilFunc) 1 8 := ⟨by kernel_rfl⟩
instance : ZeroC Try.prog 47 [.nilFunc] := ⟨zeroC_of (z := .nilFunc) (by kernel_rfl) rfl⟩
instance : Scalar Try.prog 47 := ⟨_, Try.underlying47, rfl⟩
instance : Sz Try.prog 48 (.slice none 0 0) 1 24 := ⟨by kernel_rfl⟩
instance : ZeroC Try.prog 48 [.slice none 0 0] := ⟨zeroC_of (z := .slice none 0 0) (by kernel_rfl) rfl⟩
instance : Scalar Try.prog 48 := ⟨_, Try.underlying48, rfl⟩
instance : SliceT Try.prog 48 225 := ⟨Try.underlying48⟩
instance : Sz Try.prog 49 (.slice none 0 0) 1 24 := ⟨by kernel_rfl⟩
instance : ZeroC Try.prog 49 [.slice none 0 0] := ⟨zeroC_of (z := .slice none 0 0) (by kernel_rfl) rfl⟩
instance : Scalar Try.prog 49 := ⟨_, Try.underlying49, rfl⟩
instance : SliceT Try.prog 49 9 := ⟨Try.underlying49⟩
instance : Sz Try.prog 50 (.agg #[.slice none 0 0, .slice none 0 0]) 2 48 := ⟨by kernel_rfl⟩
instance : ZeroC Try.prog 50 [.slice none 0 0, .slice none 0 0] := ⟨zeroC_of (z := .agg #[.slice none 0 0, .slice none 0 0]) (by kernel_rfl) rfl⟩
instance : Parts Try.prog 50 [(0, 1), (1, 1)] := ⟨.inl ⟨_, Try.underlying50, by kernel_rfl, by kernel_rfl⟩⟩
instance : Aggr Try.prog 50 2 := ⟨⟨_, Try.underlying50, rfl⟩, by kernel_rfl⟩
instance : Fld Try.prog 50 0 0 := ⟨fld_of (by kernel_rfl)⟩
instance : Fld Try.prog 50 1 1 := ⟨fld_of (by kernel_rfl)⟩
instance : Sz Try.prog 51 (.agg #[.slice none 0 0, .slice none 0 0]) 2 48 := ⟨by kernel_rfl⟩
instance : ZeroC Try.prog 51 [.slice none 0 0, .slice none 0 0] := ⟨zeroC_of (z := .agg #[.slice none 0 0, .slice none 0 0]) (by kernel_rfl) rfl⟩
instance : Parts Try.prog 51 [(0, 1), (1, 1)] := ⟨.inl ⟨_, Try.underlying51, by kernel_rfl, by kernel_rfl⟩⟩
instance : Aggr Try.prog 51 2 := ⟨⟨_, Try.underlying51, rfl⟩, by kernel_rfl⟩
instance : Fld Try.prog 51 0 0 := ⟨fld_of (by kernel_rfl)⟩
instance : Fld Try.prog 51 1 1 := ⟨fld_of (by kernel_rfl)⟩
instance : Sz Try.prog 52 (.nilFunc) 1 8 := ⟨by kernel_rfl⟩
instance : ZeroC Try.prog 52 [.nilFunc] := ⟨zeroC_of (z := .nilFunc) (by kernel_rfl) rfl⟩
instance : Scalar Try.prog 52 := ⟨_, Try.underlying52, rfl⟩
instance : Sz Try.prog 53 (.nilFunc) 1 8 := ⟨by kernel_rfl⟩
instance : ZeroC Try.prog 53 [.nilFunc] := ⟨zeroC_of (z := .nilFunc) (by kernel_rfl) rfl⟩
instance : Scalar Try.prog 53 := ⟨_, Try.underlying53, rfl⟩
instance : Sz Try.prog 54 (.slice none 0 0) 1 24 := ⟨by kernel_rfl⟩
instance : ZeroC Try.prog 54 [.slice none 0 0] := ⟨zeroC_of (z := .slice none 0 0) (by kernel_rfl) rfl⟩
instance : Scalar Try.prog 54 := ⟨_, Try.underlying54, rfl⟩
instance : SliceT Try.prog 54 165 := ⟨Try.underlying54⟩
instance : Sz Try.prog 55 (.agg #[.slice none 0 0, .slice none 0 0]) 2 48 := ⟨by kernel_rfl⟩
instance : ZeroC Try.prog 55 [.slice none 0 0, .slice none 0 0] := ⟨zeroC_of (z := .agg #[.slice none 0 0, .slice none 0 0]) (by kernel_rfl) rfl⟩
instance : Parts Try.prog 55 [(0, 1), (1, 1)] := ⟨.inl ⟨_, Try.underlying55, by kernel_rfl, by kernel_rfl⟩⟩
instance : Aggr Try.prog 55 2 := ⟨⟨_, Try.underlying55, rfl⟩, by kernel_rfl⟩
instance : Fld Try.prog 55 0 0 := ⟨fld_of (by kernel_rfl)⟩
instance : Fld Try.prog 55 1 1 := ⟨fld_of (by kernel_rfl)⟩
instance : Sz Try.prog 56 (.agg #[.slice none 0 0, .slice none 0 0]) 2 48 := ⟨by kernel_rfl⟩
instance : ZeroC Try.prog 56 [.slice none 0 0, .slice none 0 0] := ⟨zeroC_of (z := .agg #[.slice none 0 0, .slice none 0 0]) (by kernel_rfl) rfl⟩
instance : Parts Try.prog 56 [(0, 1), (1, 1)] := ⟨.inl ⟨_, Try.underlying56, by kernel_rfl, by kernel_rfl⟩⟩
instance : Aggr Try.prog 56 2 := ⟨⟨_, Try.underlying56, rfl⟩, by kernel_rfl⟩
instance : Fld Try.prog 56 0 0 := ⟨fld_of (by kernel_rfl)⟩
instance : Fld Try.prog 56 1 1 := ⟨fld_of (by kernel_rfl)⟩
instance : Sz Try.prog 57 (.nilFunc) 1 8 := ⟨by kernel_rfl⟩
instance : ZeroC Try.prog 57 [.nilFunc] := ⟨zeroC_of (z := .nilFunc) (by kernel_rfl) rfl⟩
instance : Scalar Try.prog 57 := ⟨_, Try.underlying57, rfl⟩
instance : Sz Try.prog 58 (.nilFunc) 1 8 := ⟨by kernel_rfl⟩
instance : ZeroC Try.prog 58 [.nilFunc] := ⟨zeroC_of (z := .nilFunc) (by kernel_rfl) rfl⟩
instance : Scalar Try.prog 58 := ⟨_, Try.underlying58, rfl⟩
instance : Sz Try.prog 59 (.nilFunc) 1 8 := ⟨by kernel_rfl⟩
instance : ZeroC Try.prog 59 [.nilFunc] := ⟨zeroC_of (z := .nilFunc) (by kernel_rfl) rfl⟩
instance : Scalar Try.prog 59 := ⟨_, Try.underlying59, rfl⟩
instance : Sz Try.prog 60 (.nilFunc) 1 8 := ⟨by kernel_rfl⟩
instance : ZeroC Try.prog 60 [.nilFunc] := ⟨zeroC_of (z := .nilFunc) (by kernel_rfl) rfl⟩
instance : Scalar Try.prog 60 := ⟨_, Try.underlying60, rfl⟩
instance : Sz Try.prog 61 (.nilFunc) 1 8 := ⟨by kernel_rfl⟩
instance : ZeroC Try.prog 61 [.nilFunc] := ⟨zeroC_of (z := .nilFunc) (by kernel_rfl) rfl⟩
instance : Scalar Try.prog 61 := ⟨_, Try.underlying61, rfl⟩
instance : Sz Try.prog 63 (.nilFunc) 1 8 := ⟨by kernel_rfl⟩
instance : ZeroC Try.prog 63 [.nilFunc] := ⟨zeroC_of (z := .nilFunc) (by kernel_rfl) rfl⟩
instance : Scalar Try.prog 63 := ⟨_, Try.underlying63, rfl⟩
instance : Sz Try.prog 64 (.nilFunc) 1 8 := ⟨by kernel_rfl⟩
instance : ZeroC Try.prog 64 [.nilFunc] := ⟨zeroC_of (z := .nilFunc) (by kernel_rfl) rfl⟩
instance : Scalar Try.prog 64 := ⟨_, Try.underlying64, rfl⟩
instance : Sz Try.prog 65 (.slice none 0 0) 1 24 := ⟨by kernel_rfl⟩
instance : ZeroC Try.prog 65 [.slice none 0 0] := ⟨zeroC_of (z := .slice none 0 0) (by kernel_rfl) rfl⟩
instance : Scalar Try.prog 65 := ⟨_, Try.underlying65, rfl⟩
instance : SliceT Try.prog 65 66 := ⟨Try.underlying65⟩
instance : Sz Try.prog 66 (.agg #[.int .i64 0, .int .i64 0, .int .i64 0, .int .i64 0, .int .i64 0]) 5 40 := ⟨by kernel_rfl⟩
instance : ZeroC Try.prog 66 [.int .i64 0, .int .i64 0, .int .i64 0, .int .i64 0, .int .i64 0] := ⟨zeroC_of (z := .agg #[.int .i64 0, .int .i64 0, .int .i64 0, .int .i64 0, .int .i64 0]) (by kernel_rfl) rfl⟩
instance : Parts Try.prog 66 [(0, 1), (1, 1), (2, 1), (3, 1), (4, 1)] := ⟨.inl ⟨_, Try.underlying66, by kernel_rfl, by kernel_rfl⟩⟩
instance : Aggr Try.prog 66 5 := ⟨⟨_, Try.underlying66, rfl⟩, by kernel_rfl⟩
instance : Fld Try.prog 66 0 0 := ⟨fld_of (by kernel_rfl)⟩
instance : Fld Try.prog 66 1 1 := ⟨fld_of (by kernel_rfl)⟩
instance : Fld Try.prog 66 2 2 := ⟨fld_of (by kernel_rfl)⟩
instance : Fld Try.prog 66 3 3 := ⟨fld_of (by kernel_rfl)⟩
instance : Fld Try.prog 66 4 4 := ⟨fld_of (by kernel_rfl)⟩
instance : Sz Try.prog 67 (.nilFunc) 1 8 := ⟨by kernel_rfl⟩
instance : ZeroC Try.prog 67 [.nilFunc] := ⟨zeroC_of (z := .nilFunc) (by kernel_rfl) rfl⟩
instance : Scalar Try.prog 67 := ⟨_, Try.underlying67, rfl⟩
instance : Sz Try.prog 68 (.nilFunc) 1 8 := ⟨by kernel_rfl⟩
instance : ZeroC Try.prog 68 [.nilFunc] := ⟨zeroC_of (z := .nilFunc) (by kernel_rfl) rfl⟩
instance : Scalar Try.prog 68 := ⟨_, Try.underlying68, rfl⟩
instance : Sz Try.prog 69 (.nilFunc) 1 8 := ⟨by kernel_rfl⟩
instance : ZeroC Try.prog 69 [.nilFunc] := ⟨zeroC_of (z := .nilFunc) (by kernel_rfl) rfl⟩
instance : Scalar Try.prog 69 := ⟨_, Try.underlying69, rfl⟩
instance : Sz Try.prog 70 (.nilFunc) 1 8 := ⟨by kernel_rfl⟩
instance : ZeroC Try.prog 70 [.nilFunc] := ⟨zeroC_of (z := .nilFunc) (by kernel_rfl) rfl⟩
instance : Scalar Try.prog 70 := ⟨_, Try.underlying70, rfl⟩
instance : Sz Try.prog 71 (.nilFunc) 1 8 := ⟨by kernel_rfl⟩
instance : ZeroC Try.prog 71 [.nilFunc] := ⟨zeroC_of (z := .nilFunc) (by kernel_rfl) rfl⟩
instance : Scalar Try.prog 71 := ⟨_, Try.underlying71, rfl⟩
instance : Sz Try.prog 72 (.nilFunc) 1 8 := ⟨by kernel_rfl⟩
instance : ZeroC Try.prog 72 [.nilFunc] := ⟨zeroC_of (z := .nilFunc) (by kernel_rfl) rfl⟩
instance : Scalar Try.prog 72 := ⟨_, Try.underlying72, rfl⟩
instance : Sz Try.prog 73 (.nilFunc) 1 8 := ⟨by kernel_rfl⟩
instance : ZeroC Try.prog 73 [.nilFunc] := ⟨zeroC_of (z := .nilFunc) (by kernel_rfl) rfl⟩
instance : Scalar Try.prog 73 := ⟨_, Try.underlying73, rfl⟩
instance : Sz Try.prog 74 (.agg #[.int .i64 0, .int .i64 0, .int .i64 0, .int .i64 0, .int .i64 0, .int .i64 0]) 6 48 := ⟨by kernel_rfl⟩
instance : ZeroC Try.prog 74 [.int .i64 0, .int .i64 0, .int .i64 0, .int .i64 0, .int .i64 0, .int .i64 0] := ⟨zeroC_of (z := .agg #[.int .i64 0, .int .i64 0, .int .i64 0, .int .i64 0, .int .i64 0, .int .i64 0]) (by kernel_rfl) rfl⟩
instance : Parts Try.prog 74 [(0, 3), (3, 3)] := ⟨.inl ⟨_, Try.underlying74, by kernel_rfl, by kernel_rfl⟩⟩
instance : Aggr Try.prog 74 6 := ⟨⟨_, Try.underlying74, rfl⟩, by kernel_rfl⟩
instance : Fld Try.prog 74 0 0 := ⟨fld_of (by kernel_rfl)⟩
instance : Fld Try.prog 74 1 3 := ⟨fld_of (by kernel_rfl)⟩
instance : Sz Try.prog 75 (.agg #[.int .i64 0, .int .i64 0, .int .i64 0, .int .i64 0, .int .i64 0, .int .i64 0]) 6 48 := ⟨by kernel_rfl⟩
instance : ZeroC Try.prog 75 [.int .i64 0, .int .i64 0, .int .i64 0, .int .i64 0, .int .i64 0, .int .i64 0] := ⟨zeroC_of (z := .agg #[.int .i64 0, .int .i64 0, .int .i64 0, .int .i64 0, .int .i64 0, .int .i64 0]) (by kernel_rfl) rfl⟩
instance : Parts Try.prog 75 [(0, 3), (3, 3)] := ⟨.inl ⟨_, Try.underlying75, by kernel_rfl, by kernel_rfl⟩⟩
instance : Aggr Try.prog 75 6 := ⟨⟨_, Try.underlying75, rfl⟩, by kernel_rfl⟩
instance : Fld Try.prog 75 0 0 := ⟨fld_of (by kernel_rfl)⟩
instance : Fld Try.prog 75 1 3 := ⟨fld_of (by kernel_rfl)⟩
instance : Sz Try.prog 76 (.nilFunc) 1 8 := ⟨by kernel_rfl⟩
instance : ZeroC Try.prog 76 [.nilFunc] := ⟨zeroC_of (z := .nilFunc) (by kernel_rfl) rfl⟩
instance : Scalar Try.prog 76 := ⟨_, Try.underlying76, rfl⟩
instance : Sz Try.prog 77 (.nilFunc) 1 8 := ⟨by kernel_rfl⟩
instance : ZeroC Try.prog 77 [.nilFunc] := ⟨zeroC_of (z := .nilFunc) (by kernel_rfl) rfl⟩
instance : Scalar Try.prog 77 := ⟨_, Try.underlying77, rfl⟩
instance : Sz Try.prog 78 (.agg #[.int .i64 0, .int .i64 0, .int .i64 0, .int .i64 0, .bool false, .int .i64 0, .int .i64 0]) 7 56 := ⟨by kernel_rfl⟩
instance : ZeroC Try.prog 78 [.int .i64 0, .int .i64 0, .int .i64 0, .int .i64 0, .bool false, .int .i64 0, .int .i64 0] := ⟨zeroC_of (z := .agg #[.int .i64 0, .int .i64 0, .int .i64 0, .int .i64 0, .bool false, .int .i64 0, .int .i64 0]) (by kernel_rfl) rfl⟩
instance : Parts Try.prog 78 [(0, 1), (1, 1), (2, 1), (3, 1), (4, 1), (5, 1), (6, 1)] := ⟨.inl ⟨_, Try.underlying78, by kernel_rfl, by kernel_rfl⟩⟩
instance : Aggr Try.prog 78 7 := ⟨⟨_, Try.underlying78, rfl⟩, by kernel_rfl⟩
instance : Fld Try.prog 78 0 0 := ⟨fld_of (by kernel_rfl)⟩
instance : Fld Try.prog 78 1 1 := ⟨fld_of (by kernel_rfl)⟩
instance : Fld Try.prog 78 2 2 := ⟨fld_of (by kernel_rfl)⟩
instance : Fld Try.prog 78 3 3 := ⟨fld_of (by kernel_rfl)⟩
instance : Fld Try.prog 78 4 4 := ⟨fld_of (by kernel_rfl)⟩
instance : Fld Try.prog 78 5 5 := ⟨fld_of (by kernel_rfl)⟩
instance : Fld Try.prog 78 6 6 := ⟨fld_of (by kernel_rfl)⟩
instance : Sz Try.prog 79 (.agg #[.int .i64 0, .int .i64 0, .int .i64 0, .int .i64 0, .bool false, .int .i64 0, .int .i64 0]) 7 56 := ⟨by kernel_rfl⟩
instance : ZeroC Try.prog 79 [.int .i64 0, .int .i64 0, .int .i64 0, .int .i64 0, .bool false, .int .i64 0, .int .i64 0] := ⟨zeroC_of (z := .agg #[.int .i64 0, .int .i64 0, .int .i64 0, .int .i64 0, .bool false, .int .i64 0, .int .i64 0]) (by kernel_rfl) rfl⟩
instance : Parts Try.prog 79 [(0, 1), (1, 1), (2, 1), (3, 1), (4, 1), (5, 1), (6, 1)] := ⟨.inl ⟨_, Try.underlying79, by kernel_rfl, by kernel_rfl⟩⟩
instance : Aggr Try.prog 79 7 := ⟨⟨_, Try.underlying79, rfl⟩, by kernel_rfl⟩
instance : Fld Try.prog 79 0 0 := ⟨fld_of (by kernel_rfl)⟩
instance : Fld Try.prog 79 1 1 := ⟨fld_of (by kernel_rfl)⟩
instance : Fld Try.prog 79 2 2 := ⟨fld_of (by kernel_rfl)⟩
instance : Fld Try.prog 79 3 3 := ⟨fld_of (by kernel_rfl)⟩
instance : Fld Try.prog 79 4 4 := ⟨fld_of (by kernel_rfl)⟩
instance : Fld Try.prog 79 5 5 := ⟨fld_of (by kernel_rfl)⟩
instance : Fld Try.prog 79 6 6 := ⟨fld_of (by kernel_rfl)⟩
instance : Sz Try.prog 80 (.agg #[.int .i64 0, .int .i64 0, .int .i64 0]) 3 24 := ⟨by kernel_rfl⟩
instance : ZeroC Try.prog 80 [.int .i64 0, .int .i64 0, .int .i64 0] := ⟨zeroC_of (z := .agg #[.int .i64 0, .int .i64 0, .int .i64 0]) (by kernel_rfl) rfl⟩
instance : Parts Try.prog 80 [(0, 1), (1, 1), (2, 1)] := ⟨.inl ⟨_, Try.underlying80, by kernel_rfl, by kernel_rfl⟩⟩
instance : Aggr Try.prog 80 3 := ⟨⟨_, Try.underlying80, rfl⟩, by kernel_rfl⟩
instance : Fld Try.prog 80 0 0 := ⟨fld_of (by kernel_rfl)⟩
instance : Fld Try.prog 80 1 1 := ⟨fld_of (by kernel_rfl)⟩
instance : Fld Try.prog 80 2 2 := ⟨fld_of (by kernel_rfl)⟩
instance : Sz Try.prog 81 (.agg #[.int .i64 0, .int .i64 0, .int .i64 0, .int .i64 0, .int .i64 0, .int .i64 0]) 6 48 := ⟨by kernel_rfl⟩
instance : ZeroC Try.prog 81 [.int .i64 0, .int .i64 0, .int .i64 0, .int .i64 0, .int .i64 0, .int .i64 0] := ⟨zeroC_of (z := .agg #[.int .i64 0, .int .i64 0, .int .i64 0, .int .i64 0, .int .i64 0, .int .i64 0]) (by kernel_rfl) rfl⟩
instance : Parts Try.prog 81 [(0, 3), (3, 3)] := ⟨.inl ⟨_, Try.underlying81, by kernel_rfl, by kernel_rfl⟩⟩
instance : Aggr Try.prog 81 6 := ⟨⟨_, Try.underlying81, rfl⟩, by kernel_rfl⟩
instance : Fld Try.prog 81 0 0 := ⟨fld_of (by kernel_rfl)⟩
instance : Fld Try.prog 81 1 3 := ⟨fld_of (by kernel_rfl)⟩
instance : Sz Try.prog 82 (.agg #[.int .i64 0, .int .i64 0, .int .i64 0, .int .i64 0, .int .i64 0, .int .i64 0]) 6 48 := ⟨by kernel_rfl⟩
instance : ZeroC Try.prog 82 [.int .i64 0, .int .i64 0, .int .i64 0, .int .i64 0, .int .i64 0, .int .i64 0] := ⟨zeroC_of (z := .agg #[.int .i64 0, .int .i64 0, .int .i64 0, .int .i64 0, .int .i64 0, .int .i64 0]) (by kernel_rfl) rfl⟩
instance : Parts Try.prog 82 [(0, 3), (3, 3)] := ⟨.inl ⟨_, Try.underlying82, by kernel_rfl, by kernel_rfl⟩⟩
instance : Aggr Try.prog 82 6 := ⟨⟨_, Try.underlying82, rfl⟩, by kernel_rfl⟩
instance : Fld Try.prog 82 0 0 := ⟨fld_of (by kernel_rfl)⟩
instance : Fld Try.prog 82 1 3 := ⟨fld_of (by kernel_rfl)⟩
instance : Sz Try.prog 84 (.nilFunc) 1 8 := ⟨by kernel_rfl⟩
instance : ZeroC Try.prog 84 [.nilFunc] := ⟨zeroC_of (z := .nilFunc) (by kernel_rfl) rfl⟩
instance : Scalar Try.prog 84 := ⟨_, Try.underlying84, rfl⟩
instance : Sz Try.prog 85 (.agg #[.int .i64 0, .int .i64 0, .int .i64 0, .int .i64 0, .bool false, .int .i64 0, .int .i64 0]) 7 56 := ⟨by kernel_rfl⟩
instance : ZeroC Try.prog 85 [.int .i64 0, .int .i64 0, .int .i64 0, .int .i64 0, .bool false, .int .i64 0, .int .i64 0] := ⟨zeroC_of (z := .agg #[.int .i64 0, .int .i64 0, .int .i64 0, .int .i64 0, .bool false, .int .i64 0, .int .i64 0]) (by kernel_rfl) rfl⟩
instance : Parts Try.prog 85 [(0, 1), (1, 1), (2, 1), (3, 1), (4, 1), (5, 1), (6, 1)] := ⟨.inl ⟨_, Try.underlying85, by kernel_rfl, by kernel_rfl⟩⟩
instance : Aggr Try.prog 85 7 := ⟨⟨_, Try.underlying85, rfl⟩, by kernel_rfl⟩
instance : Fld Try.prog 85 0 0 := ⟨fld_of (by kernel_rfl)⟩
instance : Fld Try.prog 85 1 1 := ⟨fld_of (by kernel_rfl)⟩
instance : Fld Try.prog 85 2 2 := ⟨fld_of (by kernel_rfl)⟩
instance : Fld Try.prog 85 3 3 := ⟨fld_of (by kernel_rfl)⟩
instance : Fld Try.prog 85 4 4 := ⟨fld_of (by kernel_rfl)⟩
instance : Fld Try.prog 85 5 5 := ⟨fld_of (by kernel_rfl)⟩
instance : Fld Try.prog 85 6 6 := ⟨fld_of (by kernel_rfl)⟩
instance : Sz Try.prog 86 (.nilFunc) 1 8 := ⟨by kernel_rfl⟩
instance : ZeroC Try.prog 86 [.nilFunc] := ⟨zeroC_of (z := .nilFunc) (by kernel_rfl) rfl⟩
instance : Scalar Try.prog 86 := ⟨_, Try.underlying86, rfl⟩
instance : Sz Try.prog 87 (.nilFunc) 1 8 := ⟨by kernel_rfl⟩
instance : ZeroC Try.prog 87 [.nilFunc] := ⟨zeroC_of (z := .nilFunc) (by kernel_rfl) rfl⟩
instance : Scalar Try.prog 87 := ⟨_, Try.underlying87, rfl⟩
instance : Sz Try.prog 88 (.nilFunc) 1 8 := ⟨by kernel_rfl⟩
instance : ZeroC Try.prog 88 [.nilFunc] := ⟨zeroC_of (z := .nilFunc) (by kernel_rfl) rfl⟩
instance : Scalar Try.prog 88 := ⟨_, Try.underlying88, rfl⟩
instance : Sz Try.prog 89 (.nilFunc) 1 8 := ⟨by kernel_rfl⟩
instance : ZeroC Try.prog 89 [.nilFunc] := ⟨zeroC_of (z := .nilFunc) (by kernel_rfl) rfl⟩
instance : Scalar Try.prog 89 := ⟨_, Try.underlying89, rfl⟩
instance : Sz Try.prog 90 (.slice none 0 0) 1 24 := ⟨by kernel_rfl⟩
instance : ZeroC Try.prog 90 [.slice none 0 0] := ⟨zeroC_of (z := .slice none 0 0) (by kernel_rfl) rfl⟩
instance : Scalar Try.prog 90 := ⟨_, Try.underlying90, rfl⟩
instance : SliceT Try.prog 90 237 := ⟨Try.underlying90⟩
instance : Sz Try.prog 91 (.agg #[.int .i64 0, .slice none 0 0]) 2 32 := ⟨by kernel_rfl⟩
instance : ZeroC Try.prog 91 [.int .i64 0, .slice none 0 0] := ⟨zeroC_of (z := .agg #[.int .i64 0, .slice none 0 0]) (by kernel_rfl) rfl⟩
instance : Parts Try.prog 91 [(0, 1), (1, 1)] := ⟨.inl ⟨_, Try.underlying91, by kernel_rfl, by kernel_rfl⟩⟩
instance : Aggr Try.prog 91 2 := ⟨⟨_, Try.underlying91, rfl⟩, by kernel_rfl⟩
instance : Fld Try.prog 91 0 0 := ⟨fld_of (by kernel_rfl)⟩
instance : Fld Try.prog 91 1 1 := ⟨fld_of (by kernel_rfl)⟩
instance : Sz Try.prog 92 (.agg #[.int .i64 0, .slice none 0 0]) 2 32 := ⟨by kernel_rfl⟩
instance : ZeroC Try.prog 92 [.int .i64 0, .slice none 0 0] := ⟨zeroC_of (z := .agg #[.int .i64 0, .slice none 0 0]) (by kernel_rfl) rfl⟩
instance : Parts Try.prog 92 [(0, 1), (1, 1)] := ⟨.inl ⟨_, Try.underlying92, by kernel_rfl, by kernel_rfl⟩⟩
instance : Aggr Try.prog 92 2 := ⟨⟨_, Try.underlying92, rfl⟩, by kernel_rfl⟩
instance : Fld Try.prog 92 0 0 := ⟨fld_of (by kernel_rfl)⟩
instance : Fld Try.prog 92 1 1 := ⟨fld_of (by kernel_rfl)⟩
instance : Sz Try.prog 93 (.agg #[.int .i64 0, .slice none 0 0, .int .i64 0, .int .i64 0, .slice none 0 0]) 5 72 := ⟨by kernel_rfl⟩
instance : ZeroC Try.prog 93 [.int .i64 0, .slice none 0 0, .int .i64 0, .int .i64 0, .slice none 0 0] := ⟨zeroC_of (z := .agg #[.int .i64 0, .slice none 0 0, .int .i64 0, .int .i64 0, .slice none 0 0]) (by kernel_rfl) rfl⟩
instance : Parts Try.prog 93 [(0, 1), (1, 1), (2, 1), (3, 2)] := ⟨.inl ⟨_, Try.underlying93, by kernel_rfl, by kernel_rfl⟩⟩
instance : Aggr Try.prog 93 5 := ⟨⟨_, Try.underlying93, rfl⟩, by kernel_rfl⟩
instance : Fld Try.prog 93 0 0 := ⟨fld_of (by kernel_rfl)⟩
instance : Fld Try.prog 93 1 1 := ⟨fld_of (by kernel_rfl)⟩
instance : Fld Try.prog 93 2 2 := ⟨fld_of (by kernel_rfl)⟩
instance : Fld Try.prog 93 3 3 := ⟨fld_of (by kernel_rfl)⟩
instance : Sz Try.prog 94 (.agg #[.int .i64 0, .slice none 0 0, .int .i64 0, .int .i64 0, .slice none 0 0]) 5 72 := ⟨by kernel_rfl⟩
instance : ZeroC Try.prog 94 [.int .i64 0, .slice none 0 0, .int .i64 0, .int .i64 0, .slice none 0 0] := ⟨zeroC_of (z := .agg #[.int .i64 0, .slice none 0 0, .int .i64 0, .int .i64 0, .slice none 0 0]) (by kernel_rfl) rfl⟩
instance : Parts Try.prog 94 [(0, 1), (1, 1), (2, 1), (3, 2)] := ⟨.inl ⟨_, Try.underlying94, by kernel_rfl, by kernel_rfl⟩⟩
instance : Aggr Try.prog 94 5 := ⟨⟨_, Try.underlying94, rfl⟩, by kernel_rfl⟩
instance : Fld Try.prog 94 0 0 := ⟨fld_of (by kernel_rfl)⟩
instance : Fld Try.prog 94 1 1 := ⟨fld_of (by kernel_rfl)⟩
instance : Fld Try.prog 94 2 2 := ⟨fld_of (by kernel_rfl)⟩
instance : Fld Try.prog 94 3 3 := ⟨fld_of (by kernel_rfl)⟩
instance : Sz Try.prog 95 (.nilFunc) 1 8 := ⟨by kernel_rfl⟩
instance : ZeroC Try.prog 95 [.nilFunc] := ⟨zeroC_of (z := .nilFunc) (by kernel_rfl) rfl⟩
instance : Scalar Try.prog 95 := ⟨_, Try.underlying95, rfl⟩
instance : Sz Try.prog 96 (.nilFunc) 1 8 := ⟨by kernel_rfl⟩
instance : ZeroC Try.prog 96 [.nilFunc] := ⟨zeroC_of (z := .nilFunc) (by kernel_rfl) rfl⟩
instance : Scalar Try.prog 96 := ⟨_, Try.underlying96, rfl⟩
instance : Sz Try.prog 97 (.slice none 0 0) 1 24 := ⟨by kernel_rfl⟩
instance : ZeroC Try.prog 97 [.slice none 0 0] := ⟨zeroC_of (z := .slice none 0 0) (by kernel_rfl) rfl⟩
instance : Scalar Try.prog 97 := ⟨_, Try.underlying97, rfl⟩
instance : SliceT Try.prog 97 184 := ⟨Try.underlying97⟩
instance : Sz Try.prog 98 (.agg #[.int .i64 0, .slice none 0 0]) 2 32 := ⟨by kernel_rfl⟩
instance : ZeroC Try.prog 98 [.int .i64 0, .slice none 0 0] := ⟨zeroC_of (z := .agg #[.int .i64 0, .slice none 0 0]) (by kernel_rfl) rfl⟩
instance : Parts Try.prog 98 [(0, 1), (1, 1)] := ⟨.inl ⟨_, Try.underlying98, by kernel_rfl, by kernel_rfl⟩⟩
instance : Aggr Try.prog 98 2 := ⟨⟨_, Try.underlying98, rfl⟩, by kernel_rfl⟩
instance : Fld Try.prog 98 0 0 := ⟨fld_of (by kernel_rfl)⟩
instance : Fld Try.prog 98 1 1 := ⟨fld_of (by kernel_rfl)⟩
instance : Sz Try.prog 99 (.agg #[.int .i64 0, .slice none 0 0, .int .i64 0, .int .i64 0, .slice none 0 0]) 5 72 := ⟨by kernel_rfl⟩
instance : ZeroC Try.prog 99 [.int .i64 0, .slice none 0 0, .int .i64 0, .int .i64 0, .slice none 0 0] := ⟨zeroC_of (z := .agg #[.int .i64 0, .slice none 0 0, .int .i64 0, .int .i64 0, .slice none 0 0]) (by kernel_rfl) rfl⟩
instance : Parts Try.prog 99 [(0, 1), (1, 1), (2, 1), (3, 2)] := ⟨.inl ⟨_, Try.underlying99, by kernel_rfl, by kernel_rfl⟩⟩
instance : Aggr Try.prog 99 5 := ⟨⟨_, Try.underlying99, rfl⟩, by kernel_rfl⟩
instance : Fld Try.prog 99 0 0 := ⟨fld_of (by kernel_rfl)⟩
instance : Fld Try.prog 99 1 1 := ⟨fld_of (by kernel_rfl)⟩
instance : Fld Try.prog 99 2 2 := ⟨fld_of (by kernel_rfl)⟩
instance : Fld Try.prog 99 3 3 := ⟨fld_of (by kernel_rfl)⟩
instance : Sz Try.prog 100 (.agg #[.int .i64 0, .slice none 0 0, .int .i64 0, .int .i64 0, .slice none 0 0]) 5 72 := ⟨by kernel_rfl⟩
instance : ZeroC Try.prog 100 [.int .i64 0, .slice none 0 0, .int .i64 0, .int .i64 0, .slice none 0 0] := ⟨zeroC_of (z := .agg #[.int .i64 0, .slice none 0 0, .int .i64 0, .int .i64 0, .slice none 0 0]) (by kernel_rfl) rfl⟩
instance : Parts Try.prog 100 [(0, 1), (1, 1), (2, 1), (3, 2)] := ⟨.inl ⟨_, Try.underlying100, by kernel_rfl, by kernel_rfl⟩⟩
instance : Aggr Try.prog 100 5 := ⟨⟨_, Try.underlying100, rfl⟩, by kernel_rfl⟩
instance : Fld Try.prog 100 0 0 := ⟨fld_of (by kernel_rfl)⟩
instance : Fld Try.prog 100 1 1 := ⟨fld_of (by kernel_rfl)⟩
instance : Fld Try.prog 100 2 2 := ⟨fld_of (by kernel_rfl)⟩
instance : Fld Try.prog 100 3 3 := ⟨fld_of (by kernel_rfl)⟩
instance : Sz Try.prog 101 (.nilFunc) 1 8 := ⟨by kernel_rfl⟩
instance : ZeroC Try.prog 101 [.nilFunc] := ⟨zeroC_of (z := .nilFunc) (by kernel_rfl) rfl⟩
instance : Scalar Try.prog 101 := ⟨_, Try.underlying101, rfl⟩
instance : Sz Try.prog 102 (.nilFunc) 1 8 := ⟨by kernel_rfl⟩
instance : ZeroC Try.prog 102 [.nilFunc] := ⟨zeroC_of (z := .nilFunc) (by kernel_rfl) rfl⟩
instance : Scalar Try.prog 102 := ⟨_, Try.underlying102, rfl⟩
instance : Sz Try.prog 103 (.nilFunc) 1 8 := ⟨by kernel_rfl⟩
instance : ZeroC Try.prog 103 [.nilFunc] := ⟨zeroC_of (z := .nilFunc) (by kernel_rfl) rfl⟩
instance : Scalar Try.prog 103 := ⟨_, Try.underlying103, rfl⟩
instance : Sz Try.prog 104 (.nilFunc) 1 8 := ⟨by kernel_rfl⟩
instance : ZeroC Try.prog 104 [.nilFunc] := ⟨zeroC_of (z := .nilFunc) (by kernel_rfl) rfl⟩
instance : Scalar Try.prog 104 := ⟨_, Try.underlying104, rfl⟩
instance : Sz Try.prog 105 (.nilFunc) 1 8 := ⟨by kernel_rfl⟩
instance : ZeroC Try.prog 105 [.nilFunc] := ⟨zeroC_of (z := .nilFunc) (by kernel_rfl) rfl⟩
instance : Scalar Try.prog 105 := ⟨_, Try.underlying105, rfl⟩
instance : Sz Try.prog 106 (.agg #[.int .i64 0, .int .i64 0, .int .i64 0, .int .i64 0, .int .i64 0, .int .i64 0, .int .i64 0, .int .i64 0, .int .i64 0, .int .i64 0, .int .i64 0, .int .i64 0]) 12 96 := ⟨by kernel_rfl⟩
instance : ZeroC Try.prog 106 [.int .i64 0, .int .i64 0, .int .i64 0, .int .i64 0, .int .i64 0, .int .i64 0, .int .i64 0, .int .i64 0, .int .i64 0, .int .i64 0, .int .i64 0, .int .i64 0] := ⟨zeroC_of (z := .agg #[.int .i64 0, .int .i64 0, .int .i64 0, .int .i64 0, .int .i64 0, .int .i64 0, .int .i64 0, .int .i64 0, .int .i64 0, .int .i64 0, .int .i64 0, .int .i64 0]) (by kernel_rfl) rfl⟩
instance : Parts Try.prog 106 [(0, 3), (3, 3), (6, 3), (9, 3)] := ⟨.inr ⟨_, _, Try.underlying106, by kernel_rfl, by kernel_rfl⟩⟩
instance : Aggr Try.prog 106 12 := ⟨⟨_, Try.underlying106, rfl⟩, by kernel_rfl⟩
instance : ArrT Try.prog 106 4 80 := ⟨Try.underlying106⟩
instance : Sz Try.prog 107 (.agg #[.int .i64 0, .int .i64 0, .int .i64 0, .int .i64 0, .int .i64 0, .int .i64 0, .int .i64 0, .int .i64 0, .int .i64 0, .int .i64 0, .int .i64 0, .int .i64 0]) 12 96 := ⟨by kernel_rfl⟩
instance : ZeroC Try.prog 107 [.int .i64 0, .int .i64 0, .int .i64 0, .int .i64 0, .int .i64 0, .int .i64 0, .int .i64 0, .int .i64 0, .int .i64 0, .int .i64 0, .int .i64 0, .int .i64 0] := ⟨zeroC_of (z := .agg #[.int .i64 0, .int .i64 0, .int .i64 0, .int .i64 0, .int .i64 0, .int .i64 0, .int .i64 0, .int .i64 0, .int .i64 0, .int .i64 0, .int .i64 0, .int .i64 0]) (by kernel_rfl) rfl⟩
instance : Parts Try.prog 107 [(0, 12)] := ⟨.inl ⟨_, Try.underlying107, by kernel_rfl, by kernel_rfl⟩⟩
instance : Aggr Try.prog 107 12 := ⟨⟨_, Try.underlying107, rfl⟩, by kernel_rfl⟩
instance : Fld Try.prog 107 0 0 := ⟨fld_of (by kernel_rfl)⟩
instance : Sz Try.prog 108 (.agg #[.int .i64 0, .int .i64 0, .int .i64 0, .int .i64 0, .int .i64 0, .int .i64 0, .int .i64 0, .int .i64 0, .int .i64 0, .int .i64 0, .int .i64 0, .int .i64 0]) 12 96 := ⟨by kernel_rfl⟩
instance : ZeroC Try.prog 108 [.int .i64 0, .int .i64 0, .int .i64 0, .int .i64 0, .int .i64 0, .int .i64 0, .int .i64 0, .int .i64 0, .int .i64 0, .int .i64 0, .int .i64 0, .int .i64 0] := ⟨zeroC_of (z := .agg #[.int .i64 0, .int .i64 0, .int .i64 0, .int .i64 0, .int .i64 0, .int .i64 0, .int .i64 0, .int .i64 0, .int .i64 0, .int .i64 0, .int .i64 0, .int .i64 0]) (by kernel_rfl) rfl⟩
instance : Parts Try.prog 108 [(0, 12)] := ⟨.inl ⟨_, Try.underlying108, by kernel_rfl, by kernel_rfl⟩⟩
instance : Aggr Try.prog 108 12 := ⟨⟨_, Try.underlying108, rfl⟩, by kernel_rfl⟩
instance : Fld Try.prog 108 0 0 := ⟨fld_of (by kernel_rfl)⟩
instance : Sz Try.prog 109 (.agg #[.int .i64 0, .int .i64 0, .int .i64 0, .int .i64 0, .int .i64 0, .int .i64 0, .int .i64 0, .int .i64 0, .int .i64 0, .int .i64 0, .int .i64 0, .int .i64 0, .int .i64 0, .int .i64 0, .int .i64 0, .int .i64 0, .int .i64 0, .int .i64 0, .int .i64 0, .int .i64 0, .int .i64 0, .int .i64 0, .int .i64 0, .int .i64 0, .int .i64 0, .int .i64 0]) 26 208 := ⟨by kernel_rfl⟩
instance : ZeroC Try.prog 109 [.int .i64 0, .int .i64 0, .int .i64 0, .int .i64 0, .int .i64 0, .int .i64 0, .int .i64 0, .int .i64 0, .int .i64 0, .int .i64 0, .int .i64 0, .int .i64 0, .int .i64 0, .int .i64 0, .int .i64 0, .int .i64 0, .int .i64 0, .int .i64 0, .int .i64 0, .int .i64 0, .int .i64 0, .int .i64 0, .int .i64 0, .int .i64 0, .int .i64 0, .int .i64 0] := ⟨zeroC_of (z := .agg #[.int .i64 0, .int .i64 0, .int .i64 0, .int .i64 0, .int .i64 0, .int .i64 0, .int .i64 0, .int .i64 0, .int .i64 0, .int .i64 0, .int .i64 0, .int .i64 0, .int .i64 0, .int .i64 0, .int .i64 0, .int .i64 0, .int .i64 0, .int .i64 0, .int .i64 0, .int .i64 0, .int .i64 0, .int .i64 0, .int .i64 0, .int .i64 0, .int .i64 0, .int .i64 0]) (by kernel_rfl) rfl⟩
instance : Parts Try.prog 109 [(0, 12), (12, 12), (24, 1), (25, 1)] := ⟨.inl ⟨_, Try.underlying109, by kernel_rfl, by kernel_rfl⟩⟩
instance : Aggr Try.prog 109 26 := ⟨⟨_, Try.underlying109, rfl⟩, by kernel_rfl⟩
instance : Fld Try.prog 109 0 0 := ⟨fld_of (by kernel_rfl)⟩
instance : Fld Try.prog 109 1 12 := ⟨fld_of (by kernel_rfl)⟩
instance : Fld Try.prog 109 2 24 := ⟨fld_of (by kernel_rfl)⟩
instance : Fld Try.prog 109 3 25 := ⟨fld_of (by kernel_rfl)⟩
instance : Sz Try.prog 110 (.agg #[.int .i64 0, .int .i64 0, .int .i64 0, .int .i64 0, .int .i64 0, .int .i64 0, .int .i64 0, .int .i64 0, .int .i64 0, .int .i64 0, .int .i64 0, .int .i64 0, .int .i64 0, .int .i64 0, .int .i64 0, .int .i64 0, .int .i64 0, .int .i64 0, .int .i64 0, .int .i64 0, .int .i64 0, .int .i64 0, .int .i64 0, .int .i64 0, .int .i64 0, .int .i64 0]) 26 208 := ⟨by kernel_rfl⟩
instance : ZeroC Try.prog 110 [.int .i64 0, .int .i64 0, .int .i64 0, .int .i64 0, .int .i64 0, .int .i64 0, .int .i64 0, .int .i64 0, .int .i64 0, .int .i64 0, .int .i64 0, .int .i64 0, .int .i64 0, .int .i64 0, .int .i64 0, .int .i64 0, .int .i64 0, .int .i64 0, .int .i64 0, .int .i64 0, .int .i64 0, .int .i64 0, .int .i64 0, .int .i64 0, .int .i64 0, .int .i64 0] := ⟨zeroC_of (z := .agg #[.int .i64 0, .int .i64 0, .int .i64 0, .int .i64 0, .int .i64 0, .int .i64 0, .int .i64 0, .int .i64 0, .int .i64 0, .int .i64 0, .int .i64 0, .int .i64 0, .int .i64 0, .int .i64 0, .int .i64 0, .int .i64 0, .int .i64 0, .int .i64 0, .int .i64 0, .int .i64 0, .int .i64 0, .int .i64 0, .int .i64 0, .int .i64 0, .int .i64 0, .int .i64 0]) (by kernel_rfl) rfl⟩
instance : Parts Try.prog 110 [(0, 12), (12, 12), (24, 1), (25, 1)] := ⟨.inl ⟨_, Try.underlying110, by kernel_rfl, by kernel_rfl⟩⟩
instance : Aggr Try.prog 110 26 := ⟨⟨_, Try.underlying110, rfl⟩, by kernel_rfl⟩
instance : Fld Try.prog 110 0 0 := ⟨fld_of (by kernel_rfl)⟩
instance : Fld Try.prog 110 1 12 := ⟨fld_of (by kernel_rfl)⟩
instance : Fld Try.prog 110 2 24 := ⟨fld_of (by kernel_rfl)⟩
instance : Fld Try.prog 110 3 25 := ⟨fld_of (by kernel_rfl)⟩
instance : Sz Try.prog 111 (.nilFunc) 1 8 := ⟨by kernel_rfl⟩
instance : ZeroC Try.prog 111 [.nilFunc] := ⟨zeroC_of (z := .nilFunc) (by kernel_rfl) rfl⟩
instance : Scalar Try.prog 111 := ⟨_, Try.underlying111, rfl⟩
instance : Sz Try.prog 112 (.agg #[.int .i64 0, .int .i64 0, .int .i64 0, .int .i64 0, .int .i64 0, .int .i64 0, .int .i64 0, .int .i64 0, .int .i64 0, .int .i64 0, .int .i64 0, .int .i64 0]) 12 96 := ⟨by kernel_rfl⟩
instance : ZeroC Try.prog 112 [.int .i64 0, .int .i64 0, .int .i64 0, .int .i64 0, .int .i64 0, .int .i64 0, .int .i64 0, .int .i64 0, .int .i64 0, .int .i64 0, .int .i64 0, .int .i64 0] := ⟨zeroC_of (z := .agg #[.int .i64 0, .int .i64 0, .int .i64 0, .int .i64 0, .int .i64 0, .int .i64 0, .int .i64 0, .int .i64 0, .int .i64 0, .int .i64 0, .int .i64 0, .int .i64 0]) (by kernel_rfl) rfl⟩
instance : Parts Try.prog 112 [(0, 3), (3, 3), (6, 3), (9, 3)] := ⟨.inr ⟨_, _, Try.underlying112, by kernel_rfl, by kernel_rfl⟩⟩
instance : Aggr Try.prog 112 12 := ⟨⟨_, Try.underlying112, rfl⟩, by kernel_rfl⟩
instance : ArrT Try.prog 112 4 28 := ⟨Try.underlying112⟩
instance : Sz Try.prog 113 (.agg #[.int .i64 0, .int .i64 0, .int .i64 0, .int .i64 0, .int .i64 0, .int .i64 0, .int .i64 0, .int .i64 0, .int .i64 0, .int .i64 0, .int .i64 0, .int .i64 0]) 12 96 := ⟨by kernel_rfl⟩
instance : ZeroC Try.prog 113 [.int .i64 0, .int .i64 0, .int .i64 0, .int .i64 0, .int .i64 0, .int .i64 0, .int .i64 0, .int .i64 0, .int .i64 0, .int .i64 0, .int .i64 0, .int .i64 0] := ⟨zeroC_of (z := .agg #[.int .i64 0, .int .i64 0, .int .i64 0, .int .i64 0, .int .i64 0, .int .i64 0, .int .i64 0, .int .i64 0, .int .i64 0, .int .i64 0, .int .i64 0, .int .i64 0]) (by kernel_rfl) rfl⟩
instance : Parts Try.prog 113 [(0, 12)] := ⟨.inl ⟨_, Try.underlying113, by kernel_rfl, by kernel_rfl⟩⟩
instance : Aggr Try.prog 113 12 := ⟨⟨_, Try.underlying113, rfl⟩, by kernel_rfl⟩
instance : Fld Try.prog 113 0 0 := ⟨fld_of (by kernel_rfl)⟩
instance : Sz Try.prog 114 (.agg #[.int .i64 0, .int .i64 0, .int .i64 0, .int .i64 0, .int .i64 0, .int .i64 0, .int .i64 0, .int .i64 0, .int .i64 0, .int .i64 0, .int .i64 0, .int .i64 0]) 12 96 := ⟨by kernel_rfl⟩
instance : ZeroC Try.prog 114 [.int .i64 0, .int .i64 0, .int .i64 0, .int .i64 0, .int .i64 0, .int .i64 0, .int .i64 0, .int .i64 0, .int .i64 0, .int .i64 0, .int .i64 0, .int .i64 0] := ⟨zeroC_of (z := .agg #[.int .i64 0, .int .i64 0, .int .i64 0, .int .i64 0, .int .i64 0, .int .i64 0, .int .i64 0, .int .i64 0, .int .i64 0, .int .i64 0, .int .i64 0, .int .i64 0]) (by kernel_rfl) rfl⟩
instance : Parts Try.prog 114 [(0, 12)] := ⟨.inl ⟨_, Try.underlying114, by kernel_rfl, by kernel_rfl⟩⟩
instance : Aggr Try.prog 114 12 := ⟨⟨_, Try.underlying114, rfl⟩, by kernel_rfl⟩
instance : Fld Try.prog 114 0 0 := ⟨fld_of (by kernel_rfl)⟩
instance : Sz Try.prog 115 (.agg #[.int .i64 0, .int .i64 0, .int .i64 0, .int .i64 0, .int .i64 0, .int .i64 0, .int .i64 0, .int .i64 0, .int .i64 0, .int .i64 0, .int .i64 0, .int .i64 0, .int .i64 0, .int .i64 0, .int .i64 0, .int .i64 0, .int .i64 0, .int .i64 0, .int .i64 0, .int .i64 0, .int .i64 0, .int .i64 0, .int .i64 0, .int .i64 0, .int .i64 0, .int .i64 0]) 26 208 := ⟨by kernel_rfl⟩
instance : ZeroC Try.prog 115 [.int .i64 0, .int .i64 0, .int .i64 0, .int .i64 0, .int .i64 0, .int .i64 0, .int .i64 0, .int .i64 0, .int .i64 0, .int .i64 0, .int .i64 0, .int .i64 0, .int .i64 0, .int .i64 0, .int .i64 0, .int .i64 0, .int .i64 0, .int .i64 0, .int .i64 0, .int .i64 0, .int .i64 0, .int .i64 0, .int .i64 0, .int .i64 0, .int .i64 0, .int .i64 0] := ⟨zeroC_of (z := .agg #[.int .i64 0, .int .i64 0, .int .i64 0, .int .i64 0, .int .i64 0, .int .i64 0, .int .i64 0, .int .i64 0, .int .i64 0, .int .i64 0, .int .i64 0, .int .i64 0, .int .i64 0, .int .i64 0, .int .i64 0, .int .i64 0, .int .i64 0, .int .i64 0, .int .i64 0, .int .i64 0, .int .i64 0, .int .i64 0, .int .i64 0, .int .i64 0, .int .i64 0, .int .i64 0]) (by kernel_rfl) rfl⟩
instance : Parts Try.prog 115 [(0, 12), (12, 12), (24, 1), (25, 1)] := ⟨.inl ⟨_, Try.underlying115, by kernel_rfl, by kernel_rfl⟩⟩
instance : Aggr Try.prog 115 26 := ⟨⟨_, Try.underlying115, rfl⟩, by kernel_rfl⟩
instance : Fld Try.prog 115 0 0 := ⟨fld_of (by kernel_rfl)⟩
instance : Fld Try.prog 115 1 12 := ⟨fld_of (by kernel_rfl)⟩
instance : Fld Try.prog 115 2 24 := ⟨fld_of (by kernel_rfl)⟩
instance : Fld Try.prog 115 3 25 := ⟨fld_of (by kernel_rfl)⟩
instance : Sz Try.prog 116 (.agg #[.int .i64 0, .int .i64 0, .int .i64 0, .int .i64 0, .int .i64 0, .int .i64 0, .int .i64 0, .int .i64 0, .int .i64 0, .int .i64 0, .int .i64 0, .int .i64 0, .int .i64 0, .int .i64 0, .int .i64 0, .int .i64 0, .int .i64 0, .int .i64 0, .int .i64 0, .int .i64 0, .int .i64 0, .int .i64 0, .int .i64 0, .int .i64 0, .int .i64 0, .int .i64 0]) 26 208 := ⟨by kernel_rfl⟩
instance : ZeroC Try.prog 116 [.int .i64 0, .int .i64 0, .int .i64 0, .int .i64 0, .int .i64 0, .int .i64 0, .int .i64 0, .int .i64 0, .int .i64 0, .int .i64 0, .int .i64 0, .int .i64 0, .int .i64 0, .int .i64 0, .int .i64 0, .int .i64 0, .int .i64 0, .int .i64 0, .int .i64 0, .int .i64 0, .int .i64 0, .int .i64 0, .int .i64 0, .int .i64 0, .int .i64 0, .int .i64 0] := ⟨zeroC_of (z := .agg #[.int .i64 0, .int .i64 0, .int .i64 0, .int .i64 0, .int .i64 0, .int .i64 0, .int .i64 0, .int .i64 0, .int .i64 0, .int .i64 0, .int .i64 0, .int .i64 0, .int .i64 0, .int .i64 0, .int .i64 0, .int .i64 0, .int .i64 0, .int .i64 0, .int .i64 0, .int .i64 0, .int .i64 0, .int .i64 0, .int .i64 0, .int .i64 0, .int .i64 0, .int .i64 0]) (by kernel_rfl) rfl⟩
instance : Parts Try.prog 116 [(0, 12), (12, 12), (24, 1), (25, 1)] := ⟨.inl ⟨_, Try.underlying116, by kernel_rfl, by kernel_rfl⟩⟩
instance : Aggr Try.prog 116 26 := ⟨⟨_, Try.underlying116, rfl⟩, by kernel_rfl⟩
instance : Fld Try.prog 116 0 0 := ⟨fld_of (by kernel_rfl)⟩
instance : Fld Try.prog 116 1 12 := ⟨fld_of (by kernel_rfl)⟩
instance : Fld Try.prog 116 2 24 := ⟨fld_of (by kernel_rfl)⟩
instance : Fld Try.prog 116 3 25 := ⟨fld_of (by kernel_rfl)⟩
instance : Sz Try.prog 117 (.nilFunc) 1 8 := ⟨by kernel_rfl⟩
instance : ZeroC Try.prog 117 [.nilFunc] := ⟨zeroC_of (z := .nilFunc) (by kernel_rfl) rfl⟩
instance : Scalar Try.prog 117 := ⟨_, Try.underlying117, rfl⟩
instance : Sz Try.prog 118 (.nilFunc) 1 8 := ⟨by kernel_rfl⟩
instance : ZeroC Try.prog 118 [.nilFunc] := ⟨zeroC_of (z := .nilFunc) (by kernel_rfl) rfl⟩
instance : Scalar Try.prog 118 := ⟨_, Try.underlying118, rfl⟩
instance : Sz Try.prog 119 (.nilFunc) 1 8 := ⟨by kernel_rfl⟩
instance : ZeroC Try.prog 119 [.nilFunc] := ⟨zeroC_of (z := .nilFunc) (by kernel_rfl) rfl⟩
instance : Scalar Try.prog 119 := ⟨_, Try.underlying119, rfl⟩
instance : Sz Try.prog 121 (.nilFunc) 1 8 := ⟨by kernel_rfl⟩
instance : ZeroC Try.prog 121 [.nilFunc] := ⟨zeroC_of (z := .nilFunc) (by kernel_rfl) rfl⟩
instance : Scalar Try.prog 121 := ⟨_, Try.underlying121, rfl⟩
instance : Sz Try.prog 122 (.nilFunc) 1 8 := ⟨by kernel_rfl⟩
instance : ZeroC Try.prog 122 [.nilFunc] := ⟨zeroC_of (z := .nilFunc) (by kernel_rfl) rfl⟩
instance : Scalar Try.prog 122 := ⟨_, Try.underlying122, rfl⟩
instance : Sz Try.prog 123 (.nilFunc) 1 8 := ⟨by kernel_rfl⟩
instance : ZeroC Try.prog 123 [.nilFunc] := ⟨zeroC_of (z := .nilFunc) (by kernel_rfl) rfl⟩
instance : Scalar Try.prog 123 := ⟨_, Try.underlying123, rfl⟩
instance : Sz Try.prog 124 (.nilFunc) 1 8 := ⟨by kernel_rfl⟩
instance : ZeroC Try.prog 124 [.nilFunc] := ⟨zeroC_of (z := .nilFunc) (by kernel_rfl) rfl⟩
instance : Scalar Try.prog 124 := ⟨_, Try.underlying124, rfl⟩
instance : Sz Try.prog 125 (.nilFunc) 1 8 := ⟨by kernel_rfl⟩
instance : ZeroC Try.prog 125 [.nilFunc] := ⟨zeroC_of (z := .nilFunc) (by kernel_rfl) rfl⟩
instance : Scalar Try.prog 125 := ⟨_, Try.underlying125, rfl⟩
instance : Sz Try.prog 126 (.nilFunc) 1 8 := ⟨by kernel_rfl⟩
instance : ZeroC Try.prog 126 [.nilFunc] := ⟨zeroC_of (z := .nilFunc) (by kernel_rfl) rfl⟩
instance : Scalar Try.prog 126 := ⟨_, Try.underlying126, rfl⟩
instance : Sz Try.prog 127 (.nilFunc) 1 8 := ⟨by kernel_rfl⟩
instance : ZeroC Try.prog 127 [.nilFunc] := ⟨zeroC_of (z := .nilFunc) (by kernel_rfl) rfl⟩
instance : Scalar Try.prog 127 := ⟨_, Try.underlying127, rfl⟩
instance : Sz Try.prog 128 (.slice none 0 0) 1 24 := ⟨by kernel_rfl⟩
instance : ZeroC Try.prog 128 [.slice none 0 0] := ⟨zeroC_of (z := .slice none 0 0) (by kernel_rfl) rfl⟩
instance : Scalar Try.prog 128 := ⟨_, Try.underlying128, rfl⟩
instance : SliceT Try.prog 128 252 := ⟨Try.underlying128⟩
instance : Sz Try.prog 129 (.slice none 0 0) 1 24 := ⟨by kernel_rfl⟩
instance : ZeroC Try.prog 129 [.slice none 0 0] := ⟨zeroC_of (z := .slice none 0 0) (by kernel_rfl) rfl⟩
instance : Scalar Try.prog 129 := ⟨_, Try.underlying129, rfl⟩
instance : SliceT Try.prog 129 110 := ⟨Try.underlying129⟩
instance : Sz Try.prog 130 (.agg #[.int .i64 0, .int .i64 0, .int .i64 0, .int .i64 0, .bool false, .int .i64 0, .int .i64 0, .int .i64 0, .slice none 0 0, .slice none 0 0, .slice none 0 0, .int .i64 0]) 12 144 := ⟨by kernel_rfl⟩
instance : ZeroC Try.prog 130 [.int .i64 0, .int .i64 0, .int .i64 0, .int .i64 0, .bool false, .int .i64 0, .int .i64 0, .int .i64 0, .slice none 0 0, .slice none 0 0, .slice none 0 0, .int .i64 0] := ⟨zeroC_of (z := .agg #[.int .i64 0, .int .i64 0, .int .i64 0, .int .i64 0, .bool false, .int .i64 0, .int .i64 0, .int .i64 0, .slice none 0 0, .slice none 0 0, .slice none 0 0, .int .i64 0]) (by kernel_rfl) rfl⟩
instance : Parts Try.prog 130 [(0, 7), (7, 2), (9, 1), (10, 1), (11, 1)] := ⟨.inl ⟨_, Try.underlying130, by kernel_rfl, by kernel_rfl⟩⟩
instance : Aggr Try.prog 130 12 := ⟨⟨_, Try.underlying130, rfl⟩, by kernel_rfl⟩
instance : Fld Try.prog 130 0 0 := ⟨fld_of (by kernel_rfl)⟩
instance : Fld Try.prog 130 1 7 := ⟨fld_of (by kernel_rfl)⟩
instance : Fld Try.prog 130 2 9 := ⟨fld_of (by kernel_rfl)⟩
instance : Fld Try.prog 130 3 10 := ⟨fld_of (by kernel_rfl)⟩
instance : Fld Try.prog 130 4 11 := ⟨fld_of (by kernel_rfl)⟩
instance : Sz Try.prog 131 (.agg #[.int .i64 0, .int .i64 0, .int .i64 0, .int .i64 0, .bool false, .int .i64 0, .int .i64 0, .int .i64 0, .slice none 0 0, .slice none 0 0, .slice none 0 0, .int .i64 0]) 12 144 := ⟨by kernel_rfl⟩
instance : ZeroC Try.prog 131 [.int .i64 0, .int .i64 0, .int .i64 0, .int .i64 0, .bool false, .int .i64 0, .int .i64 0, .int .i64 0, .slice none 0 0, .slice none 0 0, .slice none 0 0, .int .i64 0] := ⟨zeroC_of (z := .agg #[.int .i64 0, .int .i64 0, .int .i64 0, .int .i64 0, .bool false, .int .i64 0, .int .i64 0, .int .i64 0, .slice none 0 0, .slice none 0 0, .slice none 0 0, .int .i64 0]) (by kernel_rfl) rfl⟩
instance : Parts Try.prog 131 [(0, 7), (7, 2), (9, 1), (10, 1), (11, 1)] := ⟨.inl ⟨_, Try.underlying131, by kernel_rfl, by kernel_rfl⟩⟩
instance : Aggr Try.prog 131 12 := ⟨⟨_, Try.underlying131, rfl⟩, by kernel_rfl⟩
instance : Fld Try.prog 131 0 0 := ⟨fld_of (by kernel_rfl)⟩
instance : Fld Try.prog 131 1 7 := ⟨fld_of (by kernel_rfl)⟩
instance : Fld Try.prog 131 2 9 := ⟨fld_of (by kernel_rfl)⟩
instance : Fld Try.prog 131 3 10 := ⟨fld_of (by kernel_rfl)⟩
instance : Fld Try.prog 131 4 11 := ⟨fld_of (by kernel_rfl)⟩
instance : Sz Try.prog 132 (.nilFunc) 1 8 := ⟨by kernel_rfl⟩
instance : ZeroC Try.prog 132 [.nilFunc] := ⟨zeroC_of (z := .nilFunc) (by kernel_rfl) rfl⟩
instance : Scalar Try.prog 132 := ⟨_, Try.underlying132, rfl⟩
instance : Sz Try.prog 133 (.nilFunc) 1 8 := ⟨by kernel_rfl⟩
instance : ZeroC Try.prog 133 [.nilFunc] := ⟨zeroC_of (z := .nilFunc) (by kernel_rfl) rfl⟩
instance : Scalar Try.prog 133 := ⟨_, Try.underlying133, rfl⟩
instance : Sz Try.prog 134 (.slice none 0 0) 1 24 := ⟨by kernel_rfl⟩
instance : ZeroC Try.prog 134 [.slice none 0 0] := ⟨zeroC_of (z := .slice none 0 0) (by kernel_rfl) rfl⟩
instance : Scalar Try.prog 134 := ⟨_, Try.underlying134, rfl⟩
instance : SliceT Try.prog 134 207 := ⟨Try.underlying134⟩
instance : Sz Try.prog 135 (.slice none 0 0) 1 24 := ⟨by kernel_rfl⟩
instance : ZeroC Try.prog 135 [.slice none 0 0] := ⟨zeroC_of (z := .slice none 0 0) (by kernel_rfl) rfl⟩
instance : Scalar Try.prog 135 := ⟨_, Try.underlying135, rfl⟩
instance : SliceT Try.prog 135 116 := ⟨Try.underlying135⟩
instance : Sz Try.prog 136 (.agg #[.int .i64 0, .int .i64 0, .int .i64 0, .int .i64 0, .bool false, .int .i64 0, .int .i64 0, .int .i64 0, .slice none 0 0, .slice none 0 0, .slice none 0 0, .int .i64 0]) 12 144 := ⟨by kernel_rfl⟩
instance : ZeroC Try.prog 136 [.int .i64 0, .int .i64 0, .int .i64 0, .int .i64 0, .bool false, .int .i64 0, .int .i64 0, .int .i64 0, .slice none 0 0, .slice none 0 0, .slice none 0 0, .int .i64 0] := ⟨zeroC_of (z := .agg #[.int .i64 0, .int .i64 0, .int .i64 0, .int .i64 0, .bool false, .int .i64 0, .int .i64 0, .int .i64 0, .slice none 0 0, .slice none 0 0, .slice none 0 0, .int .i64 0]) (by kernel_rfl) rfl⟩
instance : Parts Try.prog 136 [(0, 7), (7, 2), (9, 1), (10, 1), (11, 1)] := ⟨.inl ⟨_, Try.underlying136, by kernel_rfl, by kernel_rfl⟩⟩
instance : Aggr Try.prog 136 12 := ⟨⟨_, Try.underlying136, rfl⟩, by kernel_rfl⟩
instance : Fld Try.prog 136 0 0 := ⟨fld_of (by kernel_rfl)⟩
instance : Fld Try.prog 136 1 7 := ⟨fld_of (by kernel_rfl)⟩
instance : Fld Try.prog 136 2 9 := ⟨fld_of (by kernel_rfl)⟩
instance : Fld Try.prog 136 3 10 := ⟨fld_of (by kernel_rfl)⟩
instance : Fld Try.prog 136 4 11 := ⟨fld_of (by kernel_rfl)⟩
instance : Sz Try.prog 137 (.agg #[.int .i64 0, .int .i64 0, .int .i64 0, .int .i64 0, .bool false, .int .i64 0, .int .i64 0, .int .i64 0, .slice none 0 0, .slice none 0 0, .slice none 0 0, .int .i64 0]) 12 144 := ⟨by kernel_rfl⟩
instance : ZeroC Try.prog 137 [.int .i64 0, .int .i64 0, .int .i64 0, .int .i64 0, .bool false, .int .i64 0, .int .i64 0, .int .i64 0, .slice none 0 0, .slice none 0 0, .slice none 0 0, .int .i64 0] := ⟨zeroC_of (z := .agg #[.int .i64 0, .int .i64 0, .int .i64 0, .int .i64 0, .bool false, .int .i64 0, .int .i64 0, .int .i64 0, .slice none 0 0, .slice none 0 0, .slice none 0 0, .int .i64 0]) (by kernel_rfl) rfl⟩
instance : Parts Try.prog 137 [(0, 7), (7, 2), (9, 1), (10, 1), (11, 1)] := ⟨.inl ⟨_, Try.underlying137, by kernel_rfl, by kernel_rfl⟩⟩
instance : Aggr Try.prog 137 12 := ⟨⟨_, Try.underlying137, rfl⟩, by kernel_rfl⟩
instance : Fld Try.prog 137 0 0 := ⟨fld_of (by kernel_rfl)⟩
instance : Fld Try.prog 137 1 7 := ⟨fld_of (by kernel_rfl)⟩
instance : Fld Try.prog 137 2 9 := ⟨fld_of (by kernel_rfl)⟩
instance : Fld Try.prog 137 3 10 := ⟨fld_of (by kernel_rfl)⟩
instance : Fld Try.prog 137 4 11 := ⟨fld_of (by kernel_rfl)⟩
instance : Sz Try.prog 138 (.nilFunc) 1 8 := ⟨by kernel_rfl⟩
instance : ZeroC Try.prog 138 [.nilFunc] := ⟨zeroC_of (z := .nilFunc) (by kernel_rfl) rfl⟩
instance : Scalar Try.prog 138 := ⟨_, Try.underlying138, rfl⟩
instance : Sz Try.prog 139 (.nilFunc) 1 8 := ⟨by kernel_rfl⟩
instance : ZeroC Try.prog 139 [.nilFunc] := ⟨zeroC_of (z := .nilFunc) (by kernel_rfl) rfl⟩
instance : Scalar Try.prog 139 := ⟨_, Try.underlying139, rfl⟩
instance : Sz Try.prog 140 (.pointer none) 1 8 := ⟨by kernel_rfl⟩
instance : ZeroC Try.prog 140 [.pointer none] := ⟨zeroC_of (z := .pointer none) (by kernel_rfl) rfl⟩
instance : Scalar Try.prog 140 := ⟨_, Try.underlying140, rfl⟩
instance : Sz Try.prog 141 (.nilFunc) 1 8 := ⟨by kernel_rfl⟩
instance : ZeroC Try.prog 141 [.nilFunc] := ⟨zeroC_of (z := .nilFunc) (by kernel_rfl) rfl⟩
instance : Scalar Try.prog 141 := ⟨_, Try.underlying141, rfl⟩
instance : Sz Try.prog 142 (.nilFunc) 1 8 := ⟨by kernel_rfl⟩
instance : ZeroC Try.prog 142 [.nilFunc] := ⟨zeroC_of (z := .nilFunc) (by kernel_rfl) rfl⟩
instance : Scalar Try.prog 142 := ⟨_, Try.underlying142, rfl⟩
instance : Sz Try.prog 143 (.nilFunc) 1 8 := ⟨by kernel_rfl⟩
instance : ZeroC Try.prog 143 [.nilFunc] := ⟨zeroC_of (z := .nilFunc) (by kernel_rfl) rfl⟩
instance : Scalar Try.prog 143 := ⟨_, Try.underlying143, rfl⟩
instance : Sz Try.prog 144 (.nilFunc) 1 8 := ⟨by kernel_rfl⟩
instance : ZeroC Try.prog 144 [.nilFunc] := ⟨zeroC_of (z := .nilFunc) (by kernel_rfl) rfl⟩
instance : Scalar Try.prog 144 := ⟨_, Try.underlying144, rfl⟩
instance : Sz Try.prog 145 (.nilFunc) 1 8 := ⟨by kernel_rfl⟩
instance : ZeroC Try.prog 145 [.nilFunc] := ⟨zeroC_of (z := .nilFunc) (by kernel_rfl) rfl⟩
instance : Scalar Try.prog 145 := ⟨_, Try.underlying145, rfl⟩
instance : Sz Try.prog 146 (.nilFunc) 1 8 := ⟨by kernel_rfl⟩
instance : ZeroC Try.prog 146 [.nilFunc] := ⟨zeroC_of (z := .nilFunc) (by kernel_rfl) rfl⟩
instance : Scalar Try.prog 146 := ⟨_, Try.underlying146, rfl⟩
instance : Sz Try.prog 148 (.nilFunc) 1 8 := ⟨by kernel_rfl⟩
instance : ZeroC Try.prog 148 [.nilFunc] := ⟨zeroC_of (z := .nilFunc) (by kernel_rfl) rfl⟩
instance : Scalar Try.prog 148 := ⟨_, Try.underlying148, rfl⟩
instance : Sz Try.prog 149 (.nilFunc) 1 8 := ⟨by kernel_rfl⟩
instance : ZeroC Try.prog 149 [.nilFunc] := ⟨zeroC_of (z := .nilFunc) (by kernel_rfl) rfl⟩
instance : Scalar Try.prog 149 := ⟨_, Try.underlying149, rfl⟩
instance : Sz Try.prog 150 (.nilFunc) 1 8 := ⟨by kernel_rfl⟩
instance : ZeroC Try.prog 150 [.nilFunc] := ⟨zeroC_of (z := .nilFunc) (by kernel_rfl) rfl⟩
instance : Scalar Try.prog 150 := ⟨_, Try.underlying150, rfl⟩
instance : Sz Try.prog 151 (.nilFunc) 1 8 := ⟨by kernel_rfl⟩
instance : ZeroC Try.prog 151 [.nilFunc] := ⟨zeroC_of (z := .nilFunc) (by kernel_rfl) rfl⟩
instance : Scalar Try.prog 151 := ⟨_, Try.underlying151, rfl⟩
instance : Sz Try.prog 152 (.nilFunc) 1 8 := ⟨by kernel_rfl⟩
instance : ZeroC Try.prog 152 [.nilFunc] := ⟨zeroC_of (z := .nilFunc) (by kernel_rfl) rfl⟩
instance : Scalar Try.prog 152 := ⟨_, Try.underlying152, rfl⟩
instance : Sz Try.prog 153 (.nilFunc) 1 8 := ⟨by kernel_rfl⟩
instance : ZeroC Try.prog 153 [.nilFunc] := ⟨zeroC_of (z := .nilFunc) (by kernel_rfl) rfl⟩
instance : Scalar Try.prog 153 := ⟨_, Try.underlying153, rfl⟩
instance : Sz Try.prog 154 (.nilFunc) 1 8 := ⟨by kernel_rfl⟩
instance : ZeroC Try.prog 154 [.nilFunc] := ⟨zeroC_of (z := .nilFunc) (by kernel_rfl) rfl⟩
instance : Scalar Try.prog 154 := ⟨_, Try.underlying154, rfl⟩
instance : Sz Try.prog 155 (.nilFunc) 1 8 := ⟨by kernel_rfl⟩
instance : ZeroC Try.prog 155 [.nilFunc] := ⟨zeroC_of (z := .nilFunc) (by kernel_rfl) rfl⟩
instance : Scalar Try.prog 155 := ⟨_, Try.underlying155, rfl⟩
instance : Sz Try.prog 156 (.pointer none) 1 8 := ⟨by kernel_rfl⟩
instance : ZeroC Try.prog 156 [.pointer none] := ⟨zeroC_of (z := .pointer none) (by kernel_rfl) rfl⟩
instance : Scalar Try.prog 156 := ⟨_, Try.underlying156, rfl⟩
instance : Sz Try.prog 157 (.nilFunc) 1 8 := ⟨by kernel_rfl⟩
instance : ZeroC Try.prog 157 [.nilFunc] := ⟨zeroC_of (z := .nilFunc) (by kernel_rfl) rfl⟩
instance : Scalar Try.prog 157 := ⟨_, Try.underlying157, rfl⟩
instance : Sz Try.prog 158 (.nilFunc) 1 8 := ⟨by kernel_rfl⟩
instance : ZeroC Try.prog 158 [.nilFunc] := ⟨zeroC_of (z := .nilFunc) (by kernel_rfl) rfl⟩
instance : Scalar Try.prog 158 := ⟨_, Try.underlying158, rfl⟩
instance : Sz Try.prog 159 (.agg #[.slice none 0 0, .nilFunc]) 2 32 := ⟨by kernel_rfl⟩
instance : ZeroC Try.prog 159 [.slice none 0 0, .nilFunc] := ⟨zeroC_of (z := .agg #[.slice none 0 0, .nilFunc]) (by kernel_rfl) rfl⟩
instance : Parts Try.prog 159 [(0, 1), (1, 1)] := ⟨.inl ⟨_, Try.underlying159, by kernel_rfl, by kernel_rfl⟩⟩
instance : Aggr Try.prog 159 2 := ⟨⟨_, Try.underlying159, rfl⟩, by kernel_rfl⟩
instance : Fld Try.prog 159 0 0 := ⟨fld_of (by kernel_rfl)⟩
instance : Fld Try.prog 159 1 1 := ⟨fld_of (by kernel_rfl)⟩
instance : Sz Try.prog 160 (.agg #[.slice none 0 0, .nilFunc]) 2 32 := ⟨by kernel_rfl⟩
instance : ZeroC Try.prog 160 [.slice none 0 0, .nilFunc] := ⟨zeroC_of (z := .agg #[.slice none 0 0, .nilFunc]) (by kernel_rfl) rfl⟩
instance : Parts Try.prog 160 [(0, 1), (1, 1)] := ⟨.inl ⟨_, Try.underlying160, by kernel_rfl, by kernel_rfl⟩⟩
instance : Aggr Try.prog 160 2 := ⟨⟨_, Try.underlying160, rfl⟩, by kernel_rfl⟩
instance : Fld Try.prog 160 0 0 := ⟨fld_of (by kernel_rfl)⟩
instance : Fld Try.prog 160 1 1 := ⟨fld_of (by kernel_rfl)⟩
instance : Sz Try.prog 161 (.nilFunc) 1 8 := ⟨by kernel_rfl⟩
instance : ZeroC Try.prog 161 [.nilFunc] := ⟨zeroC_of (z := .nilFunc) (by kernel_rfl) rfl⟩
instance : Scalar Try.prog 161 := ⟨_, Try.underlying161, rfl⟩
instance : Sz Try.prog 162 (.nilFunc) 1 8 := ⟨by kernel_rfl⟩
instance : ZeroC Try.prog 162 [.nilFunc] := ⟨zeroC_of (z := .nilFunc) (by kernel_rfl) rfl⟩
instance : Scalar Try.prog 162 := ⟨_, Try.underlying162, rfl⟩
instance : Sz Try.prog 163 (.nilFunc) 1 8 := ⟨by kernel_rfl⟩
instance : ZeroC Try.prog 163 [.nilFunc] := ⟨zeroC_of (z := .nilFunc) (by kernel_rfl) rfl⟩
instance : Scalar Try.prog 163 := ⟨_, Try.underlying163, rfl⟩
instance : Sz Try.prog 164 (.agg #[.int .i64 0, .string ⟨#[]⟩, .int .i64 0]) 3 32 := ⟨by kernel_rfl⟩
instance : ZeroC Try.prog 164 [.int .i64 0, .string ⟨#[]⟩, .int .i64 0] := ⟨zeroC_of (z := .agg #[.int .i64 0, .string ⟨#[]⟩, .int .i64 0]) (by kernel_rfl) rfl⟩
instance : Parts Try.prog 164 [(0, 1), (1, 1), (2, 1)] := ⟨.inl ⟨_, Try.underlying164, by kernel_rfl, by kernel_rfl⟩⟩
instance : Aggr Try.prog 164 3 := ⟨⟨_, Try.underlying164, rfl⟩, by kernel_rfl⟩
instance : Fld Try.prog 164 0 0 := ⟨fld_of (by kernel_rfl)⟩
instance : Fld Try.prog 164 1 1 := ⟨fld_of (by kernel_rfl)⟩
instance : Fld Try.prog 164 2 2 := ⟨fld_of (by kernel_rfl)⟩
instance : Sz Try.prog 165 (.agg #[.int .i64 0, .string ⟨#[]⟩, .int .i64 0]) 3 32 := ⟨by kernel_rfl⟩
instance : ZeroC Try.prog 165 [.int .i64 0, .string ⟨#[]⟩, .int .i64 0] := ⟨zeroC_of (z := .agg #[.int .i64 0, .string ⟨#[]⟩, .int .i64 0]) (by kernel_rfl) rfl⟩
instance : Parts Try.prog 165 [(0, 1), (1, 1), (2, 1)] := ⟨.inl ⟨_, Try.underlying165, by kernel_rfl, by kernel_rfl⟩⟩
instance : Aggr Try.prog 165 3 := ⟨⟨_, Try.underlying165, rfl⟩, by kernel_rfl⟩
instance : Fld Try.prog 165 0 0 := ⟨fld_of (by kernel_rfl)⟩
instance : Fld Try.prog 165 1 1 := ⟨fld_of (by kernel_rfl)⟩
instance : Fld Try.prog 165 2 2 := ⟨fld_of (by kernel_rfl)⟩
instance : Sz Try.prog 166 (.nilFunc) 1 8 := ⟨by kernel_rfl⟩
instance : ZeroC Try.prog 166 [.nilFunc] := ⟨zeroC_of (z := .nilFunc) (by kernel_rfl) rfl⟩
instance : Scalar Try.prog 166 := ⟨_, Try.underlying166, rfl⟩
instance : Sz Try.prog 167 (.nilFunc) 1 8 := ⟨by kernel_rfl⟩
instance : ZeroC Try.prog 167 [.nilFunc] := ⟨zeroC_of (z := .nilFunc) (by kernel_rfl) rfl⟩
instance : Scalar Try.prog 167 := ⟨_, Try.underlying167, rfl⟩
instance : Sz Try.prog 168 (.nilFunc) 1 8 := ⟨by kernel_rfl⟩
instance : ZeroC Try.prog 168 [.nilFunc] := ⟨zeroC_of (z := .nilFunc) (by kernel_rfl) rfl⟩
instance : Scalar Try.prog 168 := ⟨_, Try.underlying168, rfl⟩
instance : Sz Try.prog 169 (.nilFunc) 1 8 := ⟨by kernel_rfl⟩
instance : ZeroC Try.prog 169 [.nilFunc] := ⟨zeroC_of (z := .nilFunc) (by kernel_rfl) rfl⟩
instance : Scalar Try.prog 169 := ⟨_, Try.underlying169, rfl⟩
instance : Sz Try.prog 170 (.nilFunc) 1 8 := ⟨by kernel_rfl⟩
instance : ZeroC Try.prog 170 [.nilFunc] := ⟨zeroC_of (z := .nilFunc) (by kernel_rfl) rfl⟩
instance : Scalar Try.prog 170 := ⟨_, Try.underlying170, rfl⟩
instance : Sz Try.prog 171 (.nilFunc) 1 8 := ⟨by kernel_rfl⟩
instance : ZeroC Try.prog 171 [.nilFunc] := ⟨zeroC_of (z := .nilFunc) (by kernel_rfl) rfl⟩
instance : Scalar Try.prog 171 := ⟨_, Try.underlying171, rfl⟩
instance : Sz Try.prog 172 (.nilFunc) 1 8 := ⟨by kernel_rfl⟩
instance : ZeroC Try.prog 172 [.nilFunc] := ⟨zeroC_of (z := .nilFunc) (by kernel_rfl) rfl⟩
instance : Scalar Try.prog 172 := ⟨_, Try.underlying172, rfl⟩
instance : Sz Try.prog 173 (.slice none 0 0) 1 24 := ⟨by kernel_rfl⟩
instance : ZeroC Try.prog 173 [.slice none 0 0] := ⟨zeroC_of (z := .slice none 0 0) (by kernel_rfl) rfl⟩
instance : Scalar Try.prog 173 := ⟨_, Try.underlying173, rfl⟩
instance : SliceT Try.prog 173 28 := ⟨Try.underlying173⟩
instance : Sz Try.prog 174 (.nilFunc) 1 8 := ⟨by kernel_rfl⟩
instance : ZeroC Try.prog 174 [.nilFunc] := ⟨zeroC_of (z := .nilFunc) (by kernel_rfl) rfl⟩
instance : Scalar Try.prog 174 := ⟨_, Try.underlying174, rfl⟩
instance : Sz Try.prog 175 (.nilFunc) 1 8 := ⟨by kernel_rfl⟩
instance : ZeroC Try.prog 175 [.nilFunc] := ⟨zeroC_of (z := .nilFunc) (by kernel_rfl) rfl⟩
instance : Scalar Try.prog 175 := ⟨_, Try.underlying175, rfl⟩
instance : Sz Try.prog 176 (.nilFunc) 1 8 := ⟨by kernel_rfl⟩
instance : ZeroC Try.prog 176 [.nilFunc] := ⟨zeroC_of (z := .nilFunc) (by kernel_rfl) rfl⟩
instance : Scalar Try.prog 176 := ⟨_, Try.underlying176, rfl⟩
instance : Sz Try.prog 177 (.nilFunc) 1 8 := ⟨by kernel_rfl⟩
instance : ZeroC Try.prog 177 [.nilFunc] := ⟨zeroC_of (z := .nilFunc) (by kernel_rfl) rfl⟩
instance : Scalar Try.prog 177 := ⟨_, Try.underlying177, rfl⟩
instance : Sz Try.prog 178 (.nilFunc) 1 8 := ⟨by kernel_rfl⟩
instance : ZeroC Try.prog 178 [.nilFunc] := ⟨zeroC_of (z := .nilFunc) (by kernel_rfl) rfl⟩
instance : Scalar Try.prog 178 := ⟨_, Try.underlying178, rfl⟩
instance : Sz Try.prog 179 (.nilFunc) 1 8 := ⟨by kernel_rfl⟩
instance : ZeroC Try.prog 179 [.nilFunc] := ⟨zeroC_of (z := .nilFunc) (by kernel_rfl) rfl⟩
instance : Scalar Try.prog 179 := ⟨_, Try.underlying179, rfl⟩
instance : Sz Try.prog 180 (.nilFunc) 1 8 := ⟨by kernel_rfl⟩
instance : ZeroC Try.prog 180 [.nilFunc] := ⟨zeroC_of (z := .nilFunc) (by kernel_rfl) rfl⟩
instance : Scalar Try.prog 180 := ⟨_, Try.underlying180, rfl⟩
instance : Sz Try.prog 181 (.nilFunc) 1 8 := ⟨by kernel_rfl⟩
instance : ZeroC Try.prog 181 [.nilFunc] := ⟨zeroC_of (z := .nilFunc) (by kernel_rfl) rfl⟩
instance : Scalar Try.prog 181 := ⟨_, Try.underlying181, rfl⟩
instance : Sz Try.prog 182 (.nilFunc) 1 8 := ⟨by kernel_rfl⟩
instance : ZeroC Try.prog 182 [.nilFunc] := ⟨zeroC_of (z := .nilFunc) (by kernel_rfl) rfl⟩
instance : Scalar Try.prog 182 := ⟨_, Try.underlying182, rfl⟩
instance : Sz Try.prog 183 (.agg #[.int .i64 0, .int .i64 0, .int .i64 0, .int .i64 0, .int .i64 0]) 5 40 := ⟨by kernel_rfl⟩
instance : ZeroC Try.prog 183 [.int .i64 0, .int .i64 0, .int .i64 0, .int .i64 0, .int .i64 0] := ⟨zeroC_of (z := .agg #[.int .i64 0, .int .i64 0, .int .i64 0, .int .i64 0, .int .i64 0]) (by kernel_rfl) rfl⟩
instance : Parts Try.prog 183 [(0, 1), (1, 1), (2, 1), (3, 1), (4, 1)] := ⟨.inl ⟨_, Try.underlying183, by kernel_rfl, by kernel_rfl⟩⟩
instance : Aggr Try.prog 183 5 := ⟨⟨_, Try.underlying183, rfl⟩, by kernel_rfl⟩
instance : Fld Try.prog 183 0 0 := ⟨fld_of (by kernel_rfl)⟩
instance : Fld Try.prog 183 1 1 := ⟨fld_of (by kernel_rfl)⟩
instance : Fld Try.prog 183 2 2 := ⟨fld_of (by kernel_rfl)⟩
instance : Fld Try.prog 183 3 3 := ⟨fld_of (by kernel_rfl)⟩
instance : Fld Try.prog 183 4 4 := ⟨fld_of (by kernel_rfl)⟩
instance : Sz Try.prog 184 (.agg #[.int .i64 0, .int .i64 0, .int .i64 0, .int .i64 0, .int .i64 0]) 5 40 := ⟨by kernel_rfl⟩
instance : ZeroC Try.prog 184 [.int .i64 0, .int .i64 0, .int .i64 0, .int .i64 0, .int .i64 0] := ⟨zeroC_of (z := .agg #[.int .i64 0, .int .i64 0, .int .i64 0, .int .i64 0, .int .i64 0]) (by kernel_rfl) rfl⟩
instance : Parts Try.prog 184 [(0, 1), (1, 1), (2, 1), (3, 1), (4, 1)] := ⟨.inl ⟨_, Try.underlying184, by kernel_rfl, by kernel_rfl⟩⟩
instance : Aggr Try.prog 184 5 := ⟨⟨_, Try.underlying184, rfl⟩, by kernel_rfl⟩
instance : Fld Try.prog 184 0 0 := ⟨fld_of (by kernel_rfl)⟩
instance : Fld Try.prog 184 1 1 := ⟨fld_of (by kernel_rfl)⟩
instance : Fld Try.prog 184 2 2 := ⟨fld_of (by kernel_rfl)⟩
instance : Fld Try.prog 184 3 3 := ⟨fld_of (by kernel_rfl)⟩
instance : Fld Try.prog 184 4 4 := ⟨fld_of (by kernel_rfl)⟩
instance : Sz Try.prog 185 (.nilFunc) 1 8 := ⟨by kernel_rfl⟩
instance : ZeroC Try.prog 185 [.nilFunc] := ⟨zeroC_of (z := .nilFunc) (by kernel_rfl) rfl⟩
instance : Scalar Try.prog 185 := ⟨_, Try.underlying185, rfl⟩
instance : Sz Try.prog 186 (.nilFunc) 1 8 := ⟨by kernel_rfl⟩
instance : ZeroC Try.prog 186 [.nilFunc] := ⟨zeroC_of (z := .nilFunc) (by kernel_rfl) rfl⟩
instance : Scalar Try.prog 186 := ⟨_, Try.underlying186, rfl⟩
instance : Sz Try.prog 187 (.slice none 0 0) 1 24 := ⟨by kernel_rfl⟩
instance : ZeroC Try.prog 187 [.slice none 0 0] := ⟨zeroC_of (z := .slice none 0 0) (by kernel_rfl) rfl⟩
instance : Scalar Try.prog 187 := ⟨_, Try.underlying187, rfl⟩
instance : SliceT Try.prog 187 4 := ⟨Try.underlying187⟩
instance : Sz Try.prog 189 (.nilFunc) 1 8 := ⟨by kernel_rfl⟩
instance : ZeroC Try.prog 189 [.nilFunc] := ⟨zeroC_of (z := .nilFunc) (by kernel_rfl) rfl⟩
instance : Scalar Try.prog 189 := ⟨_, Try.underlying189, rfl⟩
instance : Sz Try.prog 190 (.nilFunc) 1 8 := ⟨by kernel_rfl⟩
instance : ZeroC Try.prog 190 [.nilFunc] := ⟨zeroC_of (z := .nilFunc) (by kernel_rfl) rfl⟩
instance : Scalar Try.prog 190 := ⟨_, Try.underlying190, rfl⟩
instance : Sz Try.prog 191 (.nilFunc) 1 8 := ⟨by kernel_rfl⟩
instance : ZeroC Try.prog 191 [.nilFunc] := ⟨zeroC_of (z := .nilFunc) (by kernel_rfl) rfl⟩
instance : Scalar Try.prog 191 := ⟨_, Try.underlying191, rfl⟩
instance : Sz Try.prog 192 (.nilFunc) 1 8 := ⟨by kernel_rfl⟩
instance : ZeroC Try.prog 192 [.nilFunc] := ⟨zeroC_of (z := .nilFunc) (by kernel_rfl) rfl⟩
instance : Scalar Try.prog 192 := ⟨_, Try.underlying192, rfl⟩
instance : Sz Try.prog 193 (.nilFunc) 1 8 := ⟨by kernel_rfl⟩
instance : ZeroC Try.prog 193 [.nilFunc] := ⟨zeroC_of (z := .nilFunc) (by kernel_rfl) rfl⟩
instance : Scalar Try.prog 193 := ⟨_, Try.underlying193, rfl⟩
instance : Sz Try.prog 194 (.nilFunc) 1 8 := ⟨by kernel_rfl⟩
instance : ZeroC Try.prog 194 [.nilFunc] := ⟨zeroC_of (z := .nilFunc) (by kernel_rfl) rfl⟩
instance : Scalar Try.prog 194 := ⟨_, Try.underlying194, rfl⟩
instance : Sz Try.prog 195 (.nilFunc) 1 8 := ⟨by kernel_rfl⟩
instance : ZeroC Try.prog 195 [.nilFunc] := ⟨zeroC_of (z := .nilFunc) (by kernel_rfl) rfl⟩
instance : Scalar Try.prog 195 := ⟨_, Try.underlying195, rfl⟩
instance : Sz Try.prog 196 (.nilFunc) 1 8 := ⟨by kernel_rfl⟩
instance : ZeroC Try.prog 196 [.nilFunc] := ⟨zeroC_of (z := .nilFunc) (by kernel_rfl) rfl⟩
instance : Scalar Try.prog 196 := ⟨_, Try.underlying196, rfl⟩
instance : Sz Try.prog 197 (.nilFunc) 1 8 := ⟨by kernel_rfl⟩
instance : ZeroC Try.prog 197 [.nilFunc] := ⟨zeroC_of (z := .nilFunc) (by kernel_rfl) rfl⟩
instance : Scalar Try.prog 197 := ⟨_, Try.underlying197, rfl⟩
instance : Sz Try.prog 198 (.nilFunc) 1 8 := ⟨by kernel_rfl⟩
instance : ZeroC Try.prog 198 [.nilFunc] := ⟨zeroC_of (z := .nilFunc) (by kernel_rfl) rfl⟩
instance : Scalar Try.prog 198 := ⟨_, Try.underlying198, rfl⟩
instance : Sz Try.prog 199 (.nilFunc) 1 8 := ⟨by kernel_rfl⟩
instance : ZeroC Try.prog 199 [.nilFunc] := ⟨zeroC_of (z := .nilFunc) (by kernel_rfl) rfl⟩
instance : Scalar Try.prog 199 := ⟨_, Try.underlying199, rfl⟩
instance : Sz Try.prog 200 (.nilFunc) 1 8 := ⟨by kernel_rfl⟩
instance : ZeroC Try.prog 200 [.nilFunc] := ⟨zeroC_of (z := .nilFunc) (by kernel_rfl) rfl⟩
instance : Scalar Try.prog 200 := ⟨_, Try.underlying200, rfl⟩
instance : Sz Try.prog 201 (.nilFunc) 1 8 := ⟨by kernel_rfl⟩
instance : ZeroC Try.prog 201 [.nilFunc] := ⟨zeroC_of (z := .nilFunc) (by kernel_rfl) rfl⟩
instance : Scalar Try.prog 201 := ⟨_, Try.underlying201, rfl⟩
instance : Sz Try.prog 202 (.nilFunc) 1 8 := ⟨by kernel_rfl⟩
instance : ZeroC Try.prog 202 [.nilFunc] := ⟨zeroC_of (z := .nilFunc) (by kernel_rfl) rfl⟩
instance : Scalar Try.prog 202 := ⟨_, Try.underlying202, rfl⟩
instance : Sz Try.prog 203 (.nilFunc) 1 8 := ⟨by kernel_rfl⟩
instance : ZeroC Try.prog 203 [.nilFunc] := ⟨zeroC_of (z := .nilFunc) (by kernel_rfl) rfl⟩
instance : Scalar Try.prog 203 := ⟨_, Try.underlying203, rfl⟩
instance : Sz Try.prog 204 (.slice none 0 0) 1 24 := ⟨by kernel_rfl⟩
instance : ZeroC Try.prog 204 [.slice none 0 0] := ⟨zeroC_of (z := .slice none 0 0) (by kernel_rfl) rfl⟩
instance : Scalar Try.prog 204 := ⟨_, Try.underlying204, rfl⟩
instance : SliceT Try.prog 204 254 := ⟨Try.underlying204⟩
instance : Sz Try.prog 205 (.slice none 0 0) 1 24 := ⟨by kernel_rfl⟩
instance : ZeroC Try.prog 205 [.slice none 0 0] := ⟨zeroC_of (z := .slice none 0 0) (by kernel_rfl) rfl⟩
instance : Scalar Try.prog 205 := ⟨_, Try.underlying205, rfl⟩
instance : SliceT Try.prog 205 256 := ⟨Try.underlying205⟩
instance : Sz Try.prog 206 (.agg #[.slice none 0 0, .slice none 0 0]) 2 48 := ⟨by kernel_rfl⟩
instance : ZeroC Try.prog 206 [.slice none 0 0, .slice none 0 0] := ⟨zeroC_of (z := .agg #[.slice none 0 0, .slice none 0 0]) (by kernel_rfl) rfl⟩
instance : Parts Try.prog 206 [(0, 1), (1, 1)] := ⟨.inl ⟨_, Try.underlying206, by kernel_rfl, by kernel_rfl⟩⟩
instance : Aggr Try.prog 206 2 := ⟨⟨_, Try.underlying206, rfl⟩, by kernel_rfl⟩
instance : Fld Try.prog 206 0 0 := ⟨fld_of (by kernel_rfl)⟩
instance : Fld Try.prog 206 1 1 := ⟨fld_of (by kernel_rfl)⟩
instance : Sz Try.prog 207 (.agg #[.slice none 0 0, .slice none 0 0]) 2 48 := ⟨by kernel_rfl⟩
instance : ZeroC Try.prog 207 [.slice none 0 0, .slice none 0 0] := ⟨zeroC_of (z := .agg #[.slice none 0 0, .slice none 0 0]) (by kernel_rfl) rfl⟩
instance : Parts Try.prog 207 [(0, 1), (1, 1)] := ⟨.inl ⟨_, Try.underlying207, by kernel_rfl, by kernel_rfl⟩⟩
instance : Aggr Try.prog 207 2 := ⟨⟨_, Try.underlying207, rfl⟩, by kernel_rfl⟩
instance : Fld Try.prog 207 0 0 := ⟨fld_of (by kernel_rfl)⟩
instance : Fld Try.prog 207 1 1 := ⟨fld_of (by kernel_rfl)⟩
instance : Sz Try.prog 208 (.nilFunc) 1 8 := ⟨by kernel_rfl⟩
instance : ZeroC Try.prog 208 [.nilFunc] := ⟨zeroC_of (z := .nilFunc) (by kernel_rfl) rfl⟩
instance : Scalar Try.prog 208 := ⟨_, Try.underlying208, rfl⟩
instance : Sz Try.prog 209 (.nilFunc) 1 8 := ⟨by kernel_rfl⟩
instance : ZeroC Try.prog 209 [.nilFunc] := ⟨zeroC_of (z := .nilFunc) (by kernel_rfl) rfl⟩
instance : Scalar Try.prog 209 := ⟨_, Try.underlying209, rfl⟩
instance : Sz Try.prog 210 (.nilFunc) 1 8 := ⟨by kernel_rfl⟩
instance : ZeroC Try.prog 210 [.nilFunc] := ⟨zeroC_of (z := .nilFunc) (by kernel_rfl) rfl⟩
instance : Scalar Try.prog 210 := ⟨_, Try.underlying210, rfl⟩
instance : Sz Try.prog 211 (.nilFunc) 1 8 := ⟨by kernel_rfl⟩
instance : ZeroC Try.prog 211 [.nilFunc] := ⟨zeroC_of (z := .nilFunc) (by kernel_rfl) rfl⟩
instance : Scalar Try.prog 211 := ⟨_, Try.underlying211, rfl⟩
instance : Sz Try.prog 212 (.nilFunc) 1 8 := ⟨by kernel_rfl⟩
instance : ZeroC Try.prog 212 [.nilFunc] := ⟨zeroC_of (z := .nilFunc) (by kernel_rfl) rfl⟩
instance : Scalar Try.prog 212 := ⟨_, Try.underlying212, rfl⟩
instance : Sz Try.prog 213 (.nilFunc) 1 8 := ⟨by kernel_rfl⟩
instance : ZeroC Try.prog 213 [.nilFunc] := ⟨zeroC_of (z := .nilFunc) (by kernel_rfl) rfl⟩
instance : Scalar Try.prog 213 := ⟨_, Try.underlying213, rfl⟩
instance : Sz Try.prog 214 (.nilFunc) 1 8 := ⟨by kernel_rfl⟩
instance : ZeroC Try.prog 214 [.nilFunc] := ⟨zeroC_of (z := .nilFunc) (by kernel_rfl) rfl⟩
instance : Scalar Try.prog 214 := ⟨_, Try.underlying214, rfl⟩
instance : Sz Try.prog 215 (.agg #[.slice none 0 0, .int .i64 0, .int .i64 0]) 3 40 := ⟨by kernel_rfl⟩
instance : ZeroC Try.prog 215 [.slice none 0 0, .int .i64 0, .int .i64 0] := ⟨zeroC_of (z := .agg #[.slice none 0 0, .int .i64 0, .int .i64 0]) (by kernel_rfl) rfl⟩
instance : Parts Try.prog 215 [(0, 1), (1, 1), (2, 1)] := ⟨.inl ⟨_, Try.underlying215, by kernel_rfl, by kernel_rfl⟩⟩
instance : Aggr Try.prog 215 3 := ⟨⟨_, Try.underlying215, rfl⟩, by kernel_rfl⟩
instance : Fld Try.prog 215 0 0 := ⟨fld_of (by kernel_rfl)⟩
instance : Fld Try.prog 215 1 1 := ⟨fld_of (by kernel_rfl)⟩
instance : Fld Try.prog 215 2 2 := ⟨fld_of (by kernel_rfl)⟩
instance : Sz Try.prog 216 (.agg #[.slice none 0 0, .int .i64 0, .int .i64 0]) 3 40 := ⟨by kernel_rfl⟩
instance : ZeroC Try.prog 216 [.slice none 0 0, .int .i64 0, .int .i64 0] := ⟨zeroC_of (z := .agg #[.slice none 0 0, .int .i64 0, .int .i64 0]) (by kernel_rfl) rfl⟩
instance : Parts Try.prog 216 [(0, 1), (1, 1), (2, 1)] := ⟨.inl ⟨_, Try.underlying216, by kernel_rfl, by kernel_rfl⟩⟩
instance : Aggr Try.prog 216 3 := ⟨⟨_, Try.underlying216, rfl⟩, by kernel_rfl⟩
instance : Fld Try.prog 216 0 0 := ⟨fld_of (by kernel_rfl)⟩
instance : Fld Try.prog 216 1 1 := ⟨fld_of (by kernel_rfl)⟩
instance : Fld Try.prog 216 2 2 := ⟨fld_of (by kernel_rfl)⟩
instance : Sz Try.prog 217 (.int .u64 0) 1 8 := ⟨by kernel_rfl⟩
instance : ZeroC Try.prog 217 [.int .u64 0] := ⟨zeroC_of (z := .int .u64 0) (by kernel_rfl) rfl⟩
instance : Scalar Try.prog 217 := ⟨_, Try.underlying217, rfl⟩
instance : Sz Try.prog 218 (.nilFunc) 1 8 := ⟨by kernel_rfl⟩
instance : ZeroC Try.prog 218 [.nilFunc] := ⟨zeroC_of (z := .nilFunc) (by kernel_rfl) rfl⟩
instance : Scalar Try.prog 218 := ⟨_, Try.underlying218, rfl⟩
instance : Sz Try.prog 219 (.nilFunc) 1 8 := ⟨by kernel_rfl⟩
instance : ZeroC Try.prog 219 [.nilFunc] := ⟨zeroC_of (z := .nilFunc) (by kernel_rfl) rfl⟩
instance : Scalar Try.prog 219 := ⟨_, Try.underlying219, rfl⟩
instance : Sz Try.prog 220 (.nilFunc) 1 8 := ⟨by kernel_rfl⟩
instance : ZeroC Try.prog 220 [.nilFunc] := ⟨zeroC_of (z := .nilFunc) (by kernel_rfl) rfl⟩
instance : Scalar Try.prog 220 := ⟨_, Try.underlying220, rfl⟩
instance : Sz Try.prog 221 (.nilFunc) 1 8 := ⟨by kernel_rfl⟩
instance : ZeroC Try.prog 221 [.nilFunc] := ⟨zeroC_of (z := .nilFunc) (by kernel_rfl) rfl⟩
instance : Scalar Try.prog 221 := ⟨_, Try.underlying221, rfl⟩
instance : Sz Try.prog 222 (.nilFunc) 1 8 := ⟨by kernel_rfl⟩
instance : ZeroC Try.prog 222 [.nilFunc] := ⟨zeroC_of (z := .nilFunc) (by kernel_rfl) rfl⟩
instance : Scalar Try.prog 222 := ⟨_, Try.underlying222, rfl⟩
instance : Sz Try.prog 223 (.nilFunc) 1 8 := ⟨by kernel_rfl⟩
instance : ZeroC Try.prog 223 [.nilFunc] := ⟨zeroC_of (z := .nilFunc) (by kernel_rfl) rfl⟩
instance : Scalar Try.prog 223 := ⟨_, Try.underlying223, rfl⟩
instance : Sz Try.prog 224 (.nilFunc) 1 8 := ⟨by kernel_rfl⟩
instance : ZeroC Try.prog 224 [.nilFunc] := ⟨zeroC_of (z := .nilFunc) (by kernel_rfl) rfl⟩
instance : Scalar Try.prog 224 := ⟨_, Try.underlying224, rfl⟩
instance : Sz Try.prog 225 (.agg #[.int .i64 0, .string ⟨#[]⟩, .int .i64 0]) 3 32 := ⟨by kernel_rfl⟩
instance : ZeroC Try.prog 225 [.int .i64 0, .string ⟨#[]⟩, .int .i64 0] := ⟨zeroC_of (z := .agg #[.int .i64 0, .string ⟨#[]⟩, .int .i64 0]) (by kernel_rfl) rfl⟩
instance : Parts Try.prog 225 [(0, 1), (1, 1), (2, 1)] := ⟨.inl ⟨_, Try.underlying225, by kernel_rfl, by kernel_rfl⟩⟩
instance : Aggr Try.prog 225 3 := ⟨⟨_, Try.underlying225, rfl⟩, by kernel_rfl⟩
instance : Fld Try.prog 225 0 0 := ⟨fld_of (by kernel_rfl)⟩
instance : Fld Try.prog 225 1 1 := ⟨fld_of (by kernel_rfl)⟩
instance : Fld Try.prog 225 2 2 := ⟨fld_of (by kernel_rfl)⟩
instance : Sz Try.prog 226 (.nilFunc) 1 8 := ⟨by kernel_rfl⟩
instance : ZeroC Try.prog 226 [.nilFunc] := ⟨zeroC_of (z := .nilFunc) (by kernel_rfl) rfl⟩
instance : Scalar Try.prog 226 := ⟨_, Try.underlying226, rfl⟩
instance : Sz Try.prog 227 (.nilFunc) 1 8 := ⟨by kernel_rfl⟩
instance : ZeroC Try.prog 227 [.nilFunc] := ⟨zeroC_of (z := .nilFunc) (by kernel_rfl) rfl⟩
instance : Scalar Try.prog 227 := ⟨_, Try.underlying227, rfl⟩
instance : Sz Try.prog 228 (.nilFunc) 1 8 := ⟨by kernel_rfl⟩
instance : ZeroC Try.prog 228 [.nilFunc] := ⟨zeroC_of (z := .nilFunc) (by kernel_rfl) rfl⟩
instance : Scalar Try.prog 228 := ⟨_, Try.underlying228, rfl⟩
instance : Sz Try.prog 229 (.nilFunc) 1 8 := ⟨by kernel_rfl⟩
instance : ZeroC Try.prog 229 [.nilFunc] := ⟨zeroC_of (z := .nilFunc) (by kernel_rfl) rfl⟩
instance : Scalar Try.prog 229 := ⟨_, Try.underlying229, rfl⟩
instance : Sz Try.prog 230 (.nilFunc) 1 8 := ⟨by kernel_rfl⟩
instance : ZeroC Try.prog 230 [.nilFunc] := ⟨zeroC_of (z := .nilFunc) (by kernel_rfl) rfl⟩
instance : Scalar Try.prog 230 := ⟨_, Try.underlying230, rfl⟩
instance : Sz Try.prog 231 (.agg #[.int .i64 0, .int .i64 0, .int .i64 0]) 3 24 := ⟨by kernel_rfl⟩
instance : ZeroC Try.prog 231 [.int .i64 0, .int .i64 0, .int .i64 0] := ⟨zeroC_of (z := .agg #[.int .i64 0, .int .i64 0, .int .i64 0]) (by kernel_rfl) rfl⟩
instance : Parts Try.prog 231 [(0, 3)] := ⟨.inl ⟨_, Try.underlying231, by kernel_rfl, by kernel_rfl⟩⟩
instance : Aggr Try.prog 231 3 := ⟨⟨_, Try.underlying231, rfl⟩, by kernel_rfl⟩
instance : Fld Try.prog 231 0 0 := ⟨fld_of (by kernel_rfl)⟩
instance : Sz Try.prog 232 (.agg #[.int .i64 0, .int .i64 0, .int .i64 0]) 3 24 := ⟨by kernel_rfl⟩
instance : ZeroC Try.prog 232 [.int .i64 0, .int .i64 0, .int .i64 0] := ⟨zeroC_of (z := .agg #[.int .i64 0, .int .i64 0, .int .i64 0]) (by kernel_rfl) rfl⟩
instance : Parts Try.prog 232 [(0, 3)] := ⟨.inl ⟨_, Try.underlying232, by kernel_rfl, by kernel_rfl⟩⟩
instance : Aggr Try.prog 232 3 := ⟨⟨_, Try.underlying232, rfl⟩, by kernel_rfl⟩
instance : Fld Try.prog 232 0 0 := ⟨fld_of (by kernel_rfl)⟩
instance : Sz Try.prog 234 (.nilFunc) 1 8 := ⟨by kernel_rfl⟩
instance : ZeroC Try.prog 234 [.nilFunc] := ⟨zeroC_of (z := .nilFunc) (by kernel_rfl) rfl⟩
instance : Scalar Try.prog 234 := ⟨_, Try.underlying234, rfl⟩
instance : Sz Try.prog 235 (.nilFunc) 1 8 := ⟨by kernel_rfl⟩
instance : ZeroC Try.prog 235 [.nilFunc] := ⟨zeroC_of (z := .nilFunc) (by kernel_rfl) rfl⟩
instance : Scalar Try.prog 235 := ⟨_, Try.underlying235, rfl⟩
instance : Sz Try.prog 236 (.nilFunc) 1 8 := ⟨by kernel_rfl⟩
instance : ZeroC Try.prog 236 [.nilFunc] := ⟨zeroC_of (z := .nilFunc) (by kernel_rfl) rfl⟩
instance : Scalar Try.prog 236 := ⟨_, Try.underlying236, rfl⟩
instance : Sz Try.prog 237 (.agg #[.int .i64 0, .int .i64 0, .int .i64 0, .int .i64 0, .int .i64 0]) 5 40 := ⟨by kernel_rfl⟩
instance : ZeroC Try.prog 237 [.int .i64 0, .int .i64 0, .int .i64 0, .int .i64 0, .int .i64 0] := ⟨zeroC_of (z := .agg #[.int .i64 0, .int .i64 0, .int .i64 0, .int .i64 0, .int .i64 0]) (by kernel_rfl) rfl⟩
instance : Parts Try.prog 237 [(0, 1), (1, 1), (2, 1), (3, 1), (4, 1)] := ⟨.inl ⟨_, Try.underlying237, by kernel_rfl, by kernel_rfl⟩⟩
instance : Aggr Try.prog 237 5 := ⟨⟨_, Try.underlying237, rfl⟩, by kernel_rfl⟩
instance : Fld Try.prog 237 0 0 := ⟨fld_of (by kernel_rfl)⟩
instance : Fld Try.prog 237 1 1 := ⟨fld_of (by kernel_rfl)⟩
instance : Fld Try.prog 237 2 2 := ⟨fld_of (by kernel_rfl)⟩
instance : Fld Try.prog 237 3 3 := ⟨fld_of (by kernel_rfl)⟩
instance : Fld Try.prog 237 4 4 := ⟨fld_of (by kernel_rfl)⟩
instance : Sz Try.prog 238 (.nilFunc) 1 8 := ⟨by kernel_rfl⟩
instance : ZeroC Try.prog 238 [.nilFunc] := ⟨zeroC_of (z := .nilFunc) (by kernel_rfl) rfl⟩
instance : Scalar Try.prog 238 := ⟨_, Try.underlying238, rfl⟩
instance : Sz Try.prog 239 (.nilFunc) 1 8 := ⟨by kernel_rfl⟩
instance : ZeroC Try.prog 239 [.nilFunc] := ⟨zeroC_of (z := .nilFunc) (by kernel_rfl) rfl⟩
instance : Scalar Try.prog 239 := ⟨_, Try.underlying239, rfl⟩
instance : Sz Try.prog 240 (.nilFunc) 1 8 := ⟨by kernel_rfl⟩
instance : ZeroC Try.prog 240 [.nilFunc] := ⟨zeroC_of (z := .nilFunc) (by kernel_rfl) rfl⟩
instance : Scalar Try.prog 240 := ⟨_, Try.underlying240, rfl⟩
instance : Sz Try.prog 241 (.nilFunc) 1 8 := ⟨by kernel_rfl⟩
instance : ZeroC Try.prog 241 [.nilFunc] := ⟨zeroC_of (z := .nilFunc) (by kernel_rfl) rfl⟩
instance : Scalar Try.prog 241 := ⟨_, Try.underlying241, rfl⟩
instance : Sz Try.prog 242 (.nilFunc) 1 8 := ⟨by kernel_rfl⟩
instance : ZeroC Try.prog 242 [.nilFunc] := ⟨zeroC_of (z := .nilFunc) (by kernel_rfl) rfl⟩
instance : Scalar Try.prog 242 := ⟨_, Try.underlying242, rfl⟩
instance : Sz Try.prog 243 (.slice none 0 0) 1 24 := ⟨by kernel_rfl⟩
instance : ZeroC Try.prog 243 [.slice none 0 0] := ⟨zeroC_of (z := .slice none 0 0) (by kernel_rfl) rfl⟩
instance : Scalar Try.prog 243 := ⟨_, Try.underlying243, rfl⟩
instance : SliceT Try.prog 243 75 := ⟨Try.underlying243⟩
instance : Sz Try.prog 244 (.nilFunc) 1 8 := ⟨by kernel_rfl⟩
instance : ZeroC Try.prog 244 [.nilFunc] := ⟨zeroC_of (z := .nilFunc) (by kernel_rfl) rfl⟩
instance : Scalar Try.prog 244 := ⟨_, Try.underlying244, rfl⟩
instance : Sz Try.prog 245 (.nilFunc) 1 8 := ⟨by kernel_rfl⟩
instance : ZeroC Try.prog 245 [.nilFunc] := ⟨zeroC_of (z := .nilFunc) (by kernel_rfl) rfl⟩
instance : Scalar Try.prog 245 := ⟨_, Try.underlying245, rfl⟩
instance : Sz Try.prog 246 (.agg #[.int .i64 0, .int .i64 0, .int .i64 0, .int .i64 0]) 4 32 := ⟨by kernel_rfl⟩
instance : ZeroC Try.prog 246 [.int .i64 0, .int .i64 0, .int .i64 0, .int .i64 0] := ⟨zeroC_of (z := .agg #[.int .i64 0, .int .i64 0, .int .i64 0, .int .i64 0]) (by kernel_rfl) rfl⟩
instance : Parts Try.prog 246 [(0, 1), (1, 1), (2, 1), (3, 1)] := ⟨.inr ⟨_, _, Try.underlying246, by kernel_rfl, by kernel_rfl⟩⟩
instance : Aggr Try.prog 246 4 := ⟨⟨_, Try.underlying246, rfl⟩, by kernel_rfl⟩
instance : ArrT Try.prog 246 4 3 := ⟨Try.underlying246⟩
instance : Sz Try.prog 247 (.nilFunc) 1 8 := ⟨by kernel_rfl⟩
instance : ZeroC Try.prog 247 [.nilFunc] := ⟨zeroC_of (z := .nilFunc) (by kernel_rfl) rfl⟩
instance : Scalar Try.prog 247 := ⟨_, Try.underlying247, rfl⟩
instance : Sz Try.prog 248 (.nilFunc) 1 8 := ⟨by kernel_rfl⟩
instance : ZeroC Try.prog 248 [.nilFunc] := ⟨zeroC_of (z := .nilFunc) (by kernel_rfl) rfl⟩
instance : Scalar Try.prog 248 := ⟨_, Try.underlying248, rfl⟩
instance : Sz Try.prog 249 (.slice none 0 0) 1 24 := ⟨by kernel_rfl⟩
instance : ZeroC Try.prog 249 [.slice none 0 0] := ⟨zeroC_of (z := .slice none 0 0) (by kernel_rfl) rfl⟩
instance : Scalar Try.prog 249 := ⟨_, Try.underlying249, rfl⟩
instance : SliceT Try.prog 249 271 := ⟨Try.underlying249⟩
instance : Sz Try.prog 250 (.slice none 0 0) 1 24 := ⟨by kernel_rfl⟩
instance : ZeroC Try.prog 250 [.slice none 0 0] := ⟨zeroC_of (z := .slice none 0 0) (by kernel_rfl) rfl⟩
instance : Scalar Try.prog 250 := ⟨_, Try.underlying250, rfl⟩
instance : SliceT Try.prog 250 273 := ⟨Try.underlying250⟩
instance : Sz Try.prog 251 (.agg #[.slice none 0 0, .slice none 0 0]) 2 48 := ⟨by kernel_rfl⟩
instance : ZeroC Try.prog 251 [.slice none 0 0, .slice none 0 0] := ⟨zeroC_of (z := .agg #[.slice none 0 0, .slice none 0 0]) (by kernel_rfl) rfl⟩
instance : Parts Try.prog 251 [(0, 1), (1, 1)] := ⟨.inl ⟨_, Try.underlying251, by kernel_rfl, by kernel_rfl⟩⟩
instance : Aggr Try.prog 251 2 := ⟨⟨_, Try.underlying251, rfl⟩, by kernel_rfl⟩
instance : Fld Try.prog 251 0 0 := ⟨fld_of (by kernel_rfl)⟩
instance : Fld Try.prog 251 1 1 := ⟨fld_of (by kernel_rfl)⟩
instance : Sz Try.prog 252 (.agg #[.slice none 0 0, .slice none 0 0]) 2 48 := ⟨by kernel_rfl⟩
instance : ZeroC Try.prog 252 [.slice none 0 0, .slice none 0 0] := ⟨zeroC_of (z := .agg #[.slice none 0 0, .slice none 0 0]) (by kernel_rfl) rfl⟩
instance : Parts Try.prog 252 [(0, 1), (1, 1)] := ⟨.inl ⟨_, Try.underlying252, by kernel_rfl, by kernel_rfl⟩⟩
instance : Aggr Try.prog 252 2 := ⟨⟨_, Try.underlying252, rfl⟩, by kernel_rfl⟩
instance : Fld Try.prog 252 0 0 := ⟨fld_of (by kernel_rfl)⟩
instance : Fld Try.prog 252 1 1 := ⟨fld_of (by kernel_rfl)⟩
instance : Sz Try.prog 253 (.agg #[.int .i64 0, .string ⟨#[]⟩, .int .i64 0, .slice none 0 0]) 4 56 := ⟨by kernel_rfl⟩
instance : ZeroC Try.prog 253 [.int .i64 0, .string ⟨#[]⟩, .int .i64 0, .slice none 0 0] := ⟨zeroC_of (z := .agg #[.int .i64 0, .string ⟨#[]⟩, .int .i64 0, .slice none 0 0]) (by kernel_rfl) rfl⟩
instance : Parts Try.prog 253 [(0, 1), (1, 1), (2, 1), (3, 1)] := ⟨.inl ⟨_, Try.underlying253, by kernel_rfl, by kernel_rfl⟩⟩
instance : Aggr Try.prog 253 4 := ⟨⟨_, Try.underlying253, rfl⟩, by kernel_rfl⟩
instance : Fld Try.prog 253 0 0 := ⟨fld_of (by kernel_rfl)⟩
instance : Fld Try.prog 253 1 1 := ⟨fld_of (by kernel_rfl)⟩
instance : Fld Try.prog 253 2 2 := ⟨fld_of (by kernel_rfl)⟩
instance : Fld Try.prog 253 3 3 := ⟨fld_of (by kernel_rfl)⟩
instance : Sz Try.prog 254 (.agg #[.int .i64 0, .string ⟨#[]⟩, .int .i64 0, .slice none 0 0]) 4 56 := ⟨by kernel_rfl⟩
instance : ZeroC Try.prog 254 [.int .i64 0, .string ⟨#[]⟩, .int .i64 0, .slice none 0 0] := ⟨zeroC_of (z := .agg #[.int .i64 0, .string ⟨#[]⟩, .int .i64 0, .slice none 0 0]) (by kernel_rfl) rfl⟩
instance : Parts Try.prog 254 [(0, 1), (1, 1), (2, 1), (3, 1)] := ⟨.inl ⟨_, Try.underlying254, by kernel_rfl, by kernel_rfl⟩⟩
instance : Aggr Try.prog 254 4 := ⟨⟨_, Try.underlying254, rfl⟩, by kernel_rfl⟩
instance : Fld Try.prog 254 0 0 := ⟨fld_of (by kernel_rfl)⟩
instance : Fld Try.prog 254 1 1 := ⟨fld_of (by kernel_rfl)⟩
instance : Fld Try.prog 254 2 2 := ⟨fld_of (by kernel_rfl)⟩
instance : Fld Try.prog 254 3 3 := ⟨fld_of (by kernel_rfl)⟩
instance : Sz Try.prog 255 (.agg #[.string ⟨#[]⟩, .int .i64 0]) 2 24 := ⟨by kernel_rfl⟩
instance : ZeroC Try.prog 255 [.string ⟨#[]⟩, .int .i64 0] := ⟨zeroC_of (z := .agg #[.string ⟨#[]⟩, .int .i64 0]) (by kernel_rfl) rfl⟩
instance : Parts Try.prog 255 [(0, 1), (1, 1)] := ⟨.inl ⟨_, Try.underlying255, by kernel_rfl, by kernel_rfl⟩⟩
instance : Aggr Try.prog 255 2 := ⟨⟨_, Try.underlying255, rfl⟩, by kernel_rfl⟩
instance : Fld Try.prog 255 0 0 := ⟨fld_of (by kernel_rfl)⟩
instance : Fld Try.prog 255 1 1 := ⟨fld_of (by kernel_rfl)⟩
instance : Sz Try.prog 256 (.agg #[.string ⟨#[]⟩, .int .i64 0]) 2 24 := ⟨by kernel_rfl⟩
instance : ZeroC Try.prog 256 [.string ⟨#[]⟩, .int .i64 0] := ⟨zeroC_of (z := .agg #[.string ⟨#[]⟩, .int .i64 0]) (by kernel_rfl) rfl⟩
instance : Parts Try.prog 256 [(0, 1), (1, 1)] := ⟨.inl ⟨_, Try.underlying256, by kernel_rfl, by kernel_rfl⟩⟩
instance : Aggr Try.prog 256 2 := ⟨⟨_, Try.underlying256, rfl⟩, by kernel_rfl⟩
instance : Fld Try.prog 256 0 0 := ⟨fld_of (by kernel_rfl)⟩
instance : Fld Try.prog 256 1 1 := ⟨fld_of (by kernel_rfl)⟩
instance : Sz Try.prog 257 (.nilFunc) 1 8 := ⟨by kernel_rfl⟩
instance : ZeroC Try.prog 257 [.nilFunc] := ⟨zeroC_of (z := .nilFunc) (by kernel_rfl) rfl⟩
instance : Scalar Try.prog 257 := ⟨_, Try.underlying257, rfl⟩
instance : Sz Try.prog 258 (.nilFunc) 1 8 := ⟨by kernel_rfl⟩
instance : ZeroC Try.prog 258 [.nilFunc] := ⟨zeroC_of (z := .nilFunc) (by kernel_rfl) rfl⟩
instance : Scalar Try.prog 258 := ⟨_, Try.underlying258, rfl⟩
instance : Sz Try.prog 259 (.nilFunc) 1 8 := ⟨by kernel_rfl⟩
instance : ZeroC Try.prog 259 [.nilFunc] := ⟨zeroC_of (z := .nilFunc) (by kernel_rfl) rfl⟩
instance : Scalar Try.prog 259 := ⟨_, Try.underlying259, rfl⟩
instance : Sz Try.prog 260 (.nilFunc) 1 8 := ⟨by kernel_rfl⟩
instance : ZeroC Try.prog 260 [.nilFunc] := ⟨zeroC_of (z := .nilFunc) (by kernel_rfl) rfl⟩
instance : Scalar Try.prog 260 := ⟨_, Try.underlying260, rfl⟩
instance : Sz Try.prog 261 (.nilFunc) 1 8 := ⟨by kernel_rfl⟩
instance : ZeroC Try.prog 261 [.nilFunc] := ⟨zeroC_of (z := .nilFunc) (by kernel_rfl) rfl⟩
instance : Scalar Try.prog 261 := ⟨_, Try.underlying261, rfl⟩
instance : Sz Try.prog 262 (.nilFunc) 1 8 := ⟨by kernel_rfl⟩
instance : ZeroC Try.prog 262 [.nilFunc] := ⟨zeroC_of (z := .nilFunc) (by kernel_rfl) rfl⟩
instance : Scalar Try.prog 262 := ⟨_, Try.underlying262, rfl⟩
instance : Sz Try.prog 263 (.nilFunc) 1 8 := ⟨by kernel_rfl⟩
instance : ZeroC Try.prog 263 [.nilFunc] := ⟨zeroC_of (z := .nilFunc) (by kernel_rfl) rfl⟩
instance : Scalar Try.prog 263 := ⟨_, Try.underlying263, rfl⟩
instance : Sz Try.prog 264 (.nilFunc) 1 8 := ⟨by kernel_rfl⟩
instance : ZeroC Try.prog 264 [.nilFunc] := ⟨zeroC_of (z := .nilFunc) (by kernel_rfl) rfl⟩
instance : Scalar Try.prog 264 := ⟨_, Try.underlying264, rfl⟩
instance : Sz Try.prog 265 (.nilFunc) 1 8 := ⟨by kernel_rfl⟩
instance : ZeroC Try.prog 265 [.nilFunc] := ⟨zeroC_of (z := .nilFunc) (by kernel_rfl) rfl⟩
instance : Scalar Try.prog 265 := ⟨_, Try.underlying265, rfl⟩
instance : Sz Try.prog 266 (.nilFunc) 1 8 := ⟨by kernel_rfl⟩
instance : ZeroC Try.prog 266 [.nilFunc] := ⟨zeroC_of (z := .nilFunc) (by kernel_rfl) rfl⟩
instance : Scalar Try.prog 266 := ⟨_, Try.underlying266, rfl⟩
instance : Sz Try.prog 267 (.nilFunc) 1 8 := ⟨by kernel_rfl⟩
instance : ZeroC Try.prog 267 [.nilFunc] := ⟨zeroC_of (z := .nilFunc) (by kernel_rfl) rfl⟩
instance : Scalar Try.prog 267 := ⟨_, Try.underlying267, rfl⟩
instance : Sz Try.prog 268 (.nilFunc) 1 8 := ⟨by kernel_rfl⟩
instance : ZeroC Try.prog 268 [.nilFunc] := ⟨zeroC_of (z := .nilFunc) (by kernel_rfl) rfl⟩
instance : Scalar Try.prog 268 := ⟨_, Try.underlying268, rfl⟩
instance : Sz Try.prog 269 (.nilFunc) 1 8 := ⟨by kernel_rfl⟩
instance : ZeroC Try.prog 269 [.nilFunc] := ⟨zeroC_of (z := .nilFunc) (by kernel_rfl) rfl⟩
instance : Scalar Try.prog 269 := ⟨_, Try.underlying269, rfl⟩
instance : Sz Try.prog 270 (.nilFunc) 1 8 := ⟨by kernel_rfl⟩
instance : ZeroC Try.prog 270 [.nilFunc] := ⟨zeroC_of (z := .nilFunc) (by kernel_rfl) rfl⟩
instance : Scalar Try.prog 270 := ⟨_, Try.underlying270, rfl⟩
instance : Sz Try.prog 271 (.agg #[.int .i64 0, .string ⟨#[]⟩, .int .i64 0, .slice none 0 0]) 4 56 := ⟨by kernel_rfl⟩
instance : ZeroC Try.prog 271 [.int .i64 0, .string ⟨#[]⟩, .int .i64 0, .slice none 0 0] := ⟨zeroC_of (z := .agg #[.int .i64 0, .string ⟨#[]⟩, .int .i64 0, .slice none 0 0]) (by kernel_rfl) rfl⟩
instance : Parts Try.prog 271 [(0, 1), (1, 1), (2, 1), (3, 1)] := ⟨.inl ⟨_, Try.underlying271, by kernel_rfl, by kernel_rfl⟩⟩
instance : Aggr Try.prog 271 4 := ⟨⟨_, Try.underlying271, rfl⟩, by kernel_rfl⟩
instance : Fld Try.prog 271 0 0 := ⟨fld_of (by kernel_rfl)⟩
instance : Fld Try.prog 271 1 1 := ⟨fld_of (by kernel_rfl)⟩
instance : Fld Try.prog 271 2 2 := ⟨fld_of (by kernel_rfl)⟩
instance : Fld Try.prog 271 3 3 := ⟨fld_of (by kernel_rfl)⟩
instance : Sz Try.prog 272 (.nilFunc) 1 8 := ⟨by kernel_rfl⟩
instance : ZeroC Try.prog 272 [.nilFunc] := ⟨zeroC_of (z := .nilFunc) (by kernel_rfl) rfl⟩
instance : Scalar Try.prog 272 := ⟨_, Try.underlying272, rfl⟩
instance : Sz Try.prog 273 (.agg #[.string ⟨#[]⟩, .int .i64 0]) 2 24 := ⟨by kernel_rfl⟩
instance : ZeroC Try.prog 273 [.string ⟨#[]⟩, .int .i64 0] := ⟨zeroC_of (z := .agg #[.string ⟨#[]⟩, .int .i64 0]) (by kernel_rfl) rfl⟩
instance : Parts Try.prog 273 [(0, 1), (1, 1)] := ⟨.inl ⟨_, Try.underlying273, by kernel_rfl, by kernel_rfl⟩⟩
instance : Aggr Try.prog 273 2 := ⟨⟨_, Try.underlying273, rfl⟩, by kernel_rfl⟩
instance : Fld Try.prog 273 0 0 := ⟨fld_of (by kernel_rfl)⟩
instance : Fld Try.prog 273 1 1 := ⟨fld_of (by kernel_rfl)⟩
instance : Sz Try.prog 274 (.nilFunc) 1 8 := ⟨by kernel_rfl⟩
instance : ZeroC Try.prog 274 [.nilFunc] := ⟨zeroC_of (z := .nilFunc) (by kernel_rfl) rfl⟩
instance : Scalar Try.prog 274 := ⟨_, Try.underlying274, rfl⟩
instance : Sz Try.prog 275 (.nilFunc) 1 8 := ⟨by kernel_rfl⟩
instance : ZeroC Try.prog 275 [.nilFunc] := ⟨zeroC_of (z := .nilFunc) (by kernel_rfl) rfl⟩
instance : Scalar Try.prog 275 := ⟨_, Try.underlying275, rfl⟩
instance : Sz Try.prog 276 (.nilFunc) 1 8 := ⟨by kernel_rfl⟩
instance : ZeroC Try.prog 276 [.nilFunc] := ⟨zeroC_of (z := .nilFunc) (by kernel_rfl) rfl⟩
instance : Scalar Try.prog 276 := ⟨_, Try.underlying276, rfl⟩
instance : Sz Try.prog 277 (.nilFunc) 1 8 := ⟨by kernel_rfl⟩
instance : ZeroC Try.prog 277 [.nilFunc] := ⟨zeroC_of (z := .nilFunc) (by kernel_rfl) rfl⟩
instance : Scalar Try.prog 277 := ⟨_, Try.underlying277, rfl⟩
instance : Sz Try.prog 278 (.nilFunc) 1 8 := ⟨by kernel_rfl⟩
instance : ZeroC Try.prog 278 [.nilFunc] := ⟨zeroC_of (z := .nilFunc) (by kernel_rfl) rfl⟩
instance : Scalar Try.prog 278 := ⟨_, Try.underlying278, rfl⟩
instance : Sz Try.prog 279 (.agg #[.pointer none, .pointer none, .pointer none, .string ⟨#[]⟩]) 4 40 := ⟨by kernel_rfl⟩
instance : ZeroC Try.prog 279 [.pointer none, .pointer none, .pointer none, .string ⟨#[]⟩] := ⟨zeroC_of (z := .agg #[.pointer none, .pointer none, .pointer none, .string ⟨#[]⟩]) (by kernel_rfl) rfl⟩
instance : Parts Try.prog 279 [(0, 1), (1, 1), (2, 1), (3, 1)] := ⟨.inl ⟨_, Try.underlying279, by kernel_rfl, by kernel_rfl⟩⟩
instance : Aggr Try.prog 279 4 := ⟨⟨_, Try.underlying279, rfl⟩, by kernel_rfl⟩
instance : Fld Try.prog 279 0 0 := ⟨fld_of (by kernel_rfl)⟩
instance : Fld Try.prog 279 1 1 := ⟨fld_of (by kernel_rfl)⟩
instance : Fld Try.prog 279 2 2 := ⟨fld_of (by kernel_rfl)⟩
instance : Fld Try.prog 279 3 3 := ⟨fld_of (by kernel_rfl)⟩
instance : Sz Try.prog 280 (.agg #[.pointer none, .pointer none, .pointer none, .string ⟨#[]⟩]) 4 40 := ⟨by kernel_rfl⟩
instance : ZeroC Try.prog 280 [.pointer none, .pointer none, .pointer none, .string ⟨#[]⟩] := ⟨zeroC_of (z := .agg #[.pointer none, .pointer none, .pointer none, .string ⟨#[]⟩]) (by kernel_rfl) rfl⟩
instance : Parts Try.prog 280 [(0, 1), (1, 1), (2, 1), (3, 1)] := ⟨.inl ⟨_, Try.underlying280, by kernel_rfl, by kernel_rfl⟩⟩
instance : Aggr Try.prog 280 4 := ⟨⟨_, Try.underlying280, rfl⟩, by kernel_rfl⟩
instance : Fld Try.prog 280 0 0 := ⟨fld_of (by kernel_rfl)⟩
instance : Fld Try.prog 280 1 1 := ⟨fld_of (by kernel_rfl)⟩
instance : Fld Try.prog 280 2 2 := ⟨fld_of (by kernel_rfl)⟩
instance : Fld Try.prog 280 3 3 := ⟨fld_of (by kernel_rfl)⟩
instance : Sz Try.prog 281 (.agg #[]) 0 0 := ⟨by kernel_rfl⟩
instance : ZeroC Try.prog 281 [] := ⟨zeroC_of (z := .agg #[]) (by kernel_rfl) rfl⟩
instance : Parts Try.prog 281 [] := ⟨.inr ⟨_, _, Try.underlying281, by kernel_rfl, by kernel_rfl⟩⟩
instance : Aggr Try.prog 281 0 := ⟨⟨_, Try.underlying281, rfl⟩, by kernel_rfl⟩
instance : ArrT Try.prog 281 0 16 := ⟨Try.underlying281⟩
instance : Sz Try.prog 282 (.agg #[]) 0 0 := ⟨by kernel_rfl⟩
instance : ZeroC Try.prog 282 [] := ⟨zeroC_of (z := .agg #[]) (by kernel_rfl) rfl⟩
instance : Parts Try.prog 282 [(0, 0)] := ⟨.inl ⟨_, Try.underlying282, by kernel_rfl, by kernel_rfl⟩⟩
instance : Aggr Try.prog 282 0 := ⟨⟨_, Try.underlying282, rfl⟩, by kernel_rfl⟩
instance : Sz Try.prog 283 (.agg #[]) 0 0 := ⟨by kernel_rfl⟩
instance : ZeroC Try.prog 283 [] := ⟨zeroC_of (z := .agg #[]) (by kernel_rfl) rfl⟩
instance : Parts Try.prog 283 [(0, 0)] := ⟨.inl ⟨_, Try.underlying283, by kernel_rfl, by kernel_rfl⟩⟩
instance : Aggr Try.prog 283 0 := ⟨⟨_, Try.underlying283, rfl⟩, by kernel_rfl⟩
instance : Sz Try.prog 284 (.int .u32 0) 1 4 := ⟨by kernel_rfl⟩
instance : ZeroC Try.prog 284 [.int .u32 0] := ⟨zeroC_of (z := .int .u32 0) (by kernel_rfl) rfl⟩
instance : Scalar Try.prog 284 := ⟨_, Try.underlying284, rfl⟩
instance : Sz Try.prog 285 (.int .u8 0) 1 1 := ⟨by kernel_rfl⟩
instance : ZeroC Try.prog 285 [.int .u8 0] := ⟨zeroC_of (z := .int .u8 0) (by kernel_rfl) rfl⟩
instance : Scalar Try.prog 285 := ⟨_, Try.underlying285, rfl⟩
instance : Sz Try.prog 286 (.int .u8 0) 1 1 := ⟨by kernel_rfl⟩
instance : ZeroC Try.prog 286 [.int .u8 0] := ⟨zeroC_of (z := .int .u8 0) (by kernel_rfl) rfl⟩
instance : Scalar Try.prog 286 := ⟨_, Try.underlying286, rfl⟩
instance : Sz Try.prog 287 (.nilFunc) 1 8 := ⟨by kernel_rfl⟩
instance : ZeroC Try.prog 287 [.nilFunc] := ⟨zeroC_of (z := .nilFunc) (by kernel_rfl) rfl⟩
instance : Scalar Try.prog 287 := ⟨_, Try.underlying287, rfl⟩
instance : Sz Try.prog 288 (.pointer none) 1 8 := ⟨by kernel_rfl⟩
instance : ZeroC Try.prog 288 [.pointer none] := ⟨zeroC_of (z := .pointer none) (by kernel_rfl) rfl⟩
instance : Scalar Try.prog 288 := ⟨_, Try.underlying288, rfl⟩
instance : Sz Try.prog 289 (.int .i32 0) 1 4 := ⟨by kernel_rfl⟩
instance : ZeroC Try.prog 289 [.int .i32 0] := ⟨zeroC_of (z := .int .i32 0) (by kernel_rfl) rfl⟩
instance : Scalar Try.prog 289 := ⟨_, Try.underlying289, rfl⟩
instance : Sz Try.prog 290 (.int .i32 0) 1 4 := ⟨by kernel_rfl⟩
instance : ZeroC Try.prog 290 [.int .i32 0] := ⟨zeroC_of (z := .int .i32 0) (by kernel_rfl) rfl⟩
instance : Scalar Try.prog 290 := ⟨_, Try.underlying290, rfl⟩
instance : Sz Try.prog 291 (.agg #[.int .u64 0, .int .u64 0, .int .u32 0, .int .u8 0, .int .u8 0, .int .u8 0, .int .u8 0, .nilFunc, .pointer none, .int .i32 0, .int .i32 0]) 11 48 := ⟨by kernel_rfl⟩
instance : ZeroC Try.prog 291 [.int .u64 0, .int .u64 0, .int .u32 0, .int .u8 0, .int .u8 0, .int .u8 0, .int .u8 0, .nilFunc, .pointer none, .int .i32 0, .int .i32 0] := ⟨zeroC_of (z := .agg #[.int .u64 0, .int .u64 0, .int .u32 0, .int .u8 0, .int .u8 0, .int .u8 0, .int .u8 0, .nilFunc, .pointer none, .int .i32 0, .int .i32 0]) (by kernel_rfl) rfl⟩
instance : Parts Try.prog 291 [(0, 1), (1, 1), (2, 1), (3, 1), (4, 1), (5, 1), (6, 1), (7, 1), (8, 1), (9, 1), (10, 1)] := ⟨.inl ⟨_, Try.underlying291, by kernel_rfl, by kernel_rfl⟩⟩
instance : Aggr Try.prog 291 11 := ⟨⟨_, Try.underlying291, rfl⟩, by kernel_rfl⟩
instance : Fld Try.prog 291 0 0 := ⟨fld_of (by kernel_rfl)⟩
instance : Fld Try.prog 291 1 1 := ⟨fld_of (by kernel_rfl)⟩
instance : Fld Try.prog 291 2 2 := ⟨fld_of (by kernel_rfl)⟩
instance : Fld Try.prog 291 3 3 := ⟨fld_of (by kernel_rfl)⟩
instance : Fld Try.prog 291 4 4 := ⟨fld_of (by kernel_rfl)⟩
instance : Fld Try.prog 291 5 5 := ⟨fld_of (by kernel_rfl)⟩
instance : Fld Try.prog 291 6 6 := ⟨fld_of (by kernel_rfl)⟩
instance : Fld Try.prog 291 7 7 := ⟨fld_of (by kernel_rfl)⟩
instance : Fld Try.prog 291 8 8 := ⟨fld_of (by kernel_rfl)⟩
instance : Fld Try.prog 291 9 9 := ⟨fld_of (by kernel_rfl)⟩
instance : Fld Try.prog 291 10 10 := ⟨fld_of (by kernel_rfl)⟩
instance : Sz Try.prog 292 (.agg #[.int .u64 0, .int .u64 0, .int .u32 0, .int .u8 0, .int .u8 0, .int .u8 0, .int .u8 0, .nilFunc, .pointer none, .int .i32 0, .int .i32 0]) 11 48 := ⟨by kernel_rfl⟩
instance : ZeroC Try.prog 292 [.int .u64 0, .int .u64 0, .int .u32 0, .int .u8 0, .int .u8 0, .int .u8 0, .int .u8 0, .nilFunc, .pointer none, .int .i32 0, .int .i32 0] := ⟨zeroC_of (z := .agg #[.int .u64 0, .int .u64 0, .int .u32 0, .int .u8 0, .int .u8 0, .int .u8 0, .int .u8 0, .nilFunc, .pointer none, .int .i32 0, .int .i32 0]) (by kernel_rfl) rfl⟩
instance : Parts Try.prog 292 [(0, 1), (1, 1), (2, 1), (3, 1), (4, 1), (5, 1), (6, 1), (7, 1), (8, 1), (9, 1), (10, 1)] := ⟨.inl ⟨_, Try.underlying292, by kernel_rfl, by kernel_rfl⟩⟩
instance : Aggr Try.prog 292 11 := ⟨⟨_, Try.underlying292, rfl⟩, by kernel_rfl⟩
instance : Fld Try.prog 292 0 0 := ⟨fld_of (by kernel_rfl)⟩
instance : Fld Try.prog 292 1 1 := ⟨fld_of (by kernel_rfl)⟩
instance : Fld Try.prog 292 2 2 := ⟨fld_of (by kernel_rfl)⟩
instance : Fld Try.prog 292 3 3 := ⟨fld_of (by kernel_rfl)⟩
instance : Fld Try.prog 292 4 4 := ⟨fld_of (by kernel_rfl)⟩
instance : Fld Try.prog 292 5 5 := ⟨fld_of (by kernel_rfl)⟩
instance : Fld Try.prog 292 6 6 := ⟨fld_of (by kernel_rfl)⟩
instance : Fld Try.prog 292 7 7 := ⟨fld_of (by kernel_rfl)⟩
instance : Fld Try.prog 292 8 8 := ⟨fld_of (by kernel_rfl)⟩
instance : Fld Try.prog 292 9 9 := ⟨fld_of (by kernel_rfl)⟩
instance : Fld Try.prog 292 10 10 := ⟨fld_of (by kernel_rfl)⟩
instance : Sz Try.prog 293 (.nilFunc) 1 8 := ⟨by kernel_rfl⟩
instance : ZeroC Try.prog 293 [.nilFunc] := ⟨zeroC_of (z := .nilFunc) (by kernel_rfl) rfl⟩
instance : Scalar Try.prog 293 := ⟨_, Try.underlying293, rfl⟩
instance : Sz Try.prog 294 (.nilFunc) 1 8 := ⟨by kernel_rfl⟩
instance : ZeroC Try.prog 294 [.nilFunc] := ⟨zeroC_of (z := .nilFunc) (by kernel_rfl) rfl⟩
instance : Scalar Try.prog 294 := ⟨_, Try.underlying294, rfl⟩
instance : Sz Try.prog 295 (.pointer none) 1 8 := ⟨by kernel_rfl⟩
instance : ZeroC Try.prog 295 [.pointer none] := ⟨zeroC_of (z := .pointer none) (by kernel_rfl) rfl⟩
instance : Scalar Try.prog 295 := ⟨_, Try.underlying295, rfl⟩
instance : Sz Try.prog 296 (.slice none 0 0) 1 24 := ⟨by kernel_rfl⟩
instance : ZeroC Try.prog 296 [.slice none 0 0] := ⟨zeroC_of (z := .slice none 0 0) (by kernel_rfl) rfl⟩
instance : Scalar Try.prog 296 := ⟨_, Try.underlying296, rfl⟩
instance : SliceT Try.prog 296 24 := ⟨Try.underlying296⟩
end Go.Proofs.Ytdjcehopalhalaa.St
