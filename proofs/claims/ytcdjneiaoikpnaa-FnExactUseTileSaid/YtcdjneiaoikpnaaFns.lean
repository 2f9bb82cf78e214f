/-
  A call of each function of the program that has a body enters it.
-/
import Derived.Test.YtcdjneiaoikpnaaStDraw
import Derived.Test.YtcdjneiaoikpnaaRows
set_option linter.unusedSimpArgs false
set_option linter.unusedVariables false
namespace Go.Proofs.Ytcdjneiaoikpnaa.St
theorem mixed : Try.prog.follows .mixedOrders = true := by kernel_rfl
theorem en3 : Enters Try.prog 3 := enters_of Try.func3 (by kernel_rfl) rfl
instance : En Try.prog 3 := ⟨en3⟩
theorem en4 : Enters Try.prog 4 := enters_of Try.func4 (by kernel_rfl) rfl
instance : En Try.prog 4 := ⟨en4⟩
theorem en5 : Enters Try.prog 5 := enters_of Try.func5 (by kernel_rfl) rfl
instance : En Try.prog 5 := ⟨en5⟩
theorem en6 : Enters Try.prog 6 := enters_of Try.func6 (by kernel_rfl) rfl
instance : En Try.prog 6 := ⟨en6⟩
theorem en7 : Enters Try.prog 7 := enters_of Try.func7 (by kernel_rfl) rfl
instance : En Try.prog 7 := ⟨en7⟩
theorem en8 : Enters Try.prog 8 := enters_of Try.func8 (by kernel_rfl) rfl
instance : En Try.prog 8 := ⟨en8⟩
theorem en9 : Enters Try.prog 9 := enters_of Try.func9 (by kernel_rfl) rfl
instance : En Try.prog 9 := ⟨en9⟩
theorem en10 : Enters Try.prog 10 := enters_of Try.func10 (by kernel_rfl) rfl
instance : En Try.prog 10 := ⟨en10⟩
theorem en11 : Enters Try.prog 11 := enters_of Try.func11 (by kernel_rfl) rfl
instance : En Try.prog 11 := ⟨en11⟩
theorem en12 : Enters Try.prog 12 := enters_of Try.func12 (by kernel_rfl) rfl
instance : En Try.prog 12 := ⟨en12⟩
theorem en13 : Enters Try.prog 13 := enters_of Try.func13 (by kernel_rfl) rfl
instance : En Try.prog 13 := ⟨en13⟩
theorem en14 : Enters Try.prog 14 := enters_of Try.func14 (by kernel_rfl) rfl
instance : En Try.prog 14 := ⟨en14⟩
theorem en15 : Enters Try.prog 15 := enters_of Try.func15 (by kernel_rfl) rfl
instance : En Try.prog 15 := ⟨en15⟩
theorem en16 : Enters Try.prog 16 := enters_of Try.func16 (by kernel_rfl) rfl
instance : En Try.prog 16 := ⟨en16⟩
theorem en17 : Enters Try.prog 17 := enters_of Try.func17 (by kernel_rfl) rfl
instance : En Try.prog 17 := ⟨en17⟩
theorem en18 : Enters Try.prog 18 := enters_of Try.func18 (by kernel_rfl) rfl
instance : En Try.prog 18 := ⟨en18⟩
theorem en19 : Enters Try.prog 19 := enters_of Try.func19 (by kernel_rfl) rfl
instance : En Try.prog 19 := ⟨en19⟩
theorem en20 : Enters Try.prog 20 := enters_of Try.func20 (by kernel_rfl) rfl
instance : En Try.prog 20 := ⟨en20⟩
theorem en21 : Enters Try.prog 21 := enters_of Try.func21 (by kernel_rfl) rfl
instance : En Try.prog 21 := ⟨en21⟩
theorem en22 : Enters Try.prog 22 := enters_of Try.func22 (by kernel_rfl) rfl
instance : En Try.prog 22 := ⟨en22⟩
theorem en23 : Enters Try.prog 23 := enters_of Try.func23 (by kernel_rfl) rfl
instance : En Try.prog 23 := ⟨en23⟩
theorem en24 : Enters Try.prog 24 := enters_of Try.func24 (by kernel_rfl) rfl
instance : En Try.prog 24 := ⟨en24⟩
theorem en25 : Enters Try.prog 25 := enters_of Try.func25 (by kernel_rfl) rfl
instance : En Try.prog 25 := ⟨en25⟩
theorem en26 : Enters Try.prog 26 := enters_of Try.func26 (by kernel_rfl) rfl
instance : En Try.prog 26 := ⟨en26⟩
theorem en27 : Enters Try.prog 27 := enters_of Try.func27 (by kernel_rfl) rfl
instance : En Try.prog 27 := ⟨en27⟩
theorem en28 : Enters Try.prog 28 := enters_of Try.func28 (by kernel_rfl) rfl
instance : En Try.prog 28 := ⟨en28⟩
theorem en29 : Enters Try.prog 29 := enters_of Try.func29 (by kernel_rfl) rfl
instance : En Try.prog 29 := ⟨en29⟩
theorem en30 : Enters Try.prog 30 := enters_of Try.func30 (by kernel_rfl) rfl
instance : En Try.prog 30 := ⟨en30⟩
theorem en31 : Enters Try.prog 31 := enters_of Try.func31 (by kernel_rfl) rfl
instance : En Try.prog 31 := ⟨en31⟩
theorem en32 : Enters Try.prog 32 := enters_of Try.func32 (by kernel_rfl) rfl
instance : En Try.prog 32 := ⟨en32⟩
theorem en33 : Enters Try.prog 33 := enters_of Try.func33 (by kernel_rfl) rfl
instance : En Try.prog 33 := ⟨en33⟩
theorem en34 : Enters Try.prog 34 := enters_of Try.func34 (by kernel_rfl) rfl
instance : En Try.prog 34 := ⟨en34⟩
theorem en35 : Enters Try.prog 35 := enters_of Try.func35 (by kernel_rfl) rfl
instance : En Try.prog 35 := ⟨en35⟩
theorem en36 : Enters Try.prog 36 := enters_of Try.func36 (by kernel_rfl) rfl
instance : En Try.prog 36 := ⟨en36⟩
theorem en37 : Enters Try.prog 37 := enters_of Try.func37 (by kernel_rfl) rfl
instance : En Try.prog 37 := ⟨en37⟩
theorem en38 : Enters Try.prog 38 := enters_of Try.func38 (by kernel_rfl) rfl
instance : En Try.prog 38 := ⟨en38⟩
theorem en39 : Enters Try.prog 39 := enters_of Try.func39 (by kernel_rfl) rfl
instance : En Try.prog 39 := ⟨en39⟩
theorem en40 : Enters Try.prog 40 := enters_of Try.func40 (by kernel_rfl) rfl
instance : En Try.prog 40 := ⟨en40⟩
theorem en41 : Enters Try.prog 41 := enters_of Try.func41 (by kernel_rfl) rfl
instance : En Try.prog 41 := ⟨en41⟩
theorem en42 : Enters Try.prog 42 := enters_of Try.func42 (by kernel_rfl) rfl
instance : En Try.prog 42 := ⟨en42⟩
theorem en43 : Enters Try.prog 43 := enters_of Try.func43 (by kernel_rfl) rfl
instance : En Try.prog 43 := ⟨en43⟩
theorem en44 : Enters Try.prog 44 := enters_of Try.func44 (by kernel_rfl) rfl
instance : En Try.prog 44 := ⟨en44⟩
theorem en45 : Enters Try.prog 45 := enters_of Try.func45 (by kernel_rfl) rfl
instance : En Try.prog 45 := ⟨en45⟩
theorem en46 : Enters Try.prog 46 := enters_of Try.func46 (by kernel_rfl) rfl
instance : En Try.prog 46 := ⟨en46⟩
theorem en47 : Enters Try.prog 47 := enters_of Try.func47 (by kernel_rfl) rfl
instance : En Try.prog 47 := ⟨en47⟩
theorem en48 : Enters Try.prog 48 := enters_of Try.func48 (by kernel_rfl) rfl
instance : En Try.prog 48 := ⟨en48⟩
theorem en49 : Enters Try.prog 49 := enters_of Try.func49 (by kernel_rfl) rfl
instance : En Try.prog 49 := ⟨en49⟩
theorem en50 : Enters Try.prog 50 := enters_of Try.func50 (by kernel_rfl) rfl
instance : En Try.prog 50 := ⟨en50⟩
theorem en51 : Enters Try.prog 51 := enters_of Try.func51 (by kernel_rfl) rfl
instance : En Try.prog 51 := ⟨en51⟩
theorem en52 : Enters Try.prog 52 := enters_of Try.func52 (by kernel_rfl) rfl
instance : En Try.prog 52 := ⟨en52⟩
theorem en53 : Enters Try.prog 53 := enters_of Try.func53 (by kernel_rfl) rfl
instance : En Try.prog 53 := ⟨en53⟩
theorem en54 : Enters Try.prog 54 := enters_of Try.func54 (by kernel_rfl) rfl
instance : En Try.prog 54 := ⟨en54⟩
theorem en55 : Enters Try.prog 55 := enters_of Try.func55 (by kernel_rfl) rfl
instance : En Try.prog 55 := ⟨en55⟩
theorem en56 : Enters Try.prog 56 := enters_of Try.func56 (by kernel_rfl) rfl
instance : En Try.prog 56 := ⟨en56⟩
theorem en57 : Enters Try.prog 57 := enters_of Try.func57 (by kernel_rfl) rfl
instance : En Try.prog 57 := ⟨en57⟩
theorem en58 : Enters Try.prog 58 := enters_of Try.func58 (by kernel_rfl) rfl
instance : En Try.prog 58 := ⟨en58⟩
theorem en59 : Enters Try.prog 59 := enters_of Try.func59 (by kernel_rfl) rfl
instance : En Try.prog 59 := ⟨en59⟩
theorem en60 : Enters Try.prog 60 := enters_of Try.func60 (by kernel_rfl) rfl
instance : En Try.prog 60 := ⟨en60⟩
theorem en61 : Enters Try.prog 61 := enters_of Try.func61 (by kernel_rfl) rfl
instance : En Try.prog 61 := ⟨en61⟩
theorem en62 : Enters Try.prog 62 := enters_of Try.func62 (by kernel_rfl) rfl
instance : En Try.prog 62 := ⟨en62⟩
theorem en63 : Enters Try.prog 63 := enters_of Try.func63 (by kernel_rfl) rfl
instance : En Try.prog 63 := ⟨en63⟩
theorem en64 : Enters Try.prog 64 := enters_of Try.func64 (by kernel_rfl) rfl
instance : En Try.prog 64 := ⟨en64⟩
theorem en65 : Enters Try.prog 65 := enters_of Try.func65 (by kernel_rfl) rfl
instance : En Try.prog 65 := ⟨en65⟩
theorem en66 : Enters Try.prog 66 := enters_of Try.func66 (by kernel_rfl) rfl
instance : En Try.prog 66 := ⟨en66⟩
theorem en67 : Enters Try.prog 67 := enters_of Try.func67 (by kernel_rfl) rfl
instance : En Try.prog 67 := ⟨en67⟩
theorem en68 : Enters Try.prog 68 := enters_of Try.func68 (by kernel_rfl) rfl
instance : En Try.prog 68 := ⟨en68⟩
theorem en69 : Enters Try.prog 69 := enters_of Try.func69 (by kernel_rfl) rfl
instance : En Try.prog 69 := ⟨en69⟩
theorem en70 : Enters Try.prog 70 := enters_of Try.func70 (by kernel_rfl) rfl
instance : En Try.prog 70 := ⟨en70⟩
theorem en71 : Enters Try.prog 71 := enters_of Try.func71 (by kernel_rfl) rfl
instance : En Try.prog 71 := ⟨en71⟩
theorem en72 : Enters Try.prog 72 := enters_of Try.func72 (by kernel_rfl) rfl
instance : En Try.prog 72 := ⟨en72⟩
theorem en73 : Enters Try.prog 73 := enters_of Try.func73 (by kernel_rfl) rfl
instance : En Try.prog 73 := ⟨en73⟩
theorem en74 : Enters Try.prog 74 := enters_of Try.func74 (by kernel_rfl) rfl
instance : En Try.prog 74 := ⟨en74⟩
theorem en75 : Enters Try.prog 75 := enters_of Try.func75 (by kernel_rfl) rfl
instance : En Try.prog 75 := ⟨en75⟩
theorem en76 : Enters Try.prog 76 := enters_of Try.func76 (by kernel_rfl) rfl
instance : En Try.prog 76 := ⟨en76⟩
theorem en77 : Enters Try.prog 77 := enters_of Try.func77 (by kernel_rfl) rfl
instance : En Try.prog 77 := ⟨en77⟩
theorem en78 : Enters Try.prog 78 := enters_of Try.func78 (by kernel_rfl) rfl
instance : En Try.prog 78 := ⟨en78⟩
theorem en79 : Enters Try.prog 79 := enters_of Try.func79 (by kernel_rfl) rfl
instance : En Try.prog 79 := ⟨en79⟩
theorem en80 : Enters Try.prog 80 := enters_of Try.func80 (by kernel_rfl) rfl
instance : En Try.prog 80 := ⟨en80⟩
theorem en81 : Enters Try.prog 81 := enters_of Try.func81 (by kernel_rfl) rfl
instance : En Try.prog 81 := ⟨en81⟩
theorem en82 : Enters Try.prog 82 := enters_of Try.func82 (by kernel_rfl) rfl
instance : En Try.prog 82 := ⟨en82⟩
theorem en83 : Enters Try.prog 83 := enters_of Try.func83 (by kernel_rfl) rfl
instance : En Try.prog 83 := ⟨en83⟩
theorem en84 : Enters Try.prog 84 := enters_of Try.func84 (by kernel_rfl) rfl
instance : En Try.prog 84 := ⟨en84⟩
theorem en85 : Enters Try.prog 85 := enters_of Try.func85 (by kernel_rfl) rfl
instance : En Try.prog 85 := ⟨en85⟩
theorem en86 : Enters Try.prog 86 := enters_of Try.func86 (by kernel_rfl) rfl
instance : En Try.prog 86 := ⟨en86⟩
theorem en87 : Enters Try.prog 87 := enters_of Try.func87 (by kernel_rfl) rfl
instance : En Try.prog 87 := ⟨en87⟩
theorem en88 : Enters Try.prog 88 := enters_of Try.func88 (by kernel_rfl) rfl
instance : En Try.prog 88 := ⟨en88⟩
theorem en89 : Enters Try.prog 89 := enters_of Try.func89 (by kernel_rfl) rfl
instance : En Try.prog 89 := ⟨en89⟩
theorem en90 : Enters Try.prog 90 := enters_of Try.func90 (by kernel_rfl) rfl
instance : En Try.prog 90 := ⟨en90⟩
theorem en91 : Enters Try.prog 91 := enters_of Try.func91 (by kernel_rfl) rfl
instance : En Try.prog 91 := ⟨en91⟩
theorem en92 : Enters Try.prog 92 := enters_of Try.func92 (by kernel_rfl) rfl
instance : En Try.prog 92 := ⟨en92⟩
theorem en93 : Enters Try.prog 93 := enters_of Try.func93 (by kernel_rfl) rfl
instance : En Try.prog 93 := ⟨en93⟩
theorem en94 : Enters Try.prog 94 := enters_of Try.func94 (by kernel_rfl) rfl
instance : En Try.prog 94 := ⟨en94⟩
theorem en95 : Enters Try.prog 95 := enters_of Try.func95 (by kernel_rfl) rfl
instance : En Try.prog 95 := ⟨en95⟩
theorem en96 : Enters Try.prog 96 := enters_of Try.func96 (by kernel_rfl) rfl
instance : En Try.prog 96 := ⟨en96⟩
theorem en97 : Enters Try.prog 97 := enters_of Try.func97 (by kernel_rfl) rfl
instance : En Try.prog 97 := ⟨en97⟩
theorem en98 : Enters Try.prog 98 := enters_of Try.func98 (by kernel_rfl) rfl
instance : En Try.prog 98 := ⟨en98⟩
theorem en99 : Enters Try.prog 99 := enters_of Try.func99 (by kernel_rfl) rfl
instance : En Try.prog 99 := ⟨en99⟩
theorem en100 : Enters Try.prog 100 := enters_of Try.func100 (by kernel_rfl) rfl
instance : En Try.prog 100 := ⟨en100⟩
theorem en101 : Enters Try.prog 101 := enters_of Try.func101 (by kernel_rfl) rfl
instance : En Try.prog 101 := ⟨en101⟩
theorem en102 : Enters Try.prog 102 := enters_of Try.func102 (by kernel_rfl) rfl
instance : En Try.prog 102 := ⟨en102⟩
theorem en103 : Enters Try.prog 103 := enters_of Try.func103 (by kernel_rfl) rfl
instance : En Try.prog 103 := ⟨en103⟩
theorem en104 : Enters Try.prog 104 := enters_of Try.func104 (by kernel_rfl) rfl
instance : En Try.prog 104 := ⟨en104⟩
theorem en105 : Enters Try.prog 105 := enters_of Try.func105 (by kernel_rfl) rfl
instance : En Try.prog 105 := ⟨en105⟩
theorem en106 : Enters Try.prog 106 := enters_of Try.func106 (by kernel_rfl) rfl
instance : En Try.prog 106 := ⟨en106⟩
theorem en107 : Enters Try.prog 107 := enters_of Try.func107 (by kernel_rfl) rfl
instance : En Try.prog 107 := ⟨en107⟩
theorem en108 : Enters Try.prog 108 := enters_of Try.func108 (by kernel_rfl) rfl
instance : En Try.prog 108 := ⟨en108⟩
theorem en109 : Enters Try.prog 109 := enters_of Try.func109 (by kernel_rfl) rfl
instance : En Try.prog 109 := ⟨en109⟩
theorem en110 : Enters Try.prog 110 := enters_of Try.func110 (by kernel_rfl) rfl
instance : En Try.prog 110 := ⟨en110⟩
theorem en111 : Enters Try.prog 111 := enters_of Try.func111 (by kernel_rfl) rfl
instance : En Try.prog 111 := ⟨en111⟩
theorem en112 : Enters Try.prog 112 := enters_of Try.func112 (by kernel_rfl) rfl
instance : En Try.prog 112 := ⟨en112⟩
theorem en113 : Enters Try.prog 113 := enters_of Try.func113 (by kernel_rfl) rfl
instance : En Try.prog 113 := ⟨en113⟩
theorem en114 : Enters Try.prog 114 := enters_of Try.func114 (by kernel_rfl) rfl
instance : En Try.prog 114 := ⟨en114⟩
theorem en115 : Enters Try.prog 115 := enters_of Try.func115 (by kernel_rfl) rfl
instance : En Try.prog 115 := ⟨en115⟩
theorem en116 : Enters Try.prog 116 := enters_of Try.func116 (by kernel_rfl) rfl
instance : En Try.prog 116 := ⟨en116⟩
theorem en117 : Enters Try.prog 117 := enters_of Try.func117 (by kernel_rfl) rfl
instance : En Try.prog 117 := ⟨en117⟩
theorem en118 : Enters Try.prog 118 := enters_of Try.func118 (by kernel_rfl) rfl
instance : En Try.prog 118 := ⟨en118⟩
theorem en119 : Enters Try.prog 119 := enters_of Try.func119 (by kernel_rfl) rfl
instance : En Try.prog 119 := ⟨en119⟩
theorem en120 : Enters Try.prog 120 := enters_of Try.func120 (by kernel_rfl) rfl
instance : En Try.prog 120 := ⟨en120⟩
theorem en121 : Enters Try.prog 121 := enters_of Try.func121 (by kernel_rfl) rfl
instance : En Try.prog 121 := ⟨en121⟩
theorem en122 : Enters Try.prog 122 := enters_of Try.func122 (by kernel_rfl) rfl
instance : En Try.prog 122 := ⟨en122⟩
theorem en123 : Enters Try.prog 123 := enters_of Try.func123 (by kernel_rfl) rfl
instance : En Try.prog 123 := ⟨en123⟩
theorem en124 : Enters Try.prog 124 := enters_of Try.func124 (by kernel_rfl) rfl
instance : En Try.prog 124 := ⟨en124⟩
theorem en125 : Enters Try.prog 125 := enters_of Try.func125 (by kernel_rfl) rfl
instance : En Try.prog 125 := ⟨en125⟩
theorem en126 : Enters Try.prog 126 := enters_of Try.func126 (by kernel_rfl) rfl
instance : En Try.prog 126 := ⟨en126⟩
theorem en127 : Enters Try.prog 127 := enters_of Try.func127 (by kernel_rfl) rfl
instance : En Try.prog 127 := ⟨en127⟩
theorem en128 : Enters Try.prog 128 := enters_of Try.func128 (by kernel_rfl) rfl
instance : En Try.prog 128 := ⟨en128⟩
theorem en129 : Enters Try.prog 129 := enters_of Try.func129 (by kernel_rfl) rfl
instance : En Try.prog 129 := ⟨en129⟩
theorem en130 : Enters Try.prog 130 := enters_of Try.func130 (by kernel_rfl) rfl
instance : En Try.prog 130 := ⟨en130⟩
theorem en131 : Enters Try.prog 131 := enters_of Try.func131 (by kernel_rfl) rfl
instance : En Try.prog 131 := ⟨en131⟩
theorem en132 : Enters Try.prog 132 := enters_of Try.func132 (by kernel_rfl) rfl
instance : En Try.prog 132 := ⟨en132⟩
theorem en133 : Enters Try.prog 133 := enters_of Try.func133 (by kernel_rfl) rfl
instance : En Try.prog 133 := ⟨en133⟩
theorem en134 : Enters Try.prog 134 := enters_of Try.func134 (by kernel_rfl) rfl
instance : En Try.prog 134 := ⟨en134⟩
theorem en135 : Enters Try.prog 135 := enters_of Try.func135 (by kernel_rfl) rfl
instance : En Try.prog 135 := ⟨en135⟩
theorem en136 : Enters Try.prog 136 := enters_of Try.func136 (by kernel_rfl) rfl
instance : En Try.prog 136 := ⟨en136⟩
theorem en137 : Enters Try.prog 137 := enters_of Try.func137 (by kernel_rfl) rfl
instance : En Try.prog 137 := ⟨en137⟩
theorem en138 : Enters Try.prog 138 := enters_of Try.func138 (by kernel_rfl) rfl
instance : En Try.prog 138 := ⟨en138⟩
theorem en139 : Enters Try.prog 139 := enters_of Try.func139 (by kernel_rfl) rfl
instance : En Try.prog 139 := ⟨en139⟩
theorem en140 : Enters Try.prog 140 := enters_of Try.func140 (by kernel_rfl) rfl
instance : En Try.prog 140 := ⟨en140⟩
theorem en141 : Enters Try.prog 141 := enters_of Try.func141 (by kernel_rfl) rfl
instance : En Try.prog 141 := ⟨en141⟩
theorem en142 : Enters Try.prog 142 := enters_of Try.func142 (by kernel_rfl) rfl
instance : En Try.prog 142 := ⟨en142⟩
theorem en143 : Enters Try.prog 143 := enters_of Try.func143 (by kernel_rfl) rfl
instance : En Try.prog 143 := ⟨en143⟩
theorem en144 : Enters Try.prog 144 := enters_of Try.func144 (by kernel_rfl) rfl
instance : En Try.prog 144 := ⟨en144⟩
theorem en145 : Enters Try.prog 145 := enters_of Try.func145 (by kernel_rfl) rfl
instance : En Try.prog 145 := ⟨en145⟩
theorem en146 : Enters Try.prog 146 := enters_of Try.func146 (by kernel_rfl) rfl
instance : En Try.prog 146 := ⟨en146⟩
theorem en147 : Enters Try.prog 147 := enters_of Try.func147 (by kernel_rfl) rfl
instance : En Try.prog 147 := ⟨en147⟩
theorem en148 : Enters Try.prog 148 := enters_of Try.func148 (by kernel_rfl) rfl
instance : En Try.prog 148 := ⟨en148⟩
theorem en149 : Enters Try.prog 149 := enters_of Try.func149 (by kernel_rfl) rfl
instance : En Try.prog 149 := ⟨en149⟩
theorem en150 : Enters Try.prog 150 := enters_of Try.func150 (by kernel_rfl) rfl
instance : En Try.prog 150 := ⟨en150⟩
theorem en151 : Enters Try.prog 151 := enters_of Try.func151 (by kernel_rfl) rfl
instance : En Try.prog 151 := ⟨en151⟩
theorem en152 : Enters Try.prog 152 := enters_of Try.func152 (by kernel_rfl) rfl
instance : En Try.prog 152 := ⟨en152⟩
theorem en153 : Enters Try.prog 153 := enters_of Try.func153 (by kernel_rfl) rfl
instance : En Try.prog 153 := ⟨en153⟩
theorem en154 : Enters Try.prog 154 := enters_of Try.func154 (by kernel_rfl) rfl
instance : En Try.prog 154 := ⟨en154⟩
theorem en155 : Enters Try.prog 155 := enters_of Try.func155 (by kernel_rfl) rfl
instance : En Try.prog 155 := ⟨en155⟩
theorem en156 : Enters Try.prog 156 := enters_of Try.func156 (by kernel_rfl) rfl
instance : En Try.prog 156 := ⟨en156⟩
theorem en157 : Enters Try.prog 157 := enters_of Try.func157 (by kernel_rfl) rfl
instance : En Try.prog 157 := ⟨en157⟩
theorem en158 : Enters Try.prog 158 := enters_of Try.func158 (by kernel_rfl) rfl
instance : En Try.prog 158 := ⟨en158⟩
theorem en159 : Enters Try.prog 159 := enters_of Try.func159 (by kernel_rfl) rfl
instance : En Try.prog 159 := ⟨en159⟩
theorem en160 : Enters Try.prog 160 := enters_of Try.func160 (by kernel_rfl) rfl
instance : En Try.prog 160 := ⟨en160⟩
theorem en161 : Enters Try.prog 161 := enters_of Try.func161 (by kernel_rfl) rfl
instance : En Try.prog 161 := ⟨en161⟩
theorem en162 : Enters Try.prog 162 := enters_of Try.func162 (by kernel_rfl) rfl
instance : En Try.prog 162 := ⟨en162⟩
theorem en163 : Enters Try.prog 163 := enters_of Try.func163 (by kernel_rfl) rfl
instance : En Try.prog 163 := ⟨en163⟩
theorem en164 : Enters Try.prog 164 := enters_of Try.func164 (by kernel_rfl) rfl
instance : En Try.prog 164 := ⟨en164⟩
theorem en165 : Enters Try.prog 165 := enters_of Try.func165 (by kernel_rfl) rfl
instance : En Try.prog 165 := ⟨en165⟩
theorem en166 : Enters Try.prog 166 := enters_of Try.func166 (by kernel_rfl) rfl
instance : En Try.prog 166 := ⟨en166⟩
theorem en167 : Enters Try.prog 167 := enters_of Try.func167 (by kernel_rfl) rfl
instance : En Try.prog 167 := ⟨en167⟩
theorem en168 : Enters Try.prog 168 := enters_of Try.func168 (by kernel_rfl) rfl
instance : En Try.prog 168 := ⟨en168⟩
theorem en169 : Enters Try.prog 169 := enters_of Try.func169 (by kernel_rfl) rfl
instance : En Try.prog 169 := ⟨en169⟩
theorem en170 : Enters Try.prog 170 := enters_of Try.func170 (by kernel_rfl) rfl
instance : En Try.prog 170 := ⟨en170⟩
theorem en171 : Enters Try.prog 171 := enters_of Try.func171 (by kernel_rfl) rfl
instance : En Try.prog 171 := ⟨en171⟩
theorem en172 : Enters Try.prog 172 := enters_of Try.func172 (by kernel_rfl) rfl
instance : En Try.prog 172 := ⟨en172⟩
theorem en173 : Enters Try.prog 173 := enters_of Try.func173 (by kernel_rfl) rfl
instance : En Try.prog 173 := ⟨en173⟩
theorem en174 : Enters Try.prog 174 := enters_of Try.func174 (by kernel_rfl) rfl
instance : En Try.prog 174 := ⟨en174⟩
theorem en175 : Enters Try.prog 175 := enters_of Try.func175 (by kernel_rfl) rfl
instance : En Try.prog 175 := ⟨en175⟩
theorem en176 : Enters Try.prog 176 := enters_of Try.func176 (by kernel_rfl) rfl
instance : En Try.prog 176 := ⟨en176⟩
theorem en177 : Enters Try.prog 177 := enters_of Try.func177 (by kernel_rfl) rfl
instance : En Try.prog 177 := ⟨en177⟩
theorem en178 : Enters Try.prog 178 := enters_of Try.func178 (by kernel_rfl) rfl
instance : En Try.prog 178 := ⟨en178⟩
theorem en179 : Enters Try.prog 179 := enters_of Try.func179 (by kernel_rfl) rfl
instance : En Try.prog 179 := ⟨en179⟩
theorem en180 : Enters Try.prog 180 := enters_of Try.func180 (by kernel_rfl) rfl
instance : En Try.prog 180 := ⟨en180⟩
theorem en181 : Enters Try.prog 181 := enters_of Try.func181 (by kernel_rfl) rfl
instance : En Try.prog 181 := ⟨en181⟩
theorem en182 : Enters Try.prog 182 := enters_of Try.func182 (by kernel_rfl) rfl
instance : En Try.prog 182 := ⟨en182⟩
theorem en183 : Enters Try.prog 183 := enters_of Try.func183 (by kernel_rfl) rfl
instance : En Try.prog 183 := ⟨en183⟩
theorem en184 : Enters Try.prog 184 := enters_of Try.func184 (by kernel_rfl) rfl
instance : En Try.prog 184 := ⟨en184⟩
theorem en185 : Enters Try.prog 185 := enters_of Try.func185 (by kernel_rfl) rfl
instance : En Try.prog 185 := ⟨en185⟩
theorem en186 : Enters Try.prog 186 := enters_of Try.func186 (by kernel_rfl) rfl
instance : En Try.prog 186 := ⟨en186⟩
theorem en187 : Enters Try.prog 187 := enters_of Try.func187 (by kernel_rfl) rfl
instance : En Try.prog 187 := ⟨en187⟩
theorem en188 : Enters Try.prog 188 := enters_of Try.func188 (by kernel_rfl) rfl
instance : En Try.prog 188 := ⟨en188⟩
theorem en189 : Enters Try.prog 189 := enters_of Try.func189 (by kernel_rfl) rfl
instance : En Try.prog 189 := ⟨en189⟩
theorem en190 : Enters Try.prog 190 := enters_of Try.func190 (by kernel_rfl) rfl
instance : En Try.prog 190 := ⟨en190⟩
theorem en191 : Enters Try.prog 191 := enters_of Try.func191 (by kernel_rfl) rfl
instance : En Try.prog 191 := ⟨en191⟩
theorem en192 : Enters Try.prog 192 := enters_of Try.func192 (by kernel_rfl) rfl
instance : En Try.prog 192 := ⟨en192⟩
theorem en193 : Enters Try.prog 193 := enters_of Try.func193 (by kernel_rfl) rfl
instance : En Try.prog 193 := ⟨en193⟩
theorem en194 : Enters Try.prog 194 := enters_of Try.func194 (by kernel_rfl) rfl
instance : En Try.prog 194 := ⟨en194⟩
theorem en195 : Enters Try.prog 195 := enters_of Try.func195 (by kernel_rfl) rfl
instance : En Try.prog 195 := ⟨en195⟩
theorem en196 : Enters Try.prog 196 := enters_of Try.func196 (by kernel_rfl) rfl
instance : En Try.prog 196 := ⟨en196⟩
theorem en197 : Enters Try.prog 197 := enters_of Try.func197 (by kernel_rfl) rfl
instance : En Try.prog 197 := ⟨en197⟩
theorem en198 : Enters Try.prog 198 := enters_of Try.func198 (by kernel_rfl) rfl
instance : En Try.prog 198 := ⟨en198⟩
theorem en199 : Enters Try.prog 199 := enters_of Try.func199 (by kernel_rfl) rfl
instance : En Try.prog 199 := ⟨en199⟩
theorem en200 : Enters Try.prog 200 := enters_of Try.func200 (by kernel_rfl) rfl
instance : En Try.prog 200 := ⟨en200⟩
theorem en201 : Enters Try.prog 201 := enters_of Try.func201 (by kernel_rfl) rfl
instance : En Try.prog 201 := ⟨en201⟩
theorem en202 : Enters Try.prog 202 := enters_of Try.func202 (by kernel_rfl) rfl
instance : En Try.prog 202 := ⟨en202⟩
theorem en203 : Enters Try.prog 203 := enters_of Try.func203 (by kernel_rfl) rfl
instance : En Try.prog 203 := ⟨en203⟩
theorem en204 : Enters Try.prog 204 := enters_of Try.func204 (by kernel_rfl) rfl
instance : En Try.prog 204 := ⟨en204⟩
theorem en205 : Enters Try.prog 205 := enters_of Try.func205 (by kernel_rfl) rfl
instance : En Try.prog 205 := ⟨en205⟩
theorem en206 : Enters Try.prog 206 := enters_of Try.func206 (by kernel_rfl) rfl
instance : En Try.prog 206 := ⟨en206⟩
theorem en207 : Enters Try.prog 207 := enters_of Try.func207 (by kernel_rfl) rfl
instance : En Try.prog 207 := ⟨en207⟩
theorem en208 : Enters Try.prog 208 := enters_of Try.func208 (by kernel_rfl) rfl
instance : En Try.prog 208 := ⟨en208⟩
theorem en209 : Enters Try.prog 209 := enters_of Try.func209 (by kernel_rfl) rfl
instance : En Try.prog 209 := ⟨en209⟩
theorem en210 : Enters Try.prog 210 := enters_of Try.func210 (by kernel_rfl) rfl
instance : En Try.prog 210 := ⟨en210⟩
theorem en211 : Enters Try.prog 211 := enters_of Try.func211 (by kernel_rfl) rfl
instance : En Try.prog 211 := ⟨en211⟩
theorem en212 : Enters Try.prog 212 := enters_of Try.func212 (by kernel_rfl) rfl
instance : En Try.prog 212 := ⟨en212⟩
theorem en213 : Enters Try.prog 213 := enters_of Try.func213 (by kernel_rfl) rfl
instance : En Try.prog 213 := ⟨en213⟩
theorem en214 : Enters Try.prog 214 := enters_of Try.func214 (by kernel_rfl) rfl
instance : En Try.prog 214 := ⟨en214⟩
theorem en215 : Enters Try.prog 215 := enters_of Try.func215 (by kernel_rfl) rfl
instance : En Try.prog 215 := ⟨en215⟩
theorem en216 : Enters Try.prog 216 := enters_of Try.func216 (by kernel_rfl) rfl
instance : En Try.prog 216 := ⟨en216⟩
theorem en217 : Enters Try.prog 217 := enters_of Try.func217 (by kernel_rfl) rfl
instance : En Try.prog 217 := ⟨en217⟩
theorem en218 : Enters Try.prog 218 := enters_of Try.func218 (by kernel_rfl) rfl
instance : En Try.prog 218 := ⟨en218⟩
theorem en219 : Enters Try.prog 219 := enters_of Try.func219 (by kernel_rfl) rfl
instance : En Try.prog 219 := ⟨en219⟩
theorem en220 : Enters Try.prog 220 := enters_of Try.func220 (by kernel_rfl) rfl
instance : En Try.prog 220 := ⟨en220⟩
theorem en221 : Enters Try.prog 221 := enters_of Try.func221 (by kernel_rfl) rfl
instance : En Try.prog 221 := ⟨en221⟩
theorem en222 : Enters Try.prog 222 := enters_of Try.func222 (by kernel_rfl) rfl
instance : En Try.prog 222 := ⟨en222⟩
theorem en223 : Enters Try.prog 223 := enters_of Try.func223 (by kernel_rfl) rfl
instance : En Try.prog 223 := ⟨en223⟩
theorem en224 : Enters Try.prog 224 := enters_of Try.func224 (by kernel_rfl) rfl
instance : En Try.prog 224 := ⟨en224⟩
theorem en225 : Enters Try.prog 225 := enters_of Try.func225 (by kernel_rfl) rfl
instance : En Try.prog 225 := ⟨en225⟩
theorem en226 : Enters Try.prog 226 := enters_of Try.func226 (by kernel_rfl) rfl
instance : En Try.prog 226 := ⟨en226⟩
theorem en227 : Enters Try.prog 227 := enters_of Try.func227 (by kernel_rfl) rfl
instance : En Try.prog 227 := ⟨en227⟩
theorem en228 : Enters Try.prog 228 := enters_of Try.func228 (by kernel_rfl) rfl
instance : En Try.prog 228 := ⟨en228⟩
instance : Sz Try.prog 1 (.nilFunc) 1 8 := ⟨by kernel_rfl⟩
instance : ZeroC Try.prog 1 [.nilFunc] := ⟨zeroC_of (z := .nilFunc) (by kernel_rfl) rfl⟩
instance : Scalar Try.prog 1 := ⟨_, Try.underlying1, rfl⟩
instance : Sz Try.prog 2 (.int .i64 0) 1 8 := ⟨by kernel_rfl⟩
instance : ZeroC Try.prog 2 [.int .i64 0] := ⟨zeroC_of (z := .int .i64 0) (by kernel_rfl) rfl⟩
instance : Scalar Try.prog 2 := ⟨_, Try.underlying2, rfl⟩
instance : Sz Try.prog 3 (.int .i64 0) 1 8 := ⟨by kernel_rfl⟩
instance : ZeroC Try.prog 3 [.int .i64 0] := ⟨zeroC_of (z := .int .i64 0) (by kernel_rfl) rfl⟩
instance : Scalar Try.prog 3 := ⟨_, Try.underlying3, rfl⟩
instance : Sz Try.prog 4 (.bool false) 1 1 := ⟨by kernel_rfl⟩
instance : ZeroC Try.prog 4 [.bool false] := ⟨zeroC_of (z := .bool false) (by kernel_rfl) rfl⟩
instance : Scalar Try.prog 4 := ⟨_, Try.underlying4, rfl⟩
instance : BoolT Try.prog 4 := ⟨Try.underlying4⟩
instance : Sz Try.prog 5 (.int .u8 0) 1 1 := ⟨by kernel_rfl⟩
instance : ZeroC Try.prog 5 [.int .u8 0] := ⟨zeroC_of (z := .int .u8 0) (by kernel_rfl) rfl⟩
instance : Scalar Try.prog 5 := ⟨_, Try.underlying5, rfl⟩
instance : Sz Try.prog 6 (.int .u8 0) 1 1 := ⟨by kernel_rfl⟩
instance : ZeroC Try.prog 6 [.int .u8 0] := ⟨zeroC_of (z := .int .u8 0) (by kernel_rfl) rfl⟩
instance : Scalar Try.prog 6 := ⟨_, Try.underlying6, rfl⟩
instance : Sz Try.prog 7 (.agg #[.int .i64 0, .int .i64 0, .bool false, .int .u8 0]) 4 24 := ⟨by kernel_rfl⟩
instance : ZeroC Try.prog 7 [.int .i64 0, .int .i64 0, .bool false, .int .u8 0] := ⟨zeroC_of (z := .agg #[.int .i64 0, .int .i64 0, .bool false, .int .u8 0]) (by kernel_rfl) rfl⟩
instance : Parts Try.prog 7 [(0, 1), (1, 1), (2, 1), (3, 1)] := ⟨.inl ⟨_, Try.underlying7, by kernel_rfl, by kernel_rfl⟩⟩
instance : Aggr Try.prog 7 4 := ⟨⟨_, Try.underlying7, rfl⟩, by kernel_rfl⟩
instance : Fld Try.prog 7 0 0 := ⟨fld_of (by kernel_rfl)⟩
instance : Fld Try.prog 7 1 1 := ⟨fld_of (by kernel_rfl)⟩
instance : Fld Try.prog 7 2 2 := ⟨fld_of (by kernel_rfl)⟩
instance : Fld Try.prog 7 3 3 := ⟨fld_of (by kernel_rfl)⟩
instance : Sz Try.prog 8 (.agg #[.int .i64 0, .int .i64 0, .bool false, .int .u8 0]) 4 24 := ⟨by kernel_rfl⟩
instance : ZeroC Try.prog 8 [.int .i64 0, .int .i64 0, .bool false, .int .u8 0] := ⟨zeroC_of (z := .agg #[.int .i64 0, .int .i64 0, .bool false, .int .u8 0]) (by kernel_rfl) rfl⟩
instance : Parts Try.prog 8 [(0, 1), (1, 1), (2, 1), (3, 1)] := ⟨.inl ⟨_, Try.underlying8, by kernel_rfl, by kernel_rfl⟩⟩
instance : Aggr Try.prog 8 4 := ⟨⟨_, Try.underlying8, rfl⟩, by kernel_rfl⟩
instance : Fld Try.prog 8 0 0 := ⟨fld_of (by kernel_rfl)⟩
instance : Fld Try.prog 8 1 1 := ⟨fld_of (by kernel_rfl)⟩
instance : Fld Try.prog 8 2 2 := ⟨fld_of (by kernel_rfl)⟩
instance : Fld Try.prog 8 3 3 := ⟨fld_of (by kernel_rfl)⟩
instance : Sz Try.prog 9 (.string ⟨#[]⟩) 1 16 := ⟨by kernel_rfl⟩
instance : ZeroC Try.prog 9 [.string ⟨#[]⟩] := ⟨zeroC_of (z := .string ⟨#[]⟩) (by kernel_rfl) rfl⟩
instance : Scalar Try.prog 9 := ⟨_, Try.underlying9, rfl⟩
instance : StrT Try.prog 9 := ⟨Try.underlying9⟩
instance : Sz Try.prog 10 (.string ⟨#[]⟩) 1 16 := ⟨by kernel_rfl⟩
instance : ZeroC Try.prog 10 [.string ⟨#[]⟩] := ⟨zeroC_of (z := .string ⟨#[]⟩) (by kernel_rfl) rfl⟩
instance : Scalar Try.prog 10 := ⟨_, Try.underlying10, rfl⟩
instance : StrT Try.prog 10 := ⟨Try.underlying10⟩
instance : Sz Try.prog 11 (.string ⟨#[]⟩) 1 16 := ⟨by kernel_rfl⟩
instance : ZeroC Try.prog 11 [.string ⟨#[]⟩] := ⟨zeroC_of (z := .string ⟨#[]⟩) (by kernel_rfl) rfl⟩
instance : Scalar Try.prog 11 := ⟨_, Try.underlying11, rfl⟩
instance : StrT Try.prog 11 := ⟨Try.underlying11⟩
instance : Sz Try.prog 12 (.int .u64 0) 1 8 := ⟨by kernel_rfl⟩
instance : ZeroC Try.prog 12 [.int .u64 0] := ⟨zeroC_of (z := .int .u64 0) (by kernel_rfl) rfl⟩
instance : Scalar Try.prog 12 := ⟨_, Try.underlying12, rfl⟩
instance : Sz Try.prog 13 (.agg #[.string ⟨#[]⟩, .int .u64 0]) 2 24 := ⟨by kernel_rfl⟩
instance : ZeroC Try.prog 13 [.string ⟨#[]⟩, .int .u64 0] := ⟨zeroC_of (z := .agg #[.string ⟨#[]⟩, .int .u64 0]) (by kernel_rfl) rfl⟩
instance : Parts Try.prog 13 [(0, 1), (1, 1)] := ⟨.inl ⟨_, Try.underlying13, by kernel_rfl, by kernel_rfl⟩⟩
instance : Aggr Try.prog 13 2 := ⟨⟨_, Try.underlying13, rfl⟩, by kernel_rfl⟩
instance : Fld Try.prog 13 0 0 := ⟨fld_of (by kernel_rfl)⟩
instance : Fld Try.prog 13 1 1 := ⟨fld_of (by kernel_rfl)⟩
instance : Sz Try.prog 15 (.pointer none) 1 8 := ⟨by kernel_rfl⟩
instance : ZeroC Try.prog 15 [.pointer none] := ⟨zeroC_of (z := .pointer none) (by kernel_rfl) rfl⟩
instance : Scalar Try.prog 15 := ⟨_, Try.underlying15, rfl⟩
instance : Sz Try.prog 17 (.pointer none) 1 8 := ⟨by kernel_rfl⟩
instance : ZeroC Try.prog 17 [.pointer none] := ⟨zeroC_of (z := .pointer none) (by kernel_rfl) rfl⟩
instance : Scalar Try.prog 17 := ⟨_, Try.underlying17, rfl⟩
instance : Sz Try.prog 21 (.int .i32 0) 1 4 := ⟨by kernel_rfl⟩
instance : ZeroC Try.prog 21 [.int .i32 0] := ⟨zeroC_of (z := .int .i32 0) (by kernel_rfl) rfl⟩
instance : Scalar Try.prog 21 := ⟨_, Try.underlying21, rfl⟩
instance : Sz Try.prog 22 (.slice none 0 0) 1 24 := ⟨by kernel_rfl⟩
instance : ZeroC Try.prog 22 [.slice none 0 0] := ⟨zeroC_of (z := .slice none 0 0) (by kernel_rfl) rfl⟩
instance : Scalar Try.prog 22 := ⟨_, Try.underlying22, rfl⟩
instance : SliceT Try.prog 22 26 := ⟨Try.underlying22⟩
instance : Sz Try.prog 23 (.agg #[.int .i64 0, .slice none 0 0, .int .i64 0]) 3 40 := ⟨by kernel_rfl⟩
instance : ZeroC Try.prog 23 [.int .i64 0, .slice none 0 0, .int .i64 0] := ⟨zeroC_of (z := .agg #[.int .i64 0, .slice none 0 0, .int .i64 0]) (by kernel_rfl) rfl⟩
instance : Parts Try.prog 23 [(0, 1), (1, 1), (2, 1)] := ⟨.inl ⟨_, Try.underlying23, by kernel_rfl, by kernel_rfl⟩⟩
instance : Aggr Try.prog 23 3 := ⟨⟨_, Try.underlying23, rfl⟩, by kernel_rfl⟩
instance : Fld Try.prog 23 0 0 := ⟨fld_of (by kernel_rfl)⟩
instance : Fld Try.prog 23 1 1 := ⟨fld_of (by kernel_rfl)⟩
instance : Fld Try.prog 23 2 2 := ⟨fld_of (by kernel_rfl)⟩
instance : Sz Try.prog 24 (.agg #[.int .i64 0, .slice none 0 0, .int .i64 0]) 3 40 := ⟨by kernel_rfl⟩
instance : ZeroC Try.prog 24 [.int .i64 0, .slice none 0 0, .int .i64 0] := ⟨zeroC_of (z := .agg #[.int .i64 0, .slice none 0 0, .int .i64 0]) (by kernel_rfl) rfl⟩
instance : Parts Try.prog 24 [(0, 1), (1, 1), (2, 1)] := ⟨.inl ⟨_, Try.underlying24, by kernel_rfl, by kernel_rfl⟩⟩
instance : Aggr Try.prog 24 3 := ⟨⟨_, Try.underlying24, rfl⟩, by kernel_rfl⟩
instance : Fld Try.prog 24 0 0 := ⟨fld_of (by kernel_rfl)⟩
instance : Fld Try.prog 24 1 1 := ⟨fld_of (by kernel_rfl)⟩
instance : Fld Try.prog 24 2 2 := ⟨fld_of (by kernel_rfl)⟩
instance : Sz Try.prog 25 (.agg #[.int .i64 0, .int .i64 0, .int .i64 0]) 3 24 := ⟨by kernel_rfl⟩
instance : ZeroC Try.prog 25 [.int .i64 0, .int .i64 0, .int .i64 0] := ⟨zeroC_of (z := .agg #[.int .i64 0, .int .i64 0, .int .i64 0]) (by kernel_rfl) rfl⟩
instance : Parts Try.prog 25 [(0, 1), (1, 1), (2, 1)] := ⟨.inl ⟨_, Try.underlying25, by kernel_rfl, by kernel_rfl⟩⟩
instance : Aggr Try.prog 25 3 := ⟨⟨_, Try.underlying25, rfl⟩, by kernel_rfl⟩
instance : Fld Try.prog 25 0 0 := ⟨fld_of (by kernel_rfl)⟩
instance : Fld Try.prog 25 1 1 := ⟨fld_of (by kernel_rfl)⟩
instance : Fld Try.prog 25 2 2 := ⟨fld_of (by kernel_rfl)⟩
instance : Sz Try.prog 26 (.agg #[.int .i64 0, .int .i64 0, .int .i64 0]) 3 24 := ⟨by kernel_rfl⟩
instance : ZeroC Try.prog 26 [.int .i64 0, .int .i64 0, .int .i64 0] := ⟨zeroC_of (z := .agg #[.int .i64 0, .int .i64 0, .int .i64 0]) (by kernel_rfl) rfl⟩
instance : Parts Try.prog 26 [(0, 1), (1, 1), (2, 1)] := ⟨.inl ⟨_, Try.underlying26, by kernel_rfl, by kernel_rfl⟩⟩
instance : Aggr Try.prog 26 3 := ⟨⟨_, Try.underlying26, rfl⟩, by kernel_rfl⟩
instance : Fld Try.prog 26 0 0 := ⟨fld_of (by kernel_rfl)⟩
instance : Fld Try.prog 26 1 1 := ⟨fld_of (by kernel_rfl)⟩
instance : Fld Try.prog 26 2 2 := ⟨fld_of (by kernel_rfl)⟩
instance : Sz Try.prog 28 (.slice none 0 0) 1 24 := ⟨by kernel_rfl⟩
instance : ZeroC Try.prog 28 [.slice none 0 0] := ⟨zeroC_of (z := .slice none 0 0) (by kernel_rfl) rfl⟩
instance : Scalar Try.prog 28 := ⟨_, Try.underlying28, rfl⟩
instance : SliceT Try.prog 28 33 := ⟨Try.underlying28⟩
instance : Sz Try.prog 29 (.agg #[.int .i64 0, .slice none 0 0, .int .i64 0]) 3 40 := ⟨by kernel_rfl⟩
instance : ZeroC Try.prog 29 [.int .i64 0, .slice none 0 0, .int .i64 0] := ⟨zeroC_of (z := .agg #[.int .i64 0, .slice none 0 0, .int .i64 0]) (by kernel_rfl) rfl⟩
instance : Parts Try.prog 29 [(0, 1), (1, 1), (2, 1)] := ⟨.inl ⟨_, Try.underlying29, by kernel_rfl, by kernel_rfl⟩⟩
instance : Aggr Try.prog 29 3 := ⟨⟨_, Try.underlying29, rfl⟩, by kernel_rfl⟩
instance : Fld Try.prog 29 0 0 := ⟨fld_of (by kernel_rfl)⟩
instance : Fld Try.prog 29 1 1 := ⟨fld_of (by kernel_rfl)⟩
instance : Fld Try.prog 29 2 2 := ⟨fld_of (by kernel_rfl)⟩
instance : Sz Try.prog 30 (.agg #[.int .i64 0, .slice none 0 0, .int .i64 0]) 3 40 := ⟨by kernel_rfl⟩
instance : ZeroC Try.prog 30 [.int .i64 0, .slice none 0 0, .int .i64 0] := ⟨zeroC_of (z := .agg #[.int .i64 0, .slice none 0 0, .int .i64 0]) (by kernel_rfl) rfl⟩
instance : Parts Try.prog 30 [(0, 1), (1, 1), (2, 1)] := ⟨.inl ⟨_, Try.underlying30, by kernel_rfl, by kernel_rfl⟩⟩
instance : Aggr Try.prog 30 3 := ⟨⟨_, Try.underlying30, rfl⟩, by kernel_rfl⟩
instance : Fld Try.prog 30 0 0 := ⟨fld_of (by kernel_rfl)⟩
instance : Fld Try.prog 30 1 1 := ⟨fld_of (by kernel_rfl)⟩
instance : Fld Try.prog 30 2 2 := ⟨fld_of (by kernel_rfl)⟩
instance : Sz Try.prog 32 (.nilFunc) 1 8 := ⟨by kernel_rfl⟩
instance : ZeroC Try.prog 32 [.nilFunc] := ⟨zeroC_of (z := .nilFunc) (by kernel_rfl) rfl⟩
instance : Scalar Try.prog 32 := ⟨_, Try.underlying32, rfl⟩
instance : Sz Try.prog 33 (.agg #[.int .i64 0, .int .i64 0, .int .i64 0]) 3 24 := ⟨by kernel_rfl⟩
instance : ZeroC Try.prog 33 [.int .i64 0, .int .i64 0, .int .i64 0] := ⟨zeroC_of (z := .agg #[.int .i64 0, .int .i64 0, .int .i64 0]) (by kernel_rfl) rfl⟩
instance : Parts Try.prog 33 [(0, 1), (1, 1), (2, 1)] := ⟨.inl ⟨_, Try.underlying33, by kernel_rfl, by kernel_rfl⟩⟩
instance : Aggr Try.prog 33 3 := ⟨⟨_, Try.underlying33, rfl⟩, by kernel_rfl⟩
instance : Fld Try.prog 33 0 0 := ⟨fld_of (by kernel_rfl)⟩
instance : Fld Try.prog 33 1 1 := ⟨fld_of (by kernel_rfl)⟩
instance : Fld Try.prog 33 2 2 := ⟨fld_of (by kernel_rfl)⟩
instance : Sz Try.prog 38 (.slice none 0 0) 1 24 := ⟨by kernel_rfl⟩
instance : ZeroC Try.prog 38 [.slice none 0 0] := ⟨zeroC_of (z := .slice none 0 0) (by kernel_rfl) rfl⟩
instance : Scalar Try.prog 38 := ⟨_, Try.underlying38, rfl⟩
instance : SliceT Try.prog 38 5 := ⟨Try.underlying38⟩
instance : Sz Try.prog 39 (.slice none 0 0) 1 24 := ⟨by kernel_rfl⟩
instance : ZeroC Try.prog 39 [.slice none 0 0] := ⟨zeroC_of (z := .slice none 0 0) (by kernel_rfl) rfl⟩
instance : Scalar Try.prog 39 := ⟨_, Try.underlying39, rfl⟩
instance : SliceT Try.prog 39 119 := ⟨Try.underlying39⟩
instance : Sz Try.prog 40 (.slice none 0 0) 1 24 := ⟨by kernel_rfl⟩
instance : ZeroC Try.prog 40 [.slice none 0 0] := ⟨zeroC_of (z := .slice none 0 0) (by kernel_rfl) rfl⟩
instance : Scalar Try.prog 40 := ⟨_, Try.underlying40, rfl⟩
instance : SliceT Try.prog 40 49 := ⟨Try.underlying40⟩
instance : Sz Try.prog 41 (.agg #[.slice none 0 0, .slice none 0 0]) 2 48 := ⟨by kernel_rfl⟩
instance : ZeroC Try.prog 41 [.slice none 0 0, .slice none 0 0] := ⟨zeroC_of (z := .agg #[.slice none 0 0, .slice none 0 0]) (by kernel_rfl) rfl⟩
instance : Parts Try.prog 41 [(0, 1), (1, 1)] := ⟨.inl ⟨_, Try.underlying41, by kernel_rfl, by kernel_rfl⟩⟩
instance : Aggr Try.prog 41 2 := ⟨⟨_, Try.underlying41, rfl⟩, by kernel_rfl⟩
instance : Fld Try.prog 41 0 0 := ⟨fld_of (by kernel_rfl)⟩
instance : Fld Try.prog 41 1 1 := ⟨fld_of (by kernel_rfl)⟩
instance : Sz Try.prog 42 (.agg #[.slice none 0 0, .slice none 0 0]) 2 48 := ⟨by kernel_rfl⟩
instance : ZeroC Try.prog 42 [.slice none 0 0, .slice none 0 0] := ⟨zeroC_of (z := .agg #[.slice none 0 0, .slice none 0 0]) (by kernel_rfl) rfl⟩
instance : Parts Try.prog 42 [(0, 1), (1, 1)] := ⟨.inl ⟨_, Try.underlying42, by kernel_rfl, by kernel_rfl⟩⟩
instance : Aggr Try.prog 42 2 := ⟨⟨_, Try.underlying42, rfl⟩, by kernel_rfl⟩
instance : Fld Try.prog 42 0 0 := ⟨fld_of (by kernel_rfl)⟩
instance : Fld Try.prog 42 1 1 := ⟨fld_of (by kernel_rfl)⟩
instance : Sz Try.prog 43 (.nilFunc) 1 8 := ⟨by kernel_rfl⟩
instance : ZeroC Try.prog 43 [.nilFunc] := ⟨zeroC_of (z := .nilFunc) (by kernel_rfl) rfl⟩
instance : Scalar Try.prog 43 := ⟨_, Try.underlying43, rfl⟩
instance : Sz Try.prog 45 (.nilFunc) 1 8 := ⟨by kernel_rfl⟩
instance : ZeroC Try.prog 45 [.nilFunc] := ⟨zeroC_of (z := .nilFunc) (by kernel_rfl) rfl⟩
instance : Scalar Try.prog 45 := ⟨_, Try.underlying45, rfl⟩
instance : Sz Try.prog 46 (.nilFunc) 1 8 := ⟨by kernel_rfl⟩
instance : ZeroC Try.prog 46 [.nilFunc] := ⟨zeroC_of (z := .nilFunc) (by kernel_rfl) rfl⟩
instance : Scalar Try.prog 46 := ⟨_, Try.underlying46, rfl⟩
instance : Sz Try.prog 47 (.nilFunc) 1 8 := ⟨by kernel_rfl⟩
instance : ZeroC Try.prog 47 [.nilFunc] := ⟨zeroC_of (z := .nilFunc) (by kernel_rfl) rfl⟩
instance : Scalar Try.prog 47 := ⟨_, Try.underlying47, rfl⟩
instance : Sz Try.prog 48 (.agg #[.string ⟨#[]⟩, .int .i64 0]) 2 24 := ⟨by kernel_rfl⟩
instance : ZeroC Try.prog 48 [.string ⟨#[]⟩, .int .i64 0] := ⟨zeroC_of (z := .agg #[.string ⟨#[]⟩, .int .i64 0]) (by kernel_rfl) rfl⟩
instance : Parts Try.prog 48 [(0, 1), (1, 1)] := ⟨.inl ⟨_, Try.underlying48, by kernel_rfl, by kernel_rfl⟩⟩
instance : Aggr Try.prog 48 2 := ⟨⟨_, Try.underlying48, rfl⟩, by kernel_rfl⟩
instance : Fld Try.prog 48 0 0 := ⟨fld_of (by kernel_rfl)⟩
instance : Fld Try.prog 48 1 1 := ⟨fld_of (by kernel_rfl)⟩
instance : Sz Try.prog 49 (.agg #[.string ⟨#[]⟩, .int .i64 0]) 2 24 := ⟨by kernel_rfl⟩
instance : ZeroC Try.prog 49 [.string ⟨#[]⟩, .int .i64 0] := ⟨zeroC_of (z := .agg #[.string ⟨#[]⟩, .int .i64 0]) (by kernel_rfl) rfl⟩
instance : Parts Try.prog 49 [(0, 1), (1, 1)] := ⟨.inl ⟨_, Try.underlying49, by kernel_rfl, by kernel_rfl⟩⟩
instance : Aggr Try.prog 49 2 := ⟨⟨_, Try.underlying49, rfl⟩, by kernel_rfl⟩
instance : Fld Try.prog 49 0 0 := ⟨fld_of (by kernel_rfl)⟩
instance : Fld Try.prog 49 1 1 := ⟨fld_of (by kernel_rfl)⟩
instance : Sz Try.prog 50 (.nilFunc) 1 8 := ⟨by kernel_rfl⟩
instance : ZeroC Try.prog 50 [.nilFunc] := ⟨zeroC_of (z := .nilFunc) (by kernel_rfl) rfl⟩
instance : Scalar Try.prog 50 := ⟨_, Try.underlying50, rfl⟩
instance : Sz Try.prog 53 (.agg #[.int .i64 0, .int .i64 0, .int .i64 0]) 3 24 := ⟨by kernel_rfl⟩
instance : ZeroC Try.prog 53 [.int .i64 0, .int .i64 0, .int .i64 0] := ⟨zeroC_of (z := .agg #[.int .i64 0, .int .i64 0, .int .i64 0]) (by kernel_rfl) rfl⟩
instance : Parts Try.prog 53 [(0, 1), (1, 1), (2, 1)] := ⟨.inl ⟨_, Try.underlying53, by kernel_rfl, by kernel_rfl⟩⟩
instance : Aggr Try.prog 53 3 := ⟨⟨_, Try.underlying53, rfl⟩, by kernel_rfl⟩
instance : Fld Try.prog 53 0 0 := ⟨fld_of (by kernel_rfl)⟩
instance : Fld Try.prog 53 1 1 := ⟨fld_of (by kernel_rfl)⟩
instance : Fld Try.prog 53 2 2 := ⟨fld_of (by kernel_rfl)⟩
instance : Sz Try.prog 54 (.agg #[.int .i64 0, .int .i64 0, .int .i64 0]) 3 24 := ⟨by kernel_rfl⟩
instance : ZeroC Try.prog 54 [.int .i64 0, .int .i64 0, .int .i64 0] := ⟨zeroC_of (z := .agg #[.int .i64 0, .int .i64 0, .int .i64 0]) (by kernel_rfl) rfl⟩
instance : Parts Try.prog 54 [(0, 1), (1, 1), (2, 1)] := ⟨.inl ⟨_, Try.underlying54, by kernel_rfl, by kernel_rfl⟩⟩
instance : Aggr Try.prog 54 3 := ⟨⟨_, Try.underlying54, rfl⟩, by kernel_rfl⟩
instance : Fld Try.prog 54 0 0 := ⟨fld_of (by kernel_rfl)⟩
instance : Fld Try.prog 54 1 1 := ⟨fld_of (by kernel_rfl)⟩
instance : Fld Try.prog 54 2 2 := ⟨fld_of (by kernel_rfl)⟩
instance : Sz Try.prog 55 (.agg #[.int .i64 0, .int .i64 0, .int .i64 0, .int .i64 0, .int .i64 0, .int .i64 0, .int .i64 0, .int .i64 0, .int .i64 0, .int .i64 0, .int .i64 0, .int .i64 0]) 12 96 := ⟨by kernel_rfl⟩
instance : ZeroC Try.prog 55 [.int .i64 0, .int .i64 0, .int .i64 0, .int .i64 0, .int .i64 0, .int .i64 0, .int .i64 0, .int .i64 0, .int .i64 0, .int .i64 0, .int .i64 0, .int .i64 0] := ⟨zeroC_of (z := .agg #[.int .i64 0, .int .i64 0, .int .i64 0, .int .i64 0, .int .i64 0, .int .i64 0, .int .i64 0, .int .i64 0, .int .i64 0, .int .i64 0, .int .i64 0, .int .i64 0]) (by kernel_rfl) rfl⟩
instance : Parts Try.prog 55 [(0, 3), (3, 3), (6, 3), (9, 3)] := ⟨.inr ⟨_, _, Try.underlying55, by kernel_rfl, by kernel_rfl⟩⟩
instance : Aggr Try.prog 55 12 := ⟨⟨_, Try.underlying55, rfl⟩, by kernel_rfl⟩
instance : ArrT Try.prog 55 4 54 := ⟨Try.underlying55⟩
instance : Sz Try.prog 56 (.agg #[.int .i64 0, .int .i64 0, .int .i64 0, .int .i64 0, .int .i64 0, .int .i64 0, .int .i64 0, .int .i64 0, .int .i64 0, .int .i64 0, .int .i64 0, .int .i64 0]) 12 96 := ⟨by kernel_rfl⟩
instance : ZeroC Try.prog 56 [.int .i64 0, .int .i64 0, .int .i64 0, .int .i64 0, .int .i64 0, .int .i64 0, .int .i64 0, .int .i64 0, .int .i64 0, .int .i64 0, .int .i64 0, .int .i64 0] := ⟨zeroC_of (z := .agg #[.int .i64 0, .int .i64 0, .int .i64 0, .int .i64 0, .int .i64 0, .int .i64 0, .int .i64 0, .int .i64 0, .int .i64 0, .int .i64 0, .int .i64 0, .int .i64 0]) (by kernel_rfl) rfl⟩
instance : Parts Try.prog 56 [(0, 12)] := ⟨.inl ⟨_, Try.underlying56, by kernel_rfl, by kernel_rfl⟩⟩
instance : Aggr Try.prog 56 12 := ⟨⟨_, Try.underlying56, rfl⟩, by kernel_rfl⟩
instance : Fld Try.prog 56 0 0 := ⟨fld_of (by kernel_rfl)⟩
instance : Sz Try.prog 57 (.agg #[.int .i64 0, .int .i64 0, .int .i64 0, .int .i64 0, .int .i64 0, .int .i64 0, .int .i64 0, .int .i64 0, .int .i64 0, .int .i64 0, .int .i64 0, .int .i64 0]) 12 96 := ⟨by kernel_rfl⟩
instance : ZeroC Try.prog 57 [.int .i64 0, .int .i64 0, .int .i64 0, .int .i64 0, .int .i64 0, .int .i64 0, .int .i64 0, .int .i64 0, .int .i64 0, .int .i64 0, .int .i64 0, .int .i64 0] := ⟨zeroC_of (z := .agg #[.int .i64 0, .int .i64 0, .int .i64 0, .int .i64 0, .int .i64 0, .int .i64 0, .int .i64 0, .int .i64 0, .int .i64 0, .int .i64 0, .int .i64 0, .int .i64 0]) (by kernel_rfl) rfl⟩
instance : Parts Try.prog 57 [(0, 12)] := ⟨.inl ⟨_, Try.underlying57, by kernel_rfl, by kernel_rfl⟩⟩
instance : Aggr Try.prog 57 12 := ⟨⟨_, Try.underlying57, rfl⟩, by kernel_rfl⟩
instance : Fld Try.prog 57 0 0 := ⟨fld_of (by kernel_rfl)⟩
instance : Sz Try.prog 58 (.slice none 0 0) 1 24 := ⟨by kernel_rfl⟩
instance : ZeroC Try.prog 58 [.slice none 0 0] := ⟨zeroC_of (z := .slice none 0 0) (by kernel_rfl) rfl⟩
instance : Scalar Try.prog 58 := ⟨_, Try.underlying58, rfl⟩
instance : SliceT Try.prog 58 3 := ⟨Try.underlying58⟩
instance : Sz Try.prog 59 (.agg #[.int .i64 0, .slice none 0 0]) 2 32 := ⟨by kernel_rfl⟩
instance : ZeroC Try.prog 59 [.int .i64 0, .slice none 0 0] := ⟨zeroC_of (z := .agg #[.int .i64 0, .slice none 0 0]) (by kernel_rfl) rfl⟩
instance : Parts Try.prog 59 [(0, 1), (1, 1)] := ⟨.inl ⟨_, Try.underlying59, by kernel_rfl, by kernel_rfl⟩⟩
instance : Aggr Try.prog 59 2 := ⟨⟨_, Try.underlying59, rfl⟩, by kernel_rfl⟩
instance : Fld Try.prog 59 0 0 := ⟨fld_of (by kernel_rfl)⟩
instance : Fld Try.prog 59 1 1 := ⟨fld_of (by kernel_rfl)⟩
instance : Sz Try.prog 60 (.agg #[.int .i64 0, .slice none 0 0]) 2 32 := ⟨by kernel_rfl⟩
instance : ZeroC Try.prog 60 [.int .i64 0, .slice none 0 0] := ⟨zeroC_of (z := .agg #[.int .i64 0, .slice none 0 0]) (by kernel_rfl) rfl⟩
instance : Parts Try.prog 60 [(0, 1), (1, 1)] := ⟨.inl ⟨_, Try.underlying60, by kernel_rfl, by kernel_rfl⟩⟩
instance : Aggr Try.prog 60 2 := ⟨⟨_, Try.underlying60, rfl⟩, by kernel_rfl⟩
instance : Fld Try.prog 60 0 0 := ⟨fld_of (by kernel_rfl)⟩
instance : Fld Try.prog 60 1 1 := ⟨fld_of (by kernel_rfl)⟩
instance : Sz Try.prog 61 (.nilFunc) 1 8 := ⟨by kernel_rfl⟩
instance : ZeroC Try.prog 61 [.nilFunc] := ⟨zeroC_of (z := .nilFunc) (by kernel_rfl) rfl⟩
instance : Scalar Try.prog 61 := ⟨_, Try.underlying61, rfl⟩
instance : Sz Try.prog 62 (.slice none 0 0) 1 24 := ⟨by kernel_rfl⟩
instance : ZeroC Try.prog 62 [.slice none 0 0] := ⟨zeroC_of (z := .slice none 0 0) (by kernel_rfl) rfl⟩
instance : Scalar Try.prog 62 := ⟨_, Try.underlying62, rfl⟩
instance : SliceT Try.prog 62 134 := ⟨Try.underlying62⟩
instance : Sz Try.prog 63 (.agg #[.int .i64 0, .slice none 0 0]) 2 32 := ⟨by kernel_rfl⟩
instance : ZeroC Try.prog 63 [.int .i64 0, .slice none 0 0] := ⟨zeroC_of (z := .agg #[.int .i64 0, .slice none 0 0]) (by kernel_rfl) rfl⟩
instance : Parts Try.prog 63 [(0, 1), (1, 1)] := ⟨.inl ⟨_, Try.underlying63, by kernel_rfl, by kernel_rfl⟩⟩
instance : Aggr Try.prog 63 2 := ⟨⟨_, Try.underlying63, rfl⟩, by kernel_rfl⟩
instance : Fld Try.prog 63 0 0 := ⟨fld_of (by kernel_rfl)⟩
instance : Fld Try.prog 63 1 1 := ⟨fld_of (by kernel_rfl)⟩
instance : Sz Try.prog 64 (.agg #[.int .i64 0, .slice none 0 0, .int .i64 0, .int .i64 0, .slice none 0 0]) 5 72 := ⟨by kernel_rfl⟩
instance : ZeroC Try.prog 64 [.int .i64 0, .slice none 0 0, .int .i64 0, .int .i64 0, .slice none 0 0] := ⟨zeroC_of (z := .agg #[.int .i64 0, .slice none 0 0, .int .i64 0, .int .i64 0, .slice none 0 0]) (by kernel_rfl) rfl⟩
instance : Parts Try.prog 64 [(0, 1), (1, 1), (2, 1), (3, 2)] := ⟨.inl ⟨_, Try.underlying64, by kernel_rfl, by kernel_rfl⟩⟩
instance : Aggr Try.prog 64 5 := ⟨⟨_, Try.underlying64, rfl⟩, by kernel_rfl⟩
instance : Fld Try.prog 64 0 0 := ⟨fld_of (by kernel_rfl)⟩
instance : Fld Try.prog 64 1 1 := ⟨fld_of (by kernel_rfl)⟩
instance : Fld Try.prog 64 2 2 := ⟨fld_of (by kernel_rfl)⟩
instance : Fld Try.prog 64 3 3 := ⟨fld_of (by kernel_rfl)⟩
instance : Sz Try.prog 65 (.agg #[.int .i64 0, .slice none 0 0, .int .i64 0, .int .i64 0, .slice none 0 0]) 5 72 := ⟨by kernel_rfl⟩
instance : ZeroC Try.prog 65 [.int .i64 0, .slice none 0 0, .int .i64 0, .int .i64 0, .slice none 0 0] := ⟨zeroC_of (z := .agg #[.int .i64 0, .slice none 0 0, .int .i64 0, .int .i64 0, .slice none 0 0]) (by kernel_rfl) rfl⟩
instance : Parts Try.prog 65 [(0, 1), (1, 1), (2, 1), (3, 2)] := ⟨.inl ⟨_, Try.underlying65, by kernel_rfl, by kernel_rfl⟩⟩
instance : Aggr Try.prog 65 5 := ⟨⟨_, Try.underlying65, rfl⟩, by kernel_rfl⟩
instance : Fld Try.prog 65 0 0 := ⟨fld_of (by kernel_rfl)⟩
instance : Fld Try.prog 65 1 1 := ⟨fld_of (by kernel_rfl)⟩
instance : Fld Try.prog 65 2 2 := ⟨fld_of (by kernel_rfl)⟩
instance : Fld Try.prog 65 3 3 := ⟨fld_of (by kernel_rfl)⟩
instance : Sz Try.prog 68 (.agg #[.int .i64 0, .int .i64 0, .int .i64 0]) 3 24 := ⟨by kernel_rfl⟩
instance : ZeroC Try.prog 68 [.int .i64 0, .int .i64 0, .int .i64 0] := ⟨zeroC_of (z := .agg #[.int .i64 0, .int .i64 0, .int .i64 0]) (by kernel_rfl) rfl⟩
instance : Parts Try.prog 68 [(0, 1), (1, 1), (2, 1)] := ⟨.inl ⟨_, Try.underlying68, by kernel_rfl, by kernel_rfl⟩⟩
instance : Aggr Try.prog 68 3 := ⟨⟨_, Try.underlying68, rfl⟩, by kernel_rfl⟩
instance : Fld Try.prog 68 0 0 := ⟨fld_of (by kernel_rfl)⟩
instance : Fld Try.prog 68 1 1 := ⟨fld_of (by kernel_rfl)⟩
instance : Fld Try.prog 68 2 2 := ⟨fld_of (by kernel_rfl)⟩
instance : Sz Try.prog 69 (.agg #[.int .i64 0, .int .i64 0, .int .i64 0, .int .i64 0, .int .i64 0, .int .i64 0, .int .i64 0, .int .i64 0, .int .i64 0, .int .i64 0, .int .i64 0, .int .i64 0]) 12 96 := ⟨by kernel_rfl⟩
instance : ZeroC Try.prog 69 [.int .i64 0, .int .i64 0, .int .i64 0, .int .i64 0, .int .i64 0, .int .i64 0, .int .i64 0, .int .i64 0, .int .i64 0, .int .i64 0, .int .i64 0, .int .i64 0] := ⟨zeroC_of (z := .agg #[.int .i64 0, .int .i64 0, .int .i64 0, .int .i64 0, .int .i64 0, .int .i64 0, .int .i64 0, .int .i64 0, .int .i64 0, .int .i64 0, .int .i64 0, .int .i64 0]) (by kernel_rfl) rfl⟩
instance : Parts Try.prog 69 [(0, 3), (3, 3), (6, 3), (9, 3)] := ⟨.inr ⟨_, _, Try.underlying69, by kernel_rfl, by kernel_rfl⟩⟩
instance : Aggr Try.prog 69 12 := ⟨⟨_, Try.underlying69, rfl⟩, by kernel_rfl⟩
instance : ArrT Try.prog 69 4 68 := ⟨Try.underlying69⟩
instance : Sz Try.prog 70 (.agg #[.int .i64 0, .int .i64 0, .int .i64 0, .int .i64 0, .int .i64 0, .int .i64 0, .int .i64 0, .int .i64 0, .int .i64 0, .int .i64 0, .int .i64 0, .int .i64 0]) 12 96 := ⟨by kernel_rfl⟩
instance : ZeroC Try.prog 70 [.int .i64 0, .int .i64 0, .int .i64 0, .int .i64 0, .int .i64 0, .int .i64 0, .int .i64 0, .int .i64 0, .int .i64 0, .int .i64 0, .int .i64 0, .int .i64 0] := ⟨zeroC_of (z := .agg #[.int .i64 0, .int .i64 0, .int .i64 0, .int .i64 0, .int .i64 0, .int .i64 0, .int .i64 0, .int .i64 0, .int .i64 0, .int .i64 0, .int .i64 0, .int .i64 0]) (by kernel_rfl) rfl⟩
instance : Parts Try.prog 70 [(0, 12)] := ⟨.inl ⟨_, Try.underlying70, by kernel_rfl, by kernel_rfl⟩⟩
instance : Aggr Try.prog 70 12 := ⟨⟨_, Try.underlying70, rfl⟩, by kernel_rfl⟩
instance : Fld Try.prog 70 0 0 := ⟨fld_of (by kernel_rfl)⟩
instance : Sz Try.prog 71 (.agg #[.int .i64 0, .int .i64 0, .int .i64 0, .int .i64 0, .int .i64 0, .int .i64 0, .int .i64 0, .int .i64 0, .int .i64 0, .int .i64 0, .int .i64 0, .int .i64 0]) 12 96 := ⟨by kernel_rfl⟩
instance : ZeroC Try.prog 71 [.int .i64 0, .int .i64 0, .int .i64 0, .int .i64 0, .int .i64 0, .int .i64 0, .int .i64 0, .int .i64 0, .int .i64 0, .int .i64 0, .int .i64 0, .int .i64 0] := ⟨zeroC_of (z := .agg #[.int .i64 0, .int .i64 0, .int .i64 0, .int .i64 0, .int .i64 0, .int .i64 0, .int .i64 0, .int .i64 0, .int .i64 0, .int .i64 0, .int .i64 0, .int .i64 0]) (by kernel_rfl) rfl⟩
instance : Parts Try.prog 71 [(0, 12)] := ⟨.inl ⟨_, Try.underlying71, by kernel_rfl, by kernel_rfl⟩⟩
instance : Aggr Try.prog 71 12 := ⟨⟨_, Try.underlying71, rfl⟩, by kernel_rfl⟩
instance : Fld Try.prog 71 0 0 := ⟨fld_of (by kernel_rfl)⟩
instance : Sz Try.prog 79 (.agg #[.int .i64 0, .int .i64 0, .int .i64 0, .int .i64 0, .bool false, .int .i64 0, .int .i64 0]) 7 56 := ⟨by kernel_rfl⟩
instance : ZeroC Try.prog 79 [.int .i64 0, .int .i64 0, .int .i64 0, .int .i64 0, .bool false, .int .i64 0, .int .i64 0] := ⟨zeroC_of (z := .agg #[.int .i64 0, .int .i64 0, .int .i64 0, .int .i64 0, .bool false, .int .i64 0, .int .i64 0]) (by kernel_rfl) rfl⟩
instance : Parts Try.prog 79 [(0, 1), (1, 1), (2, 1), (3, 1), (4, 1), (5, 1), (6, 1)] := ⟨.inl ⟨_, Try.underlying79, by kernel_rfl, by kernel_rfl⟩⟩
instance : Aggr Try.prog 79 7 := ⟨⟨_, Try.underlying79, rfl⟩, by kernel_rfl⟩
instance : Fld Try.prog 79 0 0 := ⟨fld_of (by kernel_rfl)⟩
instance : Fld Try.prog 79 1 1 := ⟨fld_of (by kernel_rfl)⟩
instance : Fld Try.prog 79 2 2 := ⟨fld_of (by kernel_rfl)⟩
instance : Fld Try.prog 79 3 3 := ⟨fld_of (by kernel_rfl)⟩
instance : Fld Try.prog 79 4 4 := ⟨fld_of (by kernel_rfl)⟩
instance : Fld Try.prog 79 5 5 := ⟨fld_of (by kernel_rfl)⟩
instance : Fld Try.prog 79 6 6 := ⟨fld_of (by kernel_rfl)⟩
instance : Sz Try.prog 80 (.agg #[.int .i64 0, .int .i64 0, .int .i64 0, .int .i64 0, .bool false, .int .i64 0, .int .i64 0]) 7 56 := ⟨by kernel_rfl⟩
instance : ZeroC Try.prog 80 [.int .i64 0, .int .i64 0, .int .i64 0, .int .i64 0, .bool false, .int .i64 0, .int .i64 0] := ⟨zeroC_of (z := .agg #[.int .i64 0, .int .i64 0, .int .i64 0, .int .i64 0, .bool false, .int .i64 0, .int .i64 0]) (by kernel_rfl) rfl⟩
instance : Parts Try.prog 80 [(0, 1), (1, 1), (2, 1), (3, 1), (4, 1), (5, 1), (6, 1)] := ⟨.inl ⟨_, Try.underlying80, by kernel_rfl, by kernel_rfl⟩⟩
instance : Aggr Try.prog 80 7 := ⟨⟨_, Try.underlying80, rfl⟩, by kernel_rfl⟩
instance : Fld Try.prog 80 0 0 := ⟨fld_of (by kernel_rfl)⟩
instance : Fld Try.prog 80 1 1 := ⟨fld_of (by kernel_rfl)⟩
instance : Fld Try.prog 80 2 2 := ⟨fld_of (by kernel_rfl)⟩
instance : Fld Try.prog 80 3 3 := ⟨fld_of (by kernel_rfl)⟩
instance : Fld Try.prog 80 4 4 := ⟨fld_of (by kernel_rfl)⟩
instance : Fld Try.prog 80 5 5 := ⟨fld_of (by kernel_rfl)⟩
instance : Fld Try.prog 80 6 6 := ⟨fld_of (by kernel_rfl)⟩
instance : Sz Try.prog 81 (.slice none 0 0) 1 24 := ⟨by kernel_rfl⟩
instance : ZeroC Try.prog 81 [.slice none 0 0] := ⟨zeroC_of (z := .slice none 0 0) (by kernel_rfl) rfl⟩
instance : Scalar Try.prog 81 := ⟨_, Try.underlying81, rfl⟩
instance : SliceT Try.prog 81 193 := ⟨Try.underlying81⟩
instance : Sz Try.prog 82 (.slice none 0 0) 1 24 := ⟨by kernel_rfl⟩
instance : ZeroC Try.prog 82 [.slice none 0 0] := ⟨zeroC_of (z := .slice none 0 0) (by kernel_rfl) rfl⟩
instance : Scalar Try.prog 82 := ⟨_, Try.underlying82, rfl⟩
instance : SliceT Try.prog 82 197 := ⟨Try.underlying82⟩
instance : Sz Try.prog 83 (.agg #[.int .i64 0, .int .i64 0, .int .i64 0, .int .i64 0, .bool false, .int .i64 0, .int .i64 0, .int .i64 0, .slice none 0 0, .slice none 0 0, .slice none 0 0, .int .i64 0]) 12 144 := ⟨by kernel_rfl⟩
instance : ZeroC Try.prog 83 [.int .i64 0, .int .i64 0, .int .i64 0, .int .i64 0, .bool false, .int .i64 0, .int .i64 0, .int .i64 0, .slice none 0 0, .slice none 0 0, .slice none 0 0, .int .i64 0] := ⟨zeroC_of (z := .agg #[.int .i64 0, .int .i64 0, .int .i64 0, .int .i64 0, .bool false, .int .i64 0, .int .i64 0, .int .i64 0, .slice none 0 0, .slice none 0 0, .slice none 0 0, .int .i64 0]) (by kernel_rfl) rfl⟩
instance : Parts Try.prog 83 [(0, 7), (7, 2), (9, 1), (10, 1), (11, 1)] := ⟨.inl ⟨_, Try.underlying83, by kernel_rfl, by kernel_rfl⟩⟩
instance : Aggr Try.prog 83 12 := ⟨⟨_, Try.underlying83, rfl⟩, by kernel_rfl⟩
instance : Fld Try.prog 83 0 0 := ⟨fld_of (by kernel_rfl)⟩
instance : Fld Try.prog 83 1 7 := ⟨fld_of (by kernel_rfl)⟩
instance : Fld Try.prog 83 2 9 := ⟨fld_of (by kernel_rfl)⟩
instance : Fld Try.prog 83 3 10 := ⟨fld_of (by kernel_rfl)⟩
instance : Fld Try.prog 83 4 11 := ⟨fld_of (by kernel_rfl)⟩
instance : Sz Try.prog 84 (.agg #[.int .i64 0, .int .i64 0, .int .i64 0, .int .i64 0, .bool false, .int .i64 0, .int .i64 0, .int .i64 0, .slice none 0 0, .slice none 0 0, .slice none 0 0, .int .i64 0]) 12 144 := ⟨by kernel_rfl⟩
instance : ZeroC Try.prog 84 [.int .i64 0, .int .i64 0, .int .i64 0, .int .i64 0, .bool false, .int .i64 0, .int .i64 0, .int .i64 0, .slice none 0 0, .slice none 0 0, .slice none 0 0, .int .i64 0] := ⟨zeroC_of (z := .agg #[.int .i64 0, .int .i64 0, .int .i64 0, .int .i64 0, .bool false, .int .i64 0, .int .i64 0, .int .i64 0, .slice none 0 0, .slice none 0 0, .slice none 0 0, .int .i64 0]) (by kernel_rfl) rfl⟩
instance : Parts Try.prog 84 [(0, 7), (7, 2), (9, 1), (10, 1), (11, 1)] := ⟨.inl ⟨_, Try.underlying84, by kernel_rfl, by kernel_rfl⟩⟩
instance : Aggr Try.prog 84 12 := ⟨⟨_, Try.underlying84, rfl⟩, by kernel_rfl⟩
instance : Fld Try.prog 84 0 0 := ⟨fld_of (by kernel_rfl)⟩
instance : Fld Try.prog 84 1 7 := ⟨fld_of (by kernel_rfl)⟩
instance : Fld Try.prog 84 2 9 := ⟨fld_of (by kernel_rfl)⟩
instance : Fld Try.prog 84 3 10 := ⟨fld_of (by kernel_rfl)⟩
instance : Fld Try.prog 84 4 11 := ⟨fld_of (by kernel_rfl)⟩
instance : Sz Try.prog 87 (.agg #[.int .i64 0, .int .i64 0, .int .i64 0, .int .i64 0, .bool false, .int .i64 0, .int .i64 0]) 7 56 := ⟨by kernel_rfl⟩
instance : ZeroC Try.prog 87 [.int .i64 0, .int .i64 0, .int .i64 0, .int .i64 0, .bool false, .int .i64 0, .int .i64 0] := ⟨zeroC_of (z := .agg #[.int .i64 0, .int .i64 0, .int .i64 0, .int .i64 0, .bool false, .int .i64 0, .int .i64 0]) (by kernel_rfl) rfl⟩
instance : Parts Try.prog 87 [(0, 1), (1, 1), (2, 1), (3, 1), (4, 1), (5, 1), (6, 1)] := ⟨.inl ⟨_, Try.underlying87, by kernel_rfl, by kernel_rfl⟩⟩
instance : Aggr Try.prog 87 7 := ⟨⟨_, Try.underlying87, rfl⟩, by kernel_rfl⟩
instance : Fld Try.prog 87 0 0 := ⟨fld_of (by kernel_rfl)⟩
instance : Fld Try.prog 87 1 1 := ⟨fld_of (by kernel_rfl)⟩
instance : Fld Try.prog 87 2 2 := ⟨fld_of (by kernel_rfl)⟩
instance : Fld Try.prog 87 3 3 := ⟨fld_of (by kernel_rfl)⟩
instance : Fld Try.prog 87 4 4 := ⟨fld_of (by kernel_rfl)⟩
instance : Fld Try.prog 87 5 5 := ⟨fld_of (by kernel_rfl)⟩
instance : Fld Try.prog 87 6 6 := ⟨fld_of (by kernel_rfl)⟩
instance : Sz Try.prog 88 (.slice none 0 0) 1 24 := ⟨by kernel_rfl⟩
instance : ZeroC Try.prog 88 [.slice none 0 0] := ⟨zeroC_of (z := .slice none 0 0) (by kernel_rfl) rfl⟩
instance : Scalar Try.prog 88 := ⟨_, Try.underlying88, rfl⟩
instance : SliceT Try.prog 88 42 := ⟨Try.underlying88⟩
instance : Sz Try.prog 89 (.slice none 0 0) 1 24 := ⟨by kernel_rfl⟩
instance : ZeroC Try.prog 89 [.slice none 0 0] := ⟨zeroC_of (z := .slice none 0 0) (by kernel_rfl) rfl⟩
instance : Scalar Try.prog 89 := ⟨_, Try.underlying89, rfl⟩
instance : SliceT Try.prog 89 154 := ⟨Try.underlying89⟩
instance : Sz Try.prog 90 (.agg #[.int .i64 0, .int .i64 0, .int .i64 0, .int .i64 0, .bool false, .int .i64 0, .int .i64 0, .int .i64 0, .slice none 0 0, .slice none 0 0, .slice none 0 0, .int .i64 0]) 12 144 := ⟨by kernel_rfl⟩
instance : ZeroC Try.prog 90 [.int .i64 0, .int .i64 0, .int .i64 0, .int .i64 0, .bool false, .int .i64 0, .int .i64 0, .int .i64 0, .slice none 0 0, .slice none 0 0, .slice none 0 0, .int .i64 0] := ⟨zeroC_of (z := .agg #[.int .i64 0, .int .i64 0, .int .i64 0, .int .i64 0, .bool false, .int .i64 0, .int .i64 0, .int .i64 0, .slice none 0 0, .slice none 0 0, .slice none 0 0, .int .i64 0]) (by kernel_rfl) rfl⟩
instance : Parts Try.prog 90 [(0, 7), (7, 2), (9, 1), (10, 1), (11, 1)] := ⟨.inl ⟨_, Try.underlying90, by kernel_rfl, by kernel_rfl⟩⟩
instance : Aggr Try.prog 90 12 := ⟨⟨_, Try.underlying90, rfl⟩, by kernel_rfl⟩
instance : Fld Try.prog 90 0 0 := ⟨fld_of (by kernel_rfl)⟩
instance : Fld Try.prog 90 1 7 := ⟨fld_of (by kernel_rfl)⟩
instance : Fld Try.prog 90 2 9 := ⟨fld_of (by kernel_rfl)⟩
instance : Fld Try.prog 90 3 10 := ⟨fld_of (by kernel_rfl)⟩
instance : Fld Try.prog 90 4 11 := ⟨fld_of (by kernel_rfl)⟩
instance : Sz Try.prog 91 (.agg #[.int .i64 0, .int .i64 0, .int .i64 0, .int .i64 0, .bool false, .int .i64 0, .int .i64 0, .int .i64 0, .slice none 0 0, .slice none 0 0, .slice none 0 0, .int .i64 0]) 12 144 := ⟨by kernel_rfl⟩
instance : ZeroC Try.prog 91 [.int .i64 0, .int .i64 0, .int .i64 0, .int .i64 0, .bool false, .int .i64 0, .int .i64 0, .int .i64 0, .slice none 0 0, .slice none 0 0, .slice none 0 0, .int .i64 0] := ⟨zeroC_of (z := .agg #[.int .i64 0, .int .i64 0, .int .i64 0, .int .i64 0, .bool false, .int .i64 0, .int .i64 0, .int .i64 0, .slice none 0 0, .slice none 0 0, .slice none 0 0, .int .i64 0]) (by kernel_rfl) rfl⟩
instance : Parts Try.prog 91 [(0, 7), (7, 2), (9, 1), (10, 1), (11, 1)] := ⟨.inl ⟨_, Try.underlying91, by kernel_rfl, by kernel_rfl⟩⟩
instance : Aggr Try.prog 91 12 := ⟨⟨_, Try.underlying91, rfl⟩, by kernel_rfl⟩
instance : Fld Try.prog 91 0 0 := ⟨fld_of (by kernel_rfl)⟩
instance : Fld Try.prog 91 1 7 := ⟨fld_of (by kernel_rfl)⟩
instance : Fld Try.prog 91 2 9 := ⟨fld_of (by kernel_rfl)⟩
instance : Fld Try.prog 91 3 10 := ⟨fld_of (by kernel_rfl)⟩
instance : Fld Try.prog 91 4 11 := ⟨fld_of (by kernel_rfl)⟩
instance : Sz Try.prog 97 (.nilFunc) 1 8 := ⟨by kernel_rfl⟩
instance : ZeroC Try.prog 97 [.nilFunc] := ⟨zeroC_of (z := .nilFunc) (by kernel_rfl) rfl⟩
instance : Scalar Try.prog 97 := ⟨_, Try.underlying97, rfl⟩
instance : Sz Try.prog 98 (.nilFunc) 1 8 := ⟨by kernel_rfl⟩
instance : ZeroC Try.prog 98 [.nilFunc] := ⟨zeroC_of (z := .nilFunc) (by kernel_rfl) rfl⟩
instance : Scalar Try.prog 98 := ⟨_, Try.underlying98, rfl⟩
instance : Sz Try.prog 99 (.nilFunc) 1 8 := ⟨by kernel_rfl⟩
instance : ZeroC Try.prog 99 [.nilFunc] := ⟨zeroC_of (z := .nilFunc) (by kernel_rfl) rfl⟩
instance : Scalar Try.prog 99 := ⟨_, Try.underlying99, rfl⟩
instance : Sz Try.prog 100 (.nilFunc) 1 8 := ⟨by kernel_rfl⟩
instance : ZeroC Try.prog 100 [.nilFunc] := ⟨zeroC_of (z := .nilFunc) (by kernel_rfl) rfl⟩
instance : Scalar Try.prog 100 := ⟨_, Try.underlying100, rfl⟩
instance : Sz Try.prog 101 (.nilFunc) 1 8 := ⟨by kernel_rfl⟩
instance : ZeroC Try.prog 101 [.nilFunc] := ⟨zeroC_of (z := .nilFunc) (by kernel_rfl) rfl⟩
instance : Scalar Try.prog 101 := ⟨_, Try.underlying101, rfl⟩
instance : Sz Try.prog 102 (.nilFunc) 1 8 := ⟨by kernel_rfl⟩
instance : ZeroC Try.prog 102 [.nilFunc] := ⟨zeroC_of (z := .nilFunc) (by kernel_rfl) rfl⟩
instance : Scalar Try.prog 102 := ⟨_, Try.underlying102, rfl⟩
instance : Sz Try.prog 103 (.nilFunc) 1 8 := ⟨by kernel_rfl⟩
instance : ZeroC Try.prog 103 [.nilFunc] := ⟨zeroC_of (z := .nilFunc) (by kernel_rfl) rfl⟩
instance : Scalar Try.prog 103 := ⟨_, Try.underlying103, rfl⟩
instance : Sz Try.prog 104 (.map none) 1 8 := ⟨by kernel_rfl⟩
instance : ZeroC Try.prog 104 [.map none] := ⟨zeroC_of (z := .map none) (by kernel_rfl) rfl⟩
instance : Scalar Try.prog 104 := ⟨_, Try.underlying104, rfl⟩
instance : Sz Try.prog 105 (.map none) 1 8 := ⟨by kernel_rfl⟩
instance : ZeroC Try.prog 105 [.map none] := ⟨zeroC_of (z := .map none) (by kernel_rfl) rfl⟩
instance : Scalar Try.prog 105 := ⟨_, Try.underlying105, rfl⟩
instance : Sz Try.prog 107 (.nilFunc) 1 8 := ⟨by kernel_rfl⟩
instance : ZeroC Try.prog 107 [.nilFunc] := ⟨zeroC_of (z := .nilFunc) (by kernel_rfl) rfl⟩
instance : Scalar Try.prog 107 := ⟨_, Try.underlying107, rfl⟩
instance : Sz Try.prog 108 (.nilFunc) 1 8 := ⟨by kernel_rfl⟩
instance : ZeroC Try.prog 108 [.nilFunc] := ⟨zeroC_of (z := .nilFunc) (by kernel_rfl) rfl⟩
instance : Scalar Try.prog 108 := ⟨_, Try.underlying108, rfl⟩
instance : Sz Try.prog 109 (.nilFunc) 1 8 := ⟨by kernel_rfl⟩
instance : ZeroC Try.prog 109 [.nilFunc] := ⟨zeroC_of (z := .nilFunc) (by kernel_rfl) rfl⟩
instance : Scalar Try.prog 109 := ⟨_, Try.underlying109, rfl⟩
instance : Sz Try.prog 110 (.nilFunc) 1 8 := ⟨by kernel_rfl⟩
instance : ZeroC Try.prog 110 [.nilFunc] := ⟨zeroC_of (z := .nilFunc) (by kernel_rfl) rfl⟩
instance : Scalar Try.prog 110 := ⟨_, Try.underlying110, rfl⟩
instance : Sz Try.prog 111 (.nilFunc) 1 8 := ⟨by kernel_rfl⟩
instance : ZeroC Try.prog 111 [.nilFunc] := ⟨zeroC_of (z := .nilFunc) (by kernel_rfl) rfl⟩
instance : Scalar Try.prog 111 := ⟨_, Try.underlying111, rfl⟩
instance : Sz Try.prog 112 (.pointer none) 1 8 := ⟨by kernel_rfl⟩
instance : ZeroC Try.prog 112 [.pointer none] := ⟨zeroC_of (z := .pointer none) (by kernel_rfl) rfl⟩
instance : Scalar Try.prog 112 := ⟨_, Try.underlying112, rfl⟩
instance : Sz Try.prog 114 (.nilFunc) 1 8 := ⟨by kernel_rfl⟩
instance : ZeroC Try.prog 114 [.nilFunc] := ⟨zeroC_of (z := .nilFunc) (by kernel_rfl) rfl⟩
instance : Scalar Try.prog 114 := ⟨_, Try.underlying114, rfl⟩
instance : Sz Try.prog 115 (.map none) 1 8 := ⟨by kernel_rfl⟩
instance : ZeroC Try.prog 115 [.map none] := ⟨zeroC_of (z := .map none) (by kernel_rfl) rfl⟩
instance : Scalar Try.prog 115 := ⟨_, Try.underlying115, rfl⟩
instance : Sz Try.prog 116 (.nilFunc) 1 8 := ⟨by kernel_rfl⟩
instance : ZeroC Try.prog 116 [.nilFunc] := ⟨zeroC_of (z := .nilFunc) (by kernel_rfl) rfl⟩
instance : Scalar Try.prog 116 := ⟨_, Try.underlying116, rfl⟩
instance : Sz Try.prog 117 (.nilFunc) 1 8 := ⟨by kernel_rfl⟩
instance : ZeroC Try.prog 117 [.nilFunc] := ⟨zeroC_of (z := .nilFunc) (by kernel_rfl) rfl⟩
instance : Scalar Try.prog 117 := ⟨_, Try.underlying117, rfl⟩
instance : Sz Try.prog 118 (.agg #[.int .i64 0, .string ⟨#[]⟩, .int .i64 0, .slice none 0 0]) 4 56 := ⟨by kernel_rfl⟩
instance : ZeroC Try.prog 118 [.int .i64 0, .string ⟨#[]⟩, .int .i64 0, .slice none 0 0] := ⟨zeroC_of (z := .agg #[.int .i64 0, .string ⟨#[]⟩, .int .i64 0, .slice none 0 0]) (by kernel_rfl) rfl⟩
instance : Parts Try.prog 118 [(0, 1), (1, 1), (2, 1), (3, 1)] := ⟨.inl ⟨_, Try.underlying118, by kernel_rfl, by kernel_rfl⟩⟩
instance : Aggr Try.prog 118 4 := ⟨⟨_, Try.underlying118, rfl⟩, by kernel_rfl⟩
instance : Fld Try.prog 118 0 0 := ⟨fld_of (by kernel_rfl)⟩
instance : Fld Try.prog 118 1 1 := ⟨fld_of (by kernel_rfl)⟩
instance : Fld Try.prog 118 2 2 := ⟨fld_of (by kernel_rfl)⟩
instance : Fld Try.prog 118 3 3 := ⟨fld_of (by kernel_rfl)⟩
instance : Sz Try.prog 119 (.agg #[.int .i64 0, .string ⟨#[]⟩, .int .i64 0, .slice none 0 0]) 4 56 := ⟨by kernel_rfl⟩
instance : ZeroC Try.prog 119 [.int .i64 0, .string ⟨#[]⟩, .int .i64 0, .slice none 0 0] := ⟨zeroC_of (z := .agg #[.int .i64 0, .string ⟨#[]⟩, .int .i64 0, .slice none 0 0]) (by kernel_rfl) rfl⟩
instance : Parts Try.prog 119 [(0, 1), (1, 1), (2, 1), (3, 1)] := ⟨.inl ⟨_, Try.underlying119, by kernel_rfl, by kernel_rfl⟩⟩
instance : Aggr Try.prog 119 4 := ⟨⟨_, Try.underlying119, rfl⟩, by kernel_rfl⟩
instance : Fld Try.prog 119 0 0 := ⟨fld_of (by kernel_rfl)⟩
instance : Fld Try.prog 119 1 1 := ⟨fld_of (by kernel_rfl)⟩
instance : Fld Try.prog 119 2 2 := ⟨fld_of (by kernel_rfl)⟩
instance : Fld Try.prog 119 3 3 := ⟨fld_of (by kernel_rfl)⟩
instance : Sz Try.prog 120 (.nilFunc) 1 8 := ⟨by kernel_rfl⟩
instance : ZeroC Try.prog 120 [.nilFunc] := ⟨zeroC_of (z := .nilFunc) (by kernel_rfl) rfl⟩
instance : Scalar Try.prog 120 := ⟨_, Try.underlying120, rfl⟩
instance : Sz Try.prog 121 (.nilIface) 1 16 := ⟨by kernel_rfl⟩
instance : ZeroC Try.prog 121 [.nilIface] := ⟨zeroC_of (z := .nilIface) (by kernel_rfl) rfl⟩
instance : Scalar Try.prog 121 := ⟨_, Try.underlying121, rfl⟩
instance : Sz Try.prog 122 (.nilIface) 1 16 := ⟨by kernel_rfl⟩
instance : ZeroC Try.prog 122 [.nilIface] := ⟨zeroC_of (z := .nilIface) (by kernel_rfl) rfl⟩
instance : Scalar Try.prog 122 := ⟨_, Try.underlying122, rfl⟩
instance : Sz Try.prog 127 (.slice none 0 0) 1 24 := ⟨by kernel_rfl⟩
instance : ZeroC Try.prog 127 [.slice none 0 0] := ⟨zeroC_of (z := .slice none 0 0) (by kernel_rfl) rfl⟩
instance : Scalar Try.prog 127 := ⟨_, Try.underlying127, rfl⟩
instance : SliceT Try.prog 127 4 := ⟨Try.underlying127⟩
instance : Sz Try.prog 129 (.slice none 0 0) 1 24 := ⟨by kernel_rfl⟩
instance : ZeroC Try.prog 129 [.slice none 0 0] := ⟨zeroC_of (z := .slice none 0 0) (by kernel_rfl) rfl⟩
instance : Scalar Try.prog 129 := ⟨_, Try.underlying129, rfl⟩
instance : SliceT Try.prog 129 9 := ⟨Try.underlying129⟩
instance : Sz Try.prog 133 (.agg #[.int .i64 0, .int .i64 0, .int .i64 0, .int .i64 0, .int .i64 0]) 5 40 := ⟨by kernel_rfl⟩
instance : ZeroC Try.prog 133 [.int .i64 0, .int .i64 0, .int .i64 0, .int .i64 0, .int .i64 0] := ⟨zeroC_of (z := .agg #[.int .i64 0, .int .i64 0, .int .i64 0, .int .i64 0, .int .i64 0]) (by kernel_rfl) rfl⟩
instance : Parts Try.prog 133 [(0, 1), (1, 1), (2, 1), (3, 1), (4, 1)] := ⟨.inl ⟨_, Try.underlying133, by kernel_rfl, by kernel_rfl⟩⟩
instance : Aggr Try.prog 133 5 := ⟨⟨_, Try.underlying133, rfl⟩, by kernel_rfl⟩
instance : Fld Try.prog 133 0 0 := ⟨fld_of (by kernel_rfl)⟩
instance : Fld Try.prog 133 1 1 := ⟨fld_of (by kernel_rfl)⟩
instance : Fld Try.prog 133 2 2 := ⟨fld_of (by kernel_rfl)⟩
instance : Fld Try.prog 133 3 3 := ⟨fld_of (by kernel_rfl)⟩
instance : Fld Try.prog 133 4 4 := ⟨fld_of (by kernel_rfl)⟩
instance : Sz Try.prog 134 (.agg #[.int .i64 0, .int .i64 0, .int .i64 0, .int .i64 0, .int .i64 0]) 5 40 := ⟨by kernel_rfl⟩
instance : ZeroC Try.prog 134 [.int .i64 0, .int .i64 0, .int .i64 0, .int .i64 0, .int .i64 0] := ⟨zeroC_of (z := .agg #[.int .i64 0, .int .i64 0, .int .i64 0, .int .i64 0, .int .i64 0]) (by kernel_rfl) rfl⟩
instance : Parts Try.prog 134 [(0, 1), (1, 1), (2, 1), (3, 1), (4, 1)] := ⟨.inl ⟨_, Try.underlying134, by kernel_rfl, by kernel_rfl⟩⟩
instance : Aggr Try.prog 134 5 := ⟨⟨_, Try.underlying134, rfl⟩, by kernel_rfl⟩
instance : Fld Try.prog 134 0 0 := ⟨fld_of (by kernel_rfl)⟩
instance : Fld Try.prog 134 1 1 := ⟨fld_of (by kernel_rfl)⟩
instance : Fld Try.prog 134 2 2 := ⟨fld_of (by kernel_rfl)⟩
instance : Fld Try.prog 134 3 3 := ⟨fld_of (by kernel_rfl)⟩
instance : Fld Try.prog 134 4 4 := ⟨fld_of (by kernel_rfl)⟩
instance : Sz Try.prog 136 (.nilFunc) 1 8 := ⟨by kernel_rfl⟩
instance : ZeroC Try.prog 136 [.nilFunc] := ⟨zeroC_of (z := .nilFunc) (by kernel_rfl) rfl⟩
instance : Scalar Try.prog 136 := ⟨_, Try.underlying136, rfl⟩
instance : Sz Try.prog 137 (.nilFunc) 1 8 := ⟨by kernel_rfl⟩
instance : ZeroC Try.prog 137 [.nilFunc] := ⟨zeroC_of (z := .nilFunc) (by kernel_rfl) rfl⟩
instance : Scalar Try.prog 137 := ⟨_, Try.underlying137, rfl⟩
instance : Sz Try.prog 151 (.nilFunc) 1 8 := ⟨by kernel_rfl⟩
instance : ZeroC Try.prog 151 [.nilFunc] := ⟨zeroC_of (z := .nilFunc) (by kernel_rfl) rfl⟩
instance : Scalar Try.prog 151 := ⟨_, Try.underlying151, rfl⟩
instance : Sz Try.prog 153 (.agg #[.int .i64 0, .int .i64 0, .int .i64 0, .int .i64 0, .int .i64 0, .int .i64 0, .int .i64 0, .int .i64 0, .int .i64 0, .int .i64 0, .int .i64 0, .int .i64 0, .int .i64 0, .int .i64 0, .int .i64 0, .int .i64 0, .int .i64 0, .int .i64 0, .int .i64 0, .int .i64 0, .int .i64 0, .int .i64 0, .int .i64 0, .int .i64 0, .int .i64 0, .int .i64 0]) 26 208 := ⟨by kernel_rfl⟩
instance : ZeroC Try.prog 153 [.int .i64 0, .int .i64 0, .int .i64 0, .int .i64 0, .int .i64 0, .int .i64 0, .int .i64 0, .int .i64 0, .int .i64 0, .int .i64 0, .int .i64 0, .int .i64 0, .int .i64 0, .int .i64 0, .int .i64 0, .int .i64 0, .int .i64 0, .int .i64 0, .int .i64 0, .int .i64 0, .int .i64 0, .int .i64 0, .int .i64 0, .int .i64 0, .int .i64 0, .int .i64 0] := ⟨zeroC_of (z := .agg #[.int .i64 0, .int .i64 0, .int .i64 0, .int .i64 0, .int .i64 0, .int .i64 0, .int .i64 0, .int .i64 0, .int .i64 0, .int .i64 0, .int .i64 0, .int .i64 0, .int .i64 0, .int .i64 0, .int .i64 0, .int .i64 0, .int .i64 0, .int .i64 0, .int .i64 0, .int .i64 0, .int .i64 0, .int .i64 0, .int .i64 0, .int .i64 0, .int .i64 0, .int .i64 0]) (by kernel_rfl) rfl⟩
instance : Parts Try.prog 153 [(0, 12), (12, 12), (24, 1), (25, 1)] := ⟨.inl ⟨_, Try.underlying153, by kernel_rfl, by kernel_rfl⟩⟩
instance : Aggr Try.prog 153 26 := ⟨⟨_, Try.underlying153, rfl⟩, by kernel_rfl⟩
instance : Fld Try.prog 153 0 0 := ⟨fld_of (by kernel_rfl)⟩
instance : Fld Try.prog 153 1 12 := ⟨fld_of (by kernel_rfl)⟩
instance : Fld Try.prog 153 2 24 := ⟨fld_of (by kernel_rfl)⟩
instance : Fld Try.prog 153 3 25 := ⟨fld_of (by kernel_rfl)⟩
instance : Sz Try.prog 154 (.agg #[.int .i64 0, .int .i64 0, .int .i64 0, .int .i64 0, .int .i64 0, .int .i64 0, .int .i64 0, .int .i64 0, .int .i64 0, .int .i64 0, .int .i64 0, .int .i64 0, .int .i64 0, .int .i64 0, .int .i64 0, .int .i64 0, .int .i64 0, .int .i64 0, .int .i64 0, .int .i64 0, .int .i64 0, .int .i64 0, .int .i64 0, .int .i64 0, .int .i64 0, .int .i64 0]) 26 208 := ⟨by kernel_rfl⟩
instance : ZeroC Try.prog 154 [.int .i64 0, .int .i64 0, .int .i64 0, .int .i64 0, .int .i64 0, .int .i64 0, .int .i64 0, .int .i64 0, .int .i64 0, .int .i64 0, .int .i64 0, .int .i64 0, .int .i64 0, .int .i64 0, .int .i64 0, .int .i64 0, .int .i64 0, .int .i64 0, .int .i64 0, .int .i64 0, .int .i64 0, .int .i64 0, .int .i64 0, .int .i64 0, .int .i64 0, .int .i64 0] := ⟨zeroC_of (z := .agg #[.int .i64 0, .int .i64 0, .int .i64 0, .int .i64 0, .int .i64 0, .int .i64 0, .int .i64 0, .int .i64 0, .int .i64 0, .int .i64 0, .int .i64 0, .int .i64 0, .int .i64 0, .int .i64 0, .int .i64 0, .int .i64 0, .int .i64 0, .int .i64 0, .int .i64 0, .int .i64 0, .int .i64 0, .int .i64 0, .int .i64 0, .int .i64 0, .int .i64 0, .int .i64 0]) (by kernel_rfl) rfl⟩
instance : Parts Try.prog 154 [(0, 12), (12, 12), (24, 1), (25, 1)] := ⟨.inl ⟨_, Try.underlying154, by kernel_rfl, by kernel_rfl⟩⟩
instance : Aggr Try.prog 154 26 := ⟨⟨_, Try.underlying154, rfl⟩, by kernel_rfl⟩
instance : Fld Try.prog 154 0 0 := ⟨fld_of (by kernel_rfl)⟩
instance : Fld Try.prog 154 1 12 := ⟨fld_of (by kernel_rfl)⟩
instance : Fld Try.prog 154 2 24 := ⟨fld_of (by kernel_rfl)⟩
instance : Fld Try.prog 154 3 25 := ⟨fld_of (by kernel_rfl)⟩
instance : Sz Try.prog 156 (.nilFunc) 1 8 := ⟨by kernel_rfl⟩
instance : ZeroC Try.prog 156 [.nilFunc] := ⟨zeroC_of (z := .nilFunc) (by kernel_rfl) rfl⟩
instance : Scalar Try.prog 156 := ⟨_, Try.underlying156, rfl⟩
instance : Sz Try.prog 157 (.nilFunc) 1 8 := ⟨by kernel_rfl⟩
instance : ZeroC Try.prog 157 [.nilFunc] := ⟨zeroC_of (z := .nilFunc) (by kernel_rfl) rfl⟩
instance : Scalar Try.prog 157 := ⟨_, Try.underlying157, rfl⟩
instance : Sz Try.prog 162 (.nilFunc) 1 8 := ⟨by kernel_rfl⟩
instance : ZeroC Try.prog 162 [.nilFunc] := ⟨zeroC_of (z := .nilFunc) (by kernel_rfl) rfl⟩
instance : Scalar Try.prog 162 := ⟨_, Try.underlying162, rfl⟩
instance : Sz Try.prog 167 (.agg #[.slice none 0 0, .int .i64 0, .int .i64 0]) 3 40 := ⟨by kernel_rfl⟩
instance : ZeroC Try.prog 167 [.slice none 0 0, .int .i64 0, .int .i64 0] := ⟨zeroC_of (z := .agg #[.slice none 0 0, .int .i64 0, .int .i64 0]) (by kernel_rfl) rfl⟩
instance : Parts Try.prog 167 [(0, 1), (1, 1), (2, 1)] := ⟨.inl ⟨_, Try.underlying167, by kernel_rfl, by kernel_rfl⟩⟩
instance : Aggr Try.prog 167 3 := ⟨⟨_, Try.underlying167, rfl⟩, by kernel_rfl⟩
instance : Fld Try.prog 167 0 0 := ⟨fld_of (by kernel_rfl)⟩
instance : Fld Try.prog 167 1 1 := ⟨fld_of (by kernel_rfl)⟩
instance : Fld Try.prog 167 2 2 := ⟨fld_of (by kernel_rfl)⟩
instance : Sz Try.prog 168 (.agg #[.slice none 0 0, .int .i64 0, .int .i64 0]) 3 40 := ⟨by kernel_rfl⟩
instance : ZeroC Try.prog 168 [.slice none 0 0, .int .i64 0, .int .i64 0] := ⟨zeroC_of (z := .agg #[.slice none 0 0, .int .i64 0, .int .i64 0]) (by kernel_rfl) rfl⟩
instance : Parts Try.prog 168 [(0, 1), (1, 1), (2, 1)] := ⟨.inl ⟨_, Try.underlying168, by kernel_rfl, by kernel_rfl⟩⟩
instance : Aggr Try.prog 168 3 := ⟨⟨_, Try.underlying168, rfl⟩, by kernel_rfl⟩
instance : Fld Try.prog 168 0 0 := ⟨fld_of (by kernel_rfl)⟩
instance : Fld Try.prog 168 1 1 := ⟨fld_of (by kernel_rfl)⟩
instance : Fld Try.prog 168 2 2 := ⟨fld_of (by kernel_rfl)⟩
instance : Sz Try.prog 171 (.nilFunc) 1 8 := ⟨by kernel_rfl⟩
instance : ZeroC Try.prog 171 [.nilFunc] := ⟨zeroC_of (z := .nilFunc) (by kernel_rfl) rfl⟩
instance : Scalar Try.prog 171 := ⟨_, Try.underlying171, rfl⟩
instance : Sz Try.prog 172 (.nilFunc) 1 8 := ⟨by kernel_rfl⟩
instance : ZeroC Try.prog 172 [.nilFunc] := ⟨zeroC_of (z := .nilFunc) (by kernel_rfl) rfl⟩
instance : Scalar Try.prog 172 := ⟨_, Try.underlying172, rfl⟩
instance : Sz Try.prog 173 (.agg #[.int .i64 0, .string ⟨#[]⟩, .int .i64 0, .slice none 0 0]) 4 56 := ⟨by kernel_rfl⟩
instance : ZeroC Try.prog 173 [.int .i64 0, .string ⟨#[]⟩, .int .i64 0, .slice none 0 0] := ⟨zeroC_of (z := .agg #[.int .i64 0, .string ⟨#[]⟩, .int .i64 0, .slice none 0 0]) (by kernel_rfl) rfl⟩
instance : Parts Try.prog 173 [(0, 4)] := ⟨.inl ⟨_, Try.underlying173, by kernel_rfl, by kernel_rfl⟩⟩
instance : Aggr Try.prog 173 4 := ⟨⟨_, Try.underlying173, rfl⟩, by kernel_rfl⟩
instance : Fld Try.prog 173 0 0 := ⟨fld_of (by kernel_rfl)⟩
instance : Sz Try.prog 174 (.agg #[.int .i64 0, .string ⟨#[]⟩, .int .i64 0, .slice none 0 0]) 4 56 := ⟨by kernel_rfl⟩
instance : ZeroC Try.prog 174 [.int .i64 0, .string ⟨#[]⟩, .int .i64 0, .slice none 0 0] := ⟨zeroC_of (z := .agg #[.int .i64 0, .string ⟨#[]⟩, .int .i64 0, .slice none 0 0]) (by kernel_rfl) rfl⟩
instance : Parts Try.prog 174 [(0, 4)] := ⟨.inl ⟨_, Try.underlying174, by kernel_rfl, by kernel_rfl⟩⟩
instance : Aggr Try.prog 174 4 := ⟨⟨_, Try.underlying174, rfl⟩, by kernel_rfl⟩
instance : Fld Try.prog 174 0 0 := ⟨fld_of (by kernel_rfl)⟩
instance : Sz Try.prog 175 (.agg #[.int .i64 0, .string ⟨#[]⟩, .int .i64 0, .slice none 0 0]) 4 56 := ⟨by kernel_rfl⟩
instance : ZeroC Try.prog 175 [.int .i64 0, .string ⟨#[]⟩, .int .i64 0, .slice none 0 0] := ⟨zeroC_of (z := .agg #[.int .i64 0, .string ⟨#[]⟩, .int .i64 0, .slice none 0 0]) (by kernel_rfl) rfl⟩
instance : Parts Try.prog 175 [(0, 4)] := ⟨.inl ⟨_, Try.underlying175, by kernel_rfl, by kernel_rfl⟩⟩
instance : Aggr Try.prog 175 4 := ⟨⟨_, Try.underlying175, rfl⟩, by kernel_rfl⟩
instance : Fld Try.prog 175 0 0 := ⟨fld_of (by kernel_rfl)⟩
instance : Sz Try.prog 177 (.agg #[.int .i64 0, .string ⟨#[]⟩, .int .i64 0, .slice none 0 0]) 4 56 := ⟨by kernel_rfl⟩
instance : ZeroC Try.prog 177 [.int .i64 0, .string ⟨#[]⟩, .int .i64 0, .slice none 0 0] := ⟨zeroC_of (z := .agg #[.int .i64 0, .string ⟨#[]⟩, .int .i64 0, .slice none 0 0]) (by kernel_rfl) rfl⟩
instance : Parts Try.prog 177 [(0, 4)] := ⟨.inl ⟨_, Try.underlying177, by kernel_rfl, by kernel_rfl⟩⟩
instance : Aggr Try.prog 177 4 := ⟨⟨_, Try.underlying177, rfl⟩, by kernel_rfl⟩
instance : Fld Try.prog 177 0 0 := ⟨fld_of (by kernel_rfl)⟩
instance : Sz Try.prog 180 (.nilFunc) 1 8 := ⟨by kernel_rfl⟩
instance : ZeroC Try.prog 180 [.nilFunc] := ⟨zeroC_of (z := .nilFunc) (by kernel_rfl) rfl⟩
instance : Scalar Try.prog 180 := ⟨_, Try.underlying180, rfl⟩
instance : Sz Try.prog 184 (.nilFunc) 1 8 := ⟨by kernel_rfl⟩
instance : ZeroC Try.prog 184 [.nilFunc] := ⟨zeroC_of (z := .nilFunc) (by kernel_rfl) rfl⟩
instance : Scalar Try.prog 184 := ⟨_, Try.underlying184, rfl⟩
instance : Sz Try.prog 185 (.agg #[.int .i64 0, .int .i64 0, .int .i64 0, .int .i64 0]) 4 32 := ⟨by kernel_rfl⟩
instance : ZeroC Try.prog 185 [.int .i64 0, .int .i64 0, .int .i64 0, .int .i64 0] := ⟨zeroC_of (z := .agg #[.int .i64 0, .int .i64 0, .int .i64 0, .int .i64 0]) (by kernel_rfl) rfl⟩
instance : Parts Try.prog 185 [(0, 1), (1, 1), (2, 1), (3, 1)] := ⟨.inr ⟨_, _, Try.underlying185, by kernel_rfl, by kernel_rfl⟩⟩
instance : Aggr Try.prog 185 4 := ⟨⟨_, Try.underlying185, rfl⟩, by kernel_rfl⟩
instance : ArrT Try.prog 185 4 3 := ⟨Try.underlying185⟩
instance : Sz Try.prog 190 (.slice none 0 0) 1 24 := ⟨by kernel_rfl⟩
instance : ZeroC Try.prog 190 [.slice none 0 0] := ⟨zeroC_of (z := .slice none 0 0) (by kernel_rfl) rfl⟩
instance : Scalar Try.prog 190 := ⟨_, Try.underlying190, rfl⟩
instance : SliceT Try.prog 190 257 := ⟨Try.underlying190⟩
instance : Sz Try.prog 191 (.slice none 0 0) 1 24 := ⟨by kernel_rfl⟩
instance : ZeroC Try.prog 191 [.slice none 0 0] := ⟨zeroC_of (z := .slice none 0 0) (by kernel_rfl) rfl⟩
instance : Scalar Try.prog 191 := ⟨_, Try.underlying191, rfl⟩
instance : SliceT Try.prog 191 259 := ⟨Try.underlying191⟩
instance : Sz Try.prog 192 (.agg #[.slice none 0 0, .slice none 0 0]) 2 48 := ⟨by kernel_rfl⟩
instance : ZeroC Try.prog 192 [.slice none 0 0, .slice none 0 0] := ⟨zeroC_of (z := .agg #[.slice none 0 0, .slice none 0 0]) (by kernel_rfl) rfl⟩
instance : Parts Try.prog 192 [(0, 1), (1, 1)] := ⟨.inl ⟨_, Try.underlying192, by kernel_rfl, by kernel_rfl⟩⟩
instance : Aggr Try.prog 192 2 := ⟨⟨_, Try.underlying192, rfl⟩, by kernel_rfl⟩
instance : Fld Try.prog 192 0 0 := ⟨fld_of (by kernel_rfl)⟩
instance : Fld Try.prog 192 1 1 := ⟨fld_of (by kernel_rfl)⟩
instance : Sz Try.prog 193 (.agg #[.slice none 0 0, .slice none 0 0]) 2 48 := ⟨by kernel_rfl⟩
instance : ZeroC Try.prog 193 [.slice none 0 0, .slice none 0 0] := ⟨zeroC_of (z := .agg #[.slice none 0 0, .slice none 0 0]) (by kernel_rfl) rfl⟩
instance : Parts Try.prog 193 [(0, 1), (1, 1)] := ⟨.inl ⟨_, Try.underlying193, by kernel_rfl, by kernel_rfl⟩⟩
instance : Aggr Try.prog 193 2 := ⟨⟨_, Try.underlying193, rfl⟩, by kernel_rfl⟩
instance : Fld Try.prog 193 0 0 := ⟨fld_of (by kernel_rfl)⟩
instance : Fld Try.prog 193 1 1 := ⟨fld_of (by kernel_rfl)⟩
instance : Sz Try.prog 196 (.agg #[.int .i64 0, .int .i64 0, .int .i64 0, .int .i64 0, .int .i64 0, .int .i64 0, .int .i64 0, .int .i64 0, .int .i64 0, .int .i64 0, .int .i64 0, .int .i64 0, .int .i64 0, .int .i64 0, .int .i64 0, .int .i64 0, .int .i64 0, .int .i64 0, .int .i64 0, .int .i64 0, .int .i64 0, .int .i64 0, .int .i64 0, .int .i64 0, .int .i64 0, .int .i64 0]) 26 208 := ⟨by kernel_rfl⟩
instance : ZeroC Try.prog 196 [.int .i64 0, .int .i64 0, .int .i64 0, .int .i64 0, .int .i64 0, .int .i64 0, .int .i64 0, .int .i64 0, .int .i64 0, .int .i64 0, .int .i64 0, .int .i64 0, .int .i64 0, .int .i64 0, .int .i64 0, .int .i64 0, .int .i64 0, .int .i64 0, .int .i64 0, .int .i64 0, .int .i64 0, .int .i64 0, .int .i64 0, .int .i64 0, .int .i64 0, .int .i64 0] := ⟨zeroC_of (z := .agg #[.int .i64 0, .int .i64 0, .int .i64 0, .int .i64 0, .int .i64 0, .int .i64 0, .int .i64 0, .int .i64 0, .int .i64 0, .int .i64 0, .int .i64 0, .int .i64 0, .int .i64 0, .int .i64 0, .int .i64 0, .int .i64 0, .int .i64 0, .int .i64 0, .int .i64 0, .int .i64 0, .int .i64 0, .int .i64 0, .int .i64 0, .int .i64 0, .int .i64 0, .int .i64 0]) (by kernel_rfl) rfl⟩
instance : Parts Try.prog 196 [(0, 12), (12, 12), (24, 1), (25, 1)] := ⟨.inl ⟨_, Try.underlying196, by kernel_rfl, by kernel_rfl⟩⟩
instance : Aggr Try.prog 196 26 := ⟨⟨_, Try.underlying196, rfl⟩, by kernel_rfl⟩
instance : Fld Try.prog 196 0 0 := ⟨fld_of (by kernel_rfl)⟩
instance : Fld Try.prog 196 1 12 := ⟨fld_of (by kernel_rfl)⟩
instance : Fld Try.prog 196 2 24 := ⟨fld_of (by kernel_rfl)⟩
instance : Fld Try.prog 196 3 25 := ⟨fld_of (by kernel_rfl)⟩
instance : Sz Try.prog 197 (.agg #[.int .i64 0, .int .i64 0, .int .i64 0, .int .i64 0, .int .i64 0, .int .i64 0, .int .i64 0, .int .i64 0, .int .i64 0, .int .i64 0, .int .i64 0, .int .i64 0, .int .i64 0, .int .i64 0, .int .i64 0, .int .i64 0, .int .i64 0, .int .i64 0, .int .i64 0, .int .i64 0, .int .i64 0, .int .i64 0, .int .i64 0, .int .i64 0, .int .i64 0, .int .i64 0]) 26 208 := ⟨by kernel_rfl⟩
instance : ZeroC Try.prog 197 [.int .i64 0, .int .i64 0, .int .i64 0, .int .i64 0, .int .i64 0, .int .i64 0, .int .i64 0, .int .i64 0, .int .i64 0, .int .i64 0, .int .i64 0, .int .i64 0, .int .i64 0, .int .i64 0, .int .i64 0, .int .i64 0, .int .i64 0, .int .i64 0, .int .i64 0, .int .i64 0, .int .i64 0, .int .i64 0, .int .i64 0, .int .i64 0, .int .i64 0, .int .i64 0] := ⟨zeroC_of (z := .agg #[.int .i64 0, .int .i64 0, .int .i64 0, .int .i64 0, .int .i64 0, .int .i64 0, .int .i64 0, .int .i64 0, .int .i64 0, .int .i64 0, .int .i64 0, .int .i64 0, .int .i64 0, .int .i64 0, .int .i64 0, .int .i64 0, .int .i64 0, .int .i64 0, .int .i64 0, .int .i64 0, .int .i64 0, .int .i64 0, .int .i64 0, .int .i64 0, .int .i64 0, .int .i64 0]) (by kernel_rfl) rfl⟩
instance : Parts Try.prog 197 [(0, 12), (12, 12), (24, 1), (25, 1)] := ⟨.inl ⟨_, Try.underlying197, by kernel_rfl, by kernel_rfl⟩⟩
instance : Aggr Try.prog 197 26 := ⟨⟨_, Try.underlying197, rfl⟩, by kernel_rfl⟩
instance : Fld Try.prog 197 0 0 := ⟨fld_of (by kernel_rfl)⟩
instance : Fld Try.prog 197 1 12 := ⟨fld_of (by kernel_rfl)⟩
instance : Fld Try.prog 197 2 24 := ⟨fld_of (by kernel_rfl)⟩
instance : Fld Try.prog 197 3 25 := ⟨fld_of (by kernel_rfl)⟩
instance : Sz Try.prog 199 (.agg #[.int .i64 0, .int .i64 0, .int .i64 0, .int .i64 0, .int .i64 0, .int .i64 0]) 6 48 := ⟨by kernel_rfl⟩
instance : ZeroC Try.prog 199 [.int .i64 0, .int .i64 0, .int .i64 0, .int .i64 0, .int .i64 0, .int .i64 0] := ⟨zeroC_of (z := .agg #[.int .i64 0, .int .i64 0, .int .i64 0, .int .i64 0, .int .i64 0, .int .i64 0]) (by kernel_rfl) rfl⟩
instance : Parts Try.prog 199 [(0, 3), (3, 3)] := ⟨.inl ⟨_, Try.underlying199, by kernel_rfl, by kernel_rfl⟩⟩
instance : Aggr Try.prog 199 6 := ⟨⟨_, Try.underlying199, rfl⟩, by kernel_rfl⟩
instance : Fld Try.prog 199 0 0 := ⟨fld_of (by kernel_rfl)⟩
instance : Fld Try.prog 199 1 3 := ⟨fld_of (by kernel_rfl)⟩
instance : Sz Try.prog 200 (.agg #[.int .i64 0, .int .i64 0, .int .i64 0, .int .i64 0, .int .i64 0, .int .i64 0]) 6 48 := ⟨by kernel_rfl⟩
instance : ZeroC Try.prog 200 [.int .i64 0, .int .i64 0, .int .i64 0, .int .i64 0, .int .i64 0, .int .i64 0] := ⟨zeroC_of (z := .agg #[.int .i64 0, .int .i64 0, .int .i64 0, .int .i64 0, .int .i64 0, .int .i64 0]) (by kernel_rfl) rfl⟩
instance : Parts Try.prog 200 [(0, 3), (3, 3)] := ⟨.inl ⟨_, Try.underlying200, by kernel_rfl, by kernel_rfl⟩⟩
instance : Aggr Try.prog 200 6 := ⟨⟨_, Try.underlying200, rfl⟩, by kernel_rfl⟩
instance : Fld Try.prog 200 0 0 := ⟨fld_of (by kernel_rfl)⟩
instance : Fld Try.prog 200 1 3 := ⟨fld_of (by kernel_rfl)⟩
instance : Sz Try.prog 208 (.int .u64 0) 1 8 := ⟨by kernel_rfl⟩
instance : ZeroC Try.prog 208 [.int .u64 0] := ⟨zeroC_of (z := .int .u64 0) (by kernel_rfl) rfl⟩
instance : Scalar Try.prog 208 := ⟨_, Try.underlying208, rfl⟩
instance : Sz Try.prog 209 (.slice none 0 0) 1 24 := ⟨by kernel_rfl⟩
instance : ZeroC Try.prog 209 [.slice none 0 0] := ⟨zeroC_of (z := .slice none 0 0) (by kernel_rfl) rfl⟩
instance : Scalar Try.prog 209 := ⟨_, Try.underlying209, rfl⟩
instance : SliceT Try.prog 209 216 := ⟨Try.underlying209⟩
instance : Sz Try.prog 212 (.pointer none) 1 8 := ⟨by kernel_rfl⟩
instance : ZeroC Try.prog 212 [.pointer none] := ⟨zeroC_of (z := .pointer none) (by kernel_rfl) rfl⟩
instance : Scalar Try.prog 212 := ⟨_, Try.underlying212, rfl⟩
instance : Sz Try.prog 213 (.agg #[.slice none 0 0, .int .i64 0, .slice none 0 0, .slice none 0 0, .int .i64 0]) 5 88 := ⟨by kernel_rfl⟩
instance : ZeroC Try.prog 213 [.slice none 0 0, .int .i64 0, .slice none 0 0, .slice none 0 0, .int .i64 0] := ⟨zeroC_of (z := .agg #[.slice none 0 0, .int .i64 0, .slice none 0 0, .slice none 0 0, .int .i64 0]) (by kernel_rfl) rfl⟩
instance : Parts Try.prog 213 [(0, 1), (1, 1), (2, 2), (4, 1)] := ⟨.inl ⟨_, Try.underlying213, by kernel_rfl, by kernel_rfl⟩⟩
instance : Aggr Try.prog 213 5 := ⟨⟨_, Try.underlying213, rfl⟩, by kernel_rfl⟩
instance : Fld Try.prog 213 0 0 := ⟨fld_of (by kernel_rfl)⟩
instance : Fld Try.prog 213 1 1 := ⟨fld_of (by kernel_rfl)⟩
instance : Fld Try.prog 213 2 2 := ⟨fld_of (by kernel_rfl)⟩
instance : Fld Try.prog 213 3 4 := ⟨fld_of (by kernel_rfl)⟩
instance : Sz Try.prog 214 (.agg #[.slice none 0 0, .int .i64 0, .slice none 0 0, .slice none 0 0, .int .i64 0]) 5 88 := ⟨by kernel_rfl⟩
instance : ZeroC Try.prog 214 [.slice none 0 0, .int .i64 0, .slice none 0 0, .slice none 0 0, .int .i64 0] := ⟨zeroC_of (z := .agg #[.slice none 0 0, .int .i64 0, .slice none 0 0, .slice none 0 0, .int .i64 0]) (by kernel_rfl) rfl⟩
instance : Parts Try.prog 214 [(0, 1), (1, 1), (2, 2), (4, 1)] := ⟨.inl ⟨_, Try.underlying214, by kernel_rfl, by kernel_rfl⟩⟩
instance : Aggr Try.prog 214 5 := ⟨⟨_, Try.underlying214, rfl⟩, by kernel_rfl⟩
instance : Fld Try.prog 214 0 0 := ⟨fld_of (by kernel_rfl)⟩
instance : Fld Try.prog 214 1 1 := ⟨fld_of (by kernel_rfl)⟩
instance : Fld Try.prog 214 2 2 := ⟨fld_of (by kernel_rfl)⟩
instance : Fld Try.prog 214 3 4 := ⟨fld_of (by kernel_rfl)⟩
instance : Sz Try.prog 215 (.agg #[.int .i64 0, .string ⟨#[]⟩, .int .i64 0, .int .i64 0]) 4 40 := ⟨by kernel_rfl⟩
instance : ZeroC Try.prog 215 [.int .i64 0, .string ⟨#[]⟩, .int .i64 0, .int .i64 0] := ⟨zeroC_of (z := .agg #[.int .i64 0, .string ⟨#[]⟩, .int .i64 0, .int .i64 0]) (by kernel_rfl) rfl⟩
instance : Parts Try.prog 215 [(0, 1), (1, 1), (2, 1), (3, 1)] := ⟨.inl ⟨_, Try.underlying215, by kernel_rfl, by kernel_rfl⟩⟩
instance : Aggr Try.prog 215 4 := ⟨⟨_, Try.underlying215, rfl⟩, by kernel_rfl⟩
instance : Fld Try.prog 215 0 0 := ⟨fld_of (by kernel_rfl)⟩
instance : Fld Try.prog 215 1 1 := ⟨fld_of (by kernel_rfl)⟩
instance : Fld Try.prog 215 2 2 := ⟨fld_of (by kernel_rfl)⟩
instance : Fld Try.prog 215 3 3 := ⟨fld_of (by kernel_rfl)⟩
instance : Sz Try.prog 216 (.agg #[.int .i64 0, .string ⟨#[]⟩, .int .i64 0, .int .i64 0]) 4 40 := ⟨by kernel_rfl⟩
instance : ZeroC Try.prog 216 [.int .i64 0, .string ⟨#[]⟩, .int .i64 0, .int .i64 0] := ⟨zeroC_of (z := .agg #[.int .i64 0, .string ⟨#[]⟩, .int .i64 0, .int .i64 0]) (by kernel_rfl) rfl⟩
instance : Parts Try.prog 216 [(0, 1), (1, 1), (2, 1), (3, 1)] := ⟨.inl ⟨_, Try.underlying216, by kernel_rfl, by kernel_rfl⟩⟩
instance : Aggr Try.prog 216 4 := ⟨⟨_, Try.underlying216, rfl⟩, by kernel_rfl⟩
instance : Fld Try.prog 216 0 0 := ⟨fld_of (by kernel_rfl)⟩
instance : Fld Try.prog 216 1 1 := ⟨fld_of (by kernel_rfl)⟩
instance : Fld Try.prog 216 2 2 := ⟨fld_of (by kernel_rfl)⟩
instance : Fld Try.prog 216 3 3 := ⟨fld_of (by kernel_rfl)⟩
instance : Sz Try.prog 239 (.int .i64 0) 1 8 := ⟨by kernel_rfl⟩
instance : ZeroC Try.prog 239 [.int .i64 0] := ⟨zeroC_of (z := .int .i64 0) (by kernel_rfl) rfl⟩
instance : Scalar Try.prog 239 := ⟨_, Try.underlying239, rfl⟩
instance : Sz Try.prog 246 (.int .u32 0) 1 4 := ⟨by kernel_rfl⟩
instance : ZeroC Try.prog 246 [.int .u32 0] := ⟨zeroC_of (z := .int .u32 0) (by kernel_rfl) rfl⟩
instance : Scalar Try.prog 246 := ⟨_, Try.underlying246, rfl⟩
instance : Sz Try.prog 248 (.int .u64 0) 1 8 := ⟨by kernel_rfl⟩
instance : ZeroC Try.prog 248 [.int .u64 0] := ⟨zeroC_of (z := .int .u64 0) (by kernel_rfl) rfl⟩
instance : Scalar Try.prog 248 := ⟨_, Try.underlying248, rfl⟩
instance : Sz Try.prog 257 (.agg #[.int .i64 0, .string ⟨#[]⟩, .int .i64 0, .slice none 0 0]) 4 56 := ⟨by kernel_rfl⟩
instance : ZeroC Try.prog 257 [.int .i64 0, .string ⟨#[]⟩, .int .i64 0, .slice none 0 0] := ⟨zeroC_of (z := .agg #[.int .i64 0, .string ⟨#[]⟩, .int .i64 0, .slice none 0 0]) (by kernel_rfl) rfl⟩
instance : Parts Try.prog 257 [(0, 1), (1, 1), (2, 1), (3, 1)] := ⟨.inl ⟨_, Try.underlying257, by kernel_rfl, by kernel_rfl⟩⟩
instance : Aggr Try.prog 257 4 := ⟨⟨_, Try.underlying257, rfl⟩, by kernel_rfl⟩
instance : Fld Try.prog 257 0 0 := ⟨fld_of (by kernel_rfl)⟩
instance : Fld Try.prog 257 1 1 := ⟨fld_of (by kernel_rfl)⟩
instance : Fld Try.prog 257 2 2 := ⟨fld_of (by kernel_rfl)⟩
instance : Fld Try.prog 257 3 3 := ⟨fld_of (by kernel_rfl)⟩
instance : Sz Try.prog 259 (.agg #[.string ⟨#[]⟩, .int .i64 0]) 2 24 := ⟨by kernel_rfl⟩
instance : ZeroC Try.prog 259 [.string ⟨#[]⟩, .int .i64 0] := ⟨zeroC_of (z := .agg #[.string ⟨#[]⟩, .int .i64 0]) (by kernel_rfl) rfl⟩
instance : Parts Try.prog 259 [(0, 1), (1, 1)] := ⟨.inl ⟨_, Try.underlying259, by kernel_rfl, by kernel_rfl⟩⟩
instance : Aggr Try.prog 259 2 := ⟨⟨_, Try.underlying259, rfl⟩, by kernel_rfl⟩
instance : Fld Try.prog 259 0 0 := ⟨fld_of (by kernel_rfl)⟩
instance : Fld Try.prog 259 1 1 := ⟨fld_of (by kernel_rfl)⟩
instance : Sz Try.prog 265 (.slice none 0 0) 1 24 := ⟨by kernel_rfl⟩
instance : ZeroC Try.prog 265 [.slice none 0 0] := ⟨zeroC_of (z := .slice none 0 0) (by kernel_rfl) rfl⟩
instance : Scalar Try.prog 265 := ⟨_, Try.underlying265, rfl⟩
instance : SliceT Try.prog 265 68 := ⟨Try.underlying265⟩
instance : Sz Try.prog 269 (.int .u64 0) 1 8 := ⟨by kernel_rfl⟩
instance : ZeroC Try.prog 269 [.int .u64 0] := ⟨zeroC_of (z := .int .u64 0) (by kernel_rfl) rfl⟩
instance : Scalar Try.prog 269 := ⟨_, Try.underlying269, rfl⟩
instance : Sz Try.prog 273 (.pointer none) 1 8 := ⟨by kernel_rfl⟩
instance : ZeroC Try.prog 273 [.pointer none] := ⟨zeroC_of (z := .pointer none) (by kernel_rfl) rfl⟩
instance : Scalar Try.prog 273 := ⟨_, Try.underlying273, rfl⟩
instance : Sz Try.prog 282 (.pointer none) 1 8 := ⟨by kernel_rfl⟩
instance : ZeroC Try.prog 282 [.pointer none] := ⟨zeroC_of (z := .pointer none) (by kernel_rfl) rfl⟩
instance : Scalar Try.prog 282 := ⟨_, Try.underlying282, rfl⟩
instance : Sz Try.prog 286 (.agg #[.pointer none, .pointer none, .pointer none, .string ⟨#[]⟩]) 4 40 := ⟨by kernel_rfl⟩
instance : ZeroC Try.prog 286 [.pointer none, .pointer none, .pointer none, .string ⟨#[]⟩] := ⟨zeroC_of (z := .agg #[.pointer none, .pointer none, .pointer none, .string ⟨#[]⟩]) (by kernel_rfl) rfl⟩
instance : Parts Try.prog 286 [(0, 1), (1, 1), (2, 1), (3, 1)] := ⟨.inl ⟨_, Try.underlying286, by kernel_rfl, by kernel_rfl⟩⟩
instance : Aggr Try.prog 286 4 := ⟨⟨_, Try.underlying286, rfl⟩, by kernel_rfl⟩
instance : Fld Try.prog 286 0 0 := ⟨fld_of (by kernel_rfl)⟩
instance : Fld Try.prog 286 1 1 := ⟨fld_of (by kernel_rfl)⟩
instance : Fld Try.prog 286 2 2 := ⟨fld_of (by kernel_rfl)⟩
instance : Fld Try.prog 286 3 3 := ⟨fld_of (by kernel_rfl)⟩
instance : Sz Try.prog 287 (.agg #[.pointer none, .pointer none, .pointer none, .string ⟨#[]⟩]) 4 40 := ⟨by kernel_rfl⟩
instance : ZeroC Try.prog 287 [.pointer none, .pointer none, .pointer none, .string ⟨#[]⟩] := ⟨zeroC_of (z := .agg #[.pointer none, .pointer none, .pointer none, .string ⟨#[]⟩]) (by kernel_rfl) rfl⟩
instance : Parts Try.prog 287 [(0, 1), (1, 1), (2, 1), (3, 1)] := ⟨.inl ⟨_, Try.underlying287, by kernel_rfl, by kernel_rfl⟩⟩
instance : Aggr Try.prog 287 4 := ⟨⟨_, Try.underlying287, rfl⟩, by kernel_rfl⟩
instance : Fld Try.prog 287 0 0 := ⟨fld_of (by kernel_rfl)⟩
instance : Fld Try.prog 287 1 1 := ⟨fld_of (by kernel_rfl)⟩
instance : Fld Try.prog 287 2 2 := ⟨fld_of (by kernel_rfl)⟩
instance : Fld Try.prog 287 3 3 := ⟨fld_of (by kernel_rfl)⟩
instance : Sz Try.prog 292 (.int .u8 0) 1 1 := ⟨by kernel_rfl⟩
instance : ZeroC Try.prog 292 [.int .u8 0] := ⟨zeroC_of (z := .int .u8 0) (by kernel_rfl) rfl⟩
instance : Scalar Try.prog 292 := ⟨_, Try.underlying292, rfl⟩
instance : Sz Try.prog 293 (.int .u8 0) 1 1 := ⟨by kernel_rfl⟩
instance : ZeroC Try.prog 293 [.int .u8 0] := ⟨zeroC_of (z := .int .u8 0) (by kernel_rfl) rfl⟩
instance : Scalar Try.prog 293 := ⟨_, Try.underlying293, rfl⟩
instance : Sz Try.prog 294 (.nilFunc) 1 8 := ⟨by kernel_rfl⟩
instance : ZeroC Try.prog 294 [.nilFunc] := ⟨zeroC_of (z := .nilFunc) (by kernel_rfl) rfl⟩
instance : Scalar Try.prog 294 := ⟨_, Try.underlying294, rfl⟩
instance : Sz Try.prog 295 (.pointer none) 1 8 := ⟨by kernel_rfl⟩
instance : ZeroC Try.prog 295 [.pointer none] := ⟨zeroC_of (z := .pointer none) (by kernel_rfl) rfl⟩
instance : Scalar Try.prog 295 := ⟨_, Try.underlying295, rfl⟩
instance : Sz Try.prog 296 (.int .i32 0) 1 4 := ⟨by kernel_rfl⟩
instance : ZeroC Try.prog 296 [.int .i32 0] := ⟨zeroC_of (z := .int .i32 0) (by kernel_rfl) rfl⟩
instance : Scalar Try.prog 296 := ⟨_, Try.underlying296, rfl⟩
instance : Sz Try.prog 297 (.int .i32 0) 1 4 := ⟨by kernel_rfl⟩
instance : ZeroC Try.prog 297 [.int .i32 0] := ⟨zeroC_of (z := .int .i32 0) (by kernel_rfl) rfl⟩
instance : Scalar Try.prog 297 := ⟨_, Try.underlying297, rfl⟩
instance : Sz Try.prog 298 (.agg #[.int .u64 0, .int .u64 0, .int .u32 0, .int .u8 0, .int .u8 0, .int .u8 0, .int .u8 0, .nilFunc, .pointer none, .int .i32 0, .int .i32 0]) 11 48 := ⟨by kernel_rfl⟩
instance : ZeroC Try.prog 298 [.int .u64 0, .int .u64 0, .int .u32 0, .int .u8 0, .int .u8 0, .int .u8 0, .int .u8 0, .nilFunc, .pointer none, .int .i32 0, .int .i32 0] := ⟨zeroC_of (z := .agg #[.int .u64 0, .int .u64 0, .int .u32 0, .int .u8 0, .int .u8 0, .int .u8 0, .int .u8 0, .nilFunc, .pointer none, .int .i32 0, .int .i32 0]) (by kernel_rfl) rfl⟩
instance : Parts Try.prog 298 [(0, 1), (1, 1), (2, 1), (3, 1), (4, 1), (5, 1), (6, 1), (7, 1), (8, 1), (9, 1), (10, 1)] := ⟨.inl ⟨_, Try.underlying298, by kernel_rfl, by kernel_rfl⟩⟩
instance : Aggr Try.prog 298 11 := ⟨⟨_, Try.underlying298, rfl⟩, by kernel_rfl⟩
instance : Fld Try.prog 298 0 0 := ⟨fld_of (by kernel_rfl)⟩
instance : Fld Try.prog 298 1 1 := ⟨fld_of (by kernel_rfl)⟩
instance : Fld Try.prog 298 2 2 := ⟨fld_of (by kernel_rfl)⟩
instance : Fld Try.prog 298 3 3 := ⟨fld_of (by kernel_rfl)⟩
instance : Fld Try.prog 298 4 4 := ⟨fld_of (by kernel_rfl)⟩
instance : Fld Try.prog 298 5 5 := ⟨fld_of (by kernel_rfl)⟩
instance : Fld Try.prog 298 6 6 := ⟨fld_of (by kernel_rfl)⟩
instance : Fld Try.prog 298 7 7 := ⟨fld_of (by kernel_rfl)⟩
instance : Fld Try.prog 298 8 8 := ⟨fld_of (by kernel_rfl)⟩
instance : Fld Try.prog 298 9 9 := ⟨fld_of (by kernel_rfl)⟩
instance : Fld Try.prog 298 10 10 := ⟨fld_of (by kernel_rfl)⟩
instance : Sz Try.prog 299 (.agg #[.int .u64 0, .int .u64 0, .int .u32 0, .int .u8 0, .int .u8 0, .int .u8 0, .int .u8 0, .nilFunc, .pointer none, .int .i32 0, .int .i32 0]) 11 48 := ⟨by kernel_rfl⟩
instance : ZeroC Try.prog 299 [.int .u64 0, .int .u64 0, .int .u32 0, .int .u8 0, .int .u8 0, .int .u8 0, .int .u8 0, .nilFunc, .pointer none, .int .i32 0, .int .i32 0] := ⟨zeroC_of (z := .agg #[.int .u64 0, .int .u64 0, .int .u32 0, .int .u8 0, .int .u8 0, .int .u8 0, .int .u8 0, .nilFunc, .pointer none, .int .i32 0, .int .i32 0]) (by kernel_rfl) rfl⟩
instance : Parts Try.prog 299 [(0, 1), (1, 1), (2, 1), (3, 1), (4, 1), (5, 1), (6, 1), (7, 1), (8, 1), (9, 1), (10, 1)] := ⟨.inl ⟨_, Try.underlying299, by kernel_rfl, by kernel_rfl⟩⟩
instance : Aggr Try.prog 299 11 := ⟨⟨_, Try.underlying299, rfl⟩, by kernel_rfl⟩
instance : Fld Try.prog 299 0 0 := ⟨fld_of (by kernel_rfl)⟩
instance : Fld Try.prog 299 1 1 := ⟨fld_of (by kernel_rfl)⟩
instance : Fld Try.prog 299 2 2 := ⟨fld_of (by kernel_rfl)⟩
instance : Fld Try.prog 299 3 3 := ⟨fld_of (by kernel_rfl)⟩
instance : Fld Try.prog 299 4 4 := ⟨fld_of (by kernel_rfl)⟩
instance : Fld Try.prog 299 5 5 := ⟨fld_of (by kernel_rfl)⟩
instance : Fld Try.prog 299 6 6 := ⟨fld_of (by kernel_rfl)⟩
instance : Fld Try.prog 299 7 7 := ⟨fld_of (by kernel_rfl)⟩
instance : Fld Try.prog 299 8 8 := ⟨fld_of (by kernel_rfl)⟩
instance : Fld Try.prog 299 9 9 := ⟨fld_of (by kernel_rfl)⟩
instance : Fld Try.prog 299 10 10 := ⟨fld_of (by kernel_rfl)⟩
end Go.Proofs.Ytcdjneiaoikpnaa.St
