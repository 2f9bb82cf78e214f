/-
  A call of each function of the program that has a body enters it.
-/
import Derived.Test.YtgphmhjnnppbnaaStDraw
import Derived.Test.YtgphmhjnnppbnaaRows
set_option linter.unusedSimpArgs false
set_option linter.unusedVariables false
namespace Go.Proofs.Ytgphmhjnnppbnaa.St
theorem mixed : Try.prog.follows .mixedOrders = true := by kernel_rfl
theorem en6 : Enters Try.prog 6 := enters_of Try.func6 (by kernel_rfl) rfl
instance : En Try.prog 6 := ⟨en6⟩
theorem en7 : Enters Try.prog 7 := enters_of Try.func7 (by kernel_rfl) rfl
instance : En Try.prog 7 := ⟨en7⟩
theorem en35 : Enters Try.prog 35 := enters_of Try.func35 (by kernel_rfl) rfl
instance : En Try.prog 35 := ⟨en35⟩
theorem en36 : Enters Try.prog 36 := enters_of Try.func36 (by kernel_rfl) rfl
instance : En Try.prog 36 := ⟨en36⟩
theorem en37 : Enters Try.prog 37 := enters_of Try.func37 (by kernel_rfl) rfl
instance : En Try.prog 37 := ⟨en37⟩
theorem en38 : Enters Try.prog 38 := enters_of Try.func38 (by kernel_rfl) rfl
instance : En Try.prog 38 := ⟨en38⟩
theorem en39 : Enters Try.prog 39 := enters_of Try.func39 (by kernel_rfl) rfl
instance : En Try.prog 39 := ⟨en39⟩
theorem en40 : Enters Try.prog 40 := enters_of Try.func40 (by kernel_rfl) rfl
instance : En Try.prog 40 := ⟨en40⟩
theorem en41 : Enters Try.prog 41 := enters_of Try.func41 (by kernel_rfl) rfl
instance : En Try.prog 41 := ⟨en41⟩
theorem en51 : Enters Try.prog 51 := enters_of Try.func51 (by kernel_rfl) rfl
instance : En Try.prog 51 := ⟨en51⟩
theorem en65 : Enters Try.prog 65 := enters_of Try.func65 (by kernel_rfl) rfl
instance : En Try.prog 65 := ⟨en65⟩
theorem en67 : Enters Try.prog 67 := enters_of Try.func67 (by kernel_rfl) rfl
instance : En Try.prog 67 := ⟨en67⟩
theorem en69 : Enters Try.prog 69 := enters_of Try.func69 (by kernel_rfl) rfl
instance : En Try.prog 69 := ⟨en69⟩
theorem en70 : Enters Try.prog 70 := enters_of Try.func70 (by kernel_rfl) rfl
instance : En Try.prog 70 := ⟨en70⟩
theorem en74 : Enters Try.prog 74 := enters_of Try.func74 (by kernel_rfl) rfl
instance : En Try.prog 74 := ⟨en74⟩
theorem en77 : Enters Try.prog 77 := enters_of Try.func77 (by kernel_rfl) rfl
instance : En Try.prog 77 := ⟨en77⟩
theorem en80 : Enters Try.prog 80 := enters_of Try.func80 (by kernel_rfl) rfl
instance : En Try.prog 80 := ⟨en80⟩
theorem en106 : Enters Try.prog 106 := enters_of Try.func106 (by kernel_rfl) rfl
instance : En Try.prog 106 := ⟨en106⟩
theorem en107 : Enters Try.prog 107 := enters_of Try.func107 (by kernel_rfl) rfl
instance : En Try.prog 107 := ⟨en107⟩
theorem en108 : Enters Try.prog 108 := enters_of Try.func108 (by kernel_rfl) rfl
instance : En Try.prog 108 := ⟨en108⟩
theorem en109 : Enters Try.prog 109 := enters_of Try.func109 (by kernel_rfl) rfl
instance : En Try.prog 109 := ⟨en109⟩
theorem en110 : Enters Try.prog 110 := enters_of Try.func110 (by kernel_rfl) rfl
instance : En Try.prog 110 := ⟨en110⟩
theorem en111 : Enters Try.prog 111 := enters_of Try.func111 (by kernel_rfl) rfl
instance : En Try.prog 111 := ⟨en111⟩
theorem en112 : Enters Try.prog 112 := enters_of Try.func112 (by kernel_rfl) rfl
instance : En Try.prog 112 := ⟨en112⟩
theorem en113 : Enters Try.prog 113 := enters_of Try.func113 (by kernel_rfl) rfl
instance : En Try.prog 113 := ⟨en113⟩
theorem en114 : Enters Try.prog 114 := enters_of Try.func114 (by kernel_rfl) rfl
instance : En Try.prog 114 := ⟨en114⟩
theorem en115 : Enters Try.prog 115 := enters_of Try.func115 (by kernel_rfl) rfl
instance : En Try.prog 115 := ⟨en115⟩
theorem en129 : Enters Try.prog 129 := enters_of Try.func129 (by kernel_rfl) rfl
instance : En Try.prog 129 := ⟨en129⟩
theorem en130 : Enters Try.prog 130 := enters_of Try.func130 (by kernel_rfl) rfl
instance : En Try.prog 130 := ⟨en130⟩
theorem en131 : Enters Try.prog 131 := enters_of Try.func131 (by kernel_rfl) rfl
instance : En Try.prog 131 := ⟨en131⟩
theorem en132 : Enters Try.prog 132 := enters_of Try.func132 (by kernel_rfl) rfl
instance : En Try.prog 132 := ⟨en132⟩
theorem en133 : Enters Try.prog 133 := enters_of Try.func133 (by kernel_rfl) rfl
instance : En Try.prog 133 := ⟨en133⟩
theorem en134 : Enters Try.prog 134 := enters_of Try.func134 (by kernel_rfl) rfl
instance : En Try.prog 134 := ⟨en134⟩
theorem en135 : Enters Try.prog 135 := enters_of Try.func135 (by kernel_rfl) rfl
instance : En Try.prog 135 := ⟨en135⟩
theorem en141 : Enters Try.prog 141 := enters_of Try.func141 (by kernel_rfl) rfl
instance : En Try.prog 141 := ⟨en141⟩
theorem en160 : Enters Try.prog 160 := enters_of Try.func160 (by kernel_rfl) rfl
instance : En Try.prog 160 := ⟨en160⟩
theorem en191 : Enters Try.prog 191 := enters_of Try.func191 (by kernel_rfl) rfl
instance : En Try.prog 191 := ⟨en191⟩
theorem en192 : Enters Try.prog 192 := enters_of Try.func192 (by kernel_rfl) rfl
instance : En Try.prog 192 := ⟨en192⟩
theorem en193 : Enters Try.prog 193 := enters_of Try.func193 (by kernel_rfl) rfl
instance : En Try.prog 193 := ⟨en193⟩
theorem en194 : Enters Try.prog 194 := enters_of Try.func194 (by kernel_rfl) rfl
instance : En Try.prog 194 := ⟨en194⟩
theorem en195 : Enters Try.prog 195 := enters_of Try.func195 (by kernel_rfl) rfl
instance : En Try.prog 195 := ⟨en195⟩
theorem en196 : Enters Try.prog 196 := enters_of Try.func196 (by kernel_rfl) rfl
instance : En Try.prog 196 := ⟨en196⟩
theorem en197 : Enters Try.prog 197 := enters_of Try.func197 (by kernel_rfl) rfl
instance : En Try.prog 197 := ⟨en197⟩
theorem en198 : Enters Try.prog 198 := enters_of Try.func198 (by kernel_rfl) rfl
instance : En Try.prog 198 := ⟨en198⟩
theorem en199 : Enters Try.prog 199 := enters_of Try.func199 (by kernel_rfl) rfl
instance : En Try.prog 199 := ⟨en199⟩
theorem en200 : Enters Try.prog 200 := enters_of Try.func200 (by kernel_rfl) rfl
instance : En Try.prog 200 := ⟨en200⟩
theorem en201 : Enters Try.prog 201 := enters_of Try.func201 (by kernel_rfl) rfl
instance : En Try.prog 201 := ⟨en201⟩
theorem en202 : Enters Try.prog 202 := enters_of Try.func202 (by kernel_rfl) rfl
instance : En Try.prog 202 := ⟨en202⟩
theorem en203 : Enters Try.prog 203 := enters_of Try.func203 (by kernel_rfl) rfl
instance : En Try.prog 203 := ⟨en203⟩
theorem en211 : Enters Try.prog 211 := enters_of Try.func211 (by kernel_rfl) rfl
instance : En Try.prog 211 := ⟨en211⟩
theorem en212 : Enters Try.prog 212 := enters_of Try.func212 (by kernel_rfl) rfl
instance : En Try.prog 212 := ⟨en212⟩
theorem en213 : Enters Try.prog 213 := enters_of Try.func213 (by kernel_rfl) rfl
instance : En Try.prog 213 := ⟨en213⟩
theorem en214 : Enters Try.prog 214 := enters_of Try.func214 (by kernel_rfl) rfl
instance : En Try.prog 214 := ⟨en214⟩
theorem en215 : Enters Try.prog 215 := enters_of Try.func215 (by kernel_rfl) rfl
instance : En Try.prog 215 := ⟨en215⟩
theorem en216 : Enters Try.prog 216 := enters_of Try.func216 (by kernel_rfl) rfl
instance : En Try.prog 216 := ⟨en216⟩
theorem en221 : Enters Try.prog 221 := enters_of Try.func221 (by kernel_rfl) rfl
instance : En Try.prog 221 := ⟨en221⟩
theorem en241 : Enters Try.prog 241 := enters_of Try.func241 (by kernel_rfl) rfl
instance : En Try.prog 241 := ⟨en241⟩
theorem en247 : Enters Try.prog 247 := enters_of Try.func247 (by kernel_rfl) rfl
instance : En Try.prog 247 := ⟨en247⟩
theorem en252 : Enters Try.prog 252 := enters_of Try.func252 (by kernel_rfl) rfl
instance : En Try.prog 252 := ⟨en252⟩
theorem en253 : Enters Try.prog 253 := enters_of Try.func253 (by kernel_rfl) rfl
instance : En Try.prog 253 := ⟨en253⟩
theorem en254 : Enters Try.prog 254 := enters_of Try.func254 (by kernel_rfl) rfl
instance : En Try.prog 254 := ⟨en254⟩
theorem en263 : Enters Try.prog 263 := enters_of Try.func263 (by kernel_rfl) rfl
instance : En Try.prog 263 := ⟨en263⟩
theorem en267 : Enters Try.prog 267 := enters_of Try.func267 (by kernel_rfl) rfl
instance : En Try.prog 267 := ⟨en267⟩
instance : Sz Try.prog 1 (.nilFunc) 1 8 := ⟨by kernel_rfl⟩
instance : ZeroC Try.prog 1 [.nilFunc] := ⟨zeroC_of (z := .nilFunc) (by kernel_rfl) rfl⟩
instance : Scalar Try.prog 1 := ⟨_, Try.underlying1, rfl⟩
instance : Sz Try.prog 2 (.int .i64 0) 1 8 := ⟨by kernel_rfl⟩
instance : ZeroC Try.prog 2 [.int .i64 0] := ⟨zeroC_of (z := .int .i64 0) (by kernel_rfl) rfl⟩
instance : Scalar Try.prog 2 := ⟨_, Try.underlying2, rfl⟩
instance : Sz Try.prog 3 (.int .i64 0) 1 8 := ⟨by kernel_rfl⟩
instance : ZeroC Try.prog 3 [.int .i64 0] := ⟨zeroC_of (z := .int .i64 0) (by kernel_rfl) rfl⟩
instance : Scalar Try.prog 3 := ⟨_, Try.underlying3, rfl⟩
instance : Sz Try.prog 4 (.bool false) 1 1 := ⟨by kernel_rfl⟩
instance : ZeroC Try.prog 4 [.bool false] := ⟨zeroC_of (z := .bool false) (by kernel_rfl) rfl⟩
instance : Scalar Try.prog 4 := ⟨_, Try.underlying4, rfl⟩
instance : BoolT Try.prog 4 := ⟨Try.underlying4⟩
instance : Sz Try.prog 5 (.int .u8 0) 1 1 := ⟨by kernel_rfl⟩
instance : ZeroC Try.prog 5 [.int .u8 0] := ⟨zeroC_of (z := .int .u8 0) (by kernel_rfl) rfl⟩
instance : Scalar Try.prog 5 := ⟨_, Try.underlying5, rfl⟩
instance : Sz Try.prog 6 (.int .u8 0) 1 1 := ⟨by kernel_rfl⟩
instance : ZeroC Try.prog 6 [.int .u8 0] := ⟨zeroC_of (z := .int .u8 0) (by kernel_rfl) rfl⟩
instance : Scalar Try.prog 6 := ⟨_, Try.underlying6, rfl⟩
instance : Sz Try.prog 7 (.agg #[.int .i64 0, .int .i64 0, .bool false, .int .u8 0]) 4 24 := ⟨by kernel_rfl⟩
instance : ZeroC Try.prog 7 [.int .i64 0, .int .i64 0, .bool false, .int .u8 0] := ⟨zeroC_of (z := .agg #[.int .i64 0, .int .i64 0, .bool false, .int .u8 0]) (by kernel_rfl) rfl⟩
instance : Parts Try.prog 7 [(0, 1), (1, 1), (2, 1), (3, 1)] := ⟨.inl ⟨_, Try.underlying7, by kernel_rfl, by kernel_rfl⟩⟩
instance : Aggr Try.prog 7 4 := ⟨⟨_, Try.underlying7, rfl⟩, by kernel_rfl⟩
instance : Fld Try.prog 7 0 0 := ⟨fld_of (by kernel_rfl)⟩
instance : Fld Try.prog 7 1 1 := ⟨fld_of (by kernel_rfl)⟩
instance : Fld Try.prog 7 2 2 := ⟨fld_of (by kernel_rfl)⟩
instance : Fld Try.prog 7 3 3 := ⟨fld_of (by kernel_rfl)⟩
instance : Sz Try.prog 8 (.agg #[.int .i64 0, .int .i64 0, .bool false, .int .u8 0]) 4 24 := ⟨by kernel_rfl⟩
instance : ZeroC Try.prog 8 [.int .i64 0, .int .i64 0, .bool false, .int .u8 0] := ⟨zeroC_of (z := .agg #[.int .i64 0, .int .i64 0, .bool false, .int .u8 0]) (by kernel_rfl) rfl⟩
instance : Parts Try.prog 8 [(0, 1), (1, 1), (2, 1), (3, 1)] := ⟨.inl ⟨_, Try.underlying8, by kernel_rfl, by kernel_rfl⟩⟩
instance : Aggr Try.prog 8 4 := ⟨⟨_, Try.underlying8, rfl⟩, by kernel_rfl⟩
instance : Fld Try.prog 8 0 0 := ⟨fld_of (by kernel_rfl)⟩
instance : Fld Try.prog 8 1 1 := ⟨fld_of (by kernel_rfl)⟩
instance : Fld Try.prog 8 2 2 := ⟨fld_of (by kernel_rfl)⟩
instance : Fld Try.prog 8 3 3 := ⟨fld_of (by kernel_rfl)⟩
instance : Sz Try.prog 9 (.string ⟨#[]⟩) 1 16 := ⟨by kernel_rfl⟩
instance : ZeroC Try.prog 9 [.string ⟨#[]⟩] := ⟨zeroC_of (z := .string ⟨#[]⟩) (by kernel_rfl) rfl⟩
instance : Scalar Try.prog 9 := ⟨_, Try.underlying9, rfl⟩
instance : StrT Try.prog 9 := ⟨Try.underlying9⟩
instance : Sz Try.prog 10 (.string ⟨#[]⟩) 1 16 := ⟨by kernel_rfl⟩
instance : ZeroC Try.prog 10 [.string ⟨#[]⟩] := ⟨zeroC_of (z := .string ⟨#[]⟩) (by kernel_rfl) rfl⟩
instance : Scalar Try.prog 10 := ⟨_, Try.underlying10, rfl⟩
instance : StrT Try.prog 10 := ⟨Try.underlying10⟩
instance : Sz Try.prog 11 (.string ⟨#[]⟩) 1 16 := ⟨by kernel_rfl⟩
instance : ZeroC Try.prog 11 [.string ⟨#[]⟩] := ⟨zeroC_of (z := .string ⟨#[]⟩) (by kernel_rfl) rfl⟩
instance : Scalar Try.prog 11 := ⟨_, Try.underlying11, rfl⟩
instance : StrT Try.prog 11 := ⟨Try.underlying11⟩
instance : Sz Try.prog 12 (.int .u64 0) 1 8 := ⟨by kernel_rfl⟩
instance : ZeroC Try.prog 12 [.int .u64 0] := ⟨zeroC_of (z := .int .u64 0) (by kernel_rfl) rfl⟩
instance : Scalar Try.prog 12 := ⟨_, Try.underlying12, rfl⟩
instance : Sz Try.prog 13 (.agg #[.string ⟨#[]⟩, .int .u64 0]) 2 24 := ⟨by kernel_rfl⟩
instance : ZeroC Try.prog 13 [.string ⟨#[]⟩, .int .u64 0] := ⟨zeroC_of (z := .agg #[.string ⟨#[]⟩, .int .u64 0]) (by kernel_rfl) rfl⟩
instance : Parts Try.prog 13 [(0, 1), (1, 1)] := ⟨.inl ⟨_, Try.underlying13, by kernel_rfl, by kernel_rfl⟩⟩
instance : Aggr Try.prog 13 2 := ⟨⟨_, Try.underlying13, rfl⟩, by kernel_rfl⟩
instance : Fld Try.prog 13 0 0 := ⟨fld_of (by kernel_rfl)⟩
instance : Fld Try.prog 13 1 1 := ⟨fld_of (by kernel_rfl)⟩
instance : Sz Try.prog 21 (.int .i32 0) 1 4 := ⟨by kernel_rfl⟩
instance : ZeroC Try.prog 21 [.int .i32 0] := ⟨zeroC_of (z := .int .i32 0) (by kernel_rfl) rfl⟩
instance : Scalar Try.prog 21 := ⟨_, Try.underlying21, rfl⟩
instance : Sz Try.prog 22 (.agg #[.int .i64 0, .int .i64 0, .int .i64 0, .int .i64 0, .bool false, .int .i64 0, .int .i64 0]) 7 56 := ⟨by kernel_rfl⟩
instance : ZeroC Try.prog 22 [.int .i64 0, .int .i64 0, .int .i64 0, .int .i64 0, .bool false, .int .i64 0, .int .i64 0] := ⟨zeroC_of (z := .agg #[.int .i64 0, .int .i64 0, .int .i64 0, .int .i64 0, .bool false, .int .i64 0, .int .i64 0]) (by kernel_rfl) rfl⟩
instance : Parts Try.prog 22 [(0, 1), (1, 1), (2, 1), (3, 1), (4, 1), (5, 1), (6, 1)] := ⟨.inl ⟨_, Try.underlying22, by kernel_rfl, by kernel_rfl⟩⟩
instance : Aggr Try.prog 22 7 := ⟨⟨_, Try.underlying22, rfl⟩, by kernel_rfl⟩
instance : Fld Try.prog 22 0 0 := ⟨fld_of (by kernel_rfl)⟩
instance : Fld Try.prog 22 1 1 := ⟨fld_of (by kernel_rfl)⟩
instance : Fld Try.prog 22 2 2 := ⟨fld_of (by kernel_rfl)⟩
instance : Fld Try.prog 22 3 3 := ⟨fld_of (by kernel_rfl)⟩
instance : Fld Try.prog 22 4 4 := ⟨fld_of (by kernel_rfl)⟩
instance : Fld Try.prog 22 5 5 := ⟨fld_of (by kernel_rfl)⟩
instance : Fld Try.prog 22 6 6 := ⟨fld_of (by kernel_rfl)⟩
instance : Sz Try.prog 23 (.agg #[.int .i64 0, .int .i64 0, .int .i64 0, .int .i64 0, .bool false, .int .i64 0, .int .i64 0]) 7 56 := ⟨by kernel_rfl⟩
instance : ZeroC Try.prog 23 [.int .i64 0, .int .i64 0, .int .i64 0, .int .i64 0, .bool false, .int .i64 0, .int .i64 0] := ⟨zeroC_of (z := .agg #[.int .i64 0, .int .i64 0, .int .i64 0, .int .i64 0, .bool false, .int .i64 0, .int .i64 0]) (by kernel_rfl) rfl⟩
instance : Parts Try.prog 23 [(0, 1), (1, 1), (2, 1), (3, 1), (4, 1), (5, 1), (6, 1)] := ⟨.inl ⟨_, Try.underlying23, by kernel_rfl, by kernel_rfl⟩⟩
instance : Aggr Try.prog 23 7 := ⟨⟨_, Try.underlying23, rfl⟩, by kernel_rfl⟩
instance : Fld Try.prog 23 0 0 := ⟨fld_of (by kernel_rfl)⟩
instance : Fld Try.prog 23 1 1 := ⟨fld_of (by kernel_rfl)⟩
instance : Fld Try.prog 23 2 2 := ⟨fld_of (by kernel_rfl)⟩
instance : Fld Try.prog 23 3 3 := ⟨fld_of (by kernel_rfl)⟩
instance : Fld Try.prog 23 4 4 := ⟨fld_of (by kernel_rfl)⟩
instance : Fld Try.prog 23 5 5 := ⟨fld_of (by kernel_rfl)⟩
instance : Fld Try.prog 23 6 6 := ⟨fld_of (by kernel_rfl)⟩
instance : Sz Try.prog 26 (.agg #[.int .i64 0, .int .i64 0, .int .i64 0, .int .i64 0, .bool false, .int .i64 0, .int .i64 0]) 7 56 := ⟨by kernel_rfl⟩
instance : ZeroC Try.prog 26 [.int .i64 0, .int .i64 0, .int .i64 0, .int .i64 0, .bool false, .int .i64 0, .int .i64 0] := ⟨zeroC_of (z := .agg #[.int .i64 0, .int .i64 0, .int .i64 0, .int .i64 0, .bool false, .int .i64 0, .int .i64 0]) (by kernel_rfl) rfl⟩
instance : Parts Try.prog 26 [(0, 1), (1, 1), (2, 1), (3, 1), (4, 1), (5, 1), (6, 1)] := ⟨.inl ⟨_, Try.underlying26, by kernel_rfl, by kernel_rfl⟩⟩
instance : Aggr Try.prog 26 7 := ⟨⟨_, Try.underlying26, rfl⟩, by kernel_rfl⟩
instance : Fld Try.prog 26 0 0 := ⟨fld_of (by kernel_rfl)⟩
instance : Fld Try.prog 26 1 1 := ⟨fld_of (by kernel_rfl)⟩
instance : Fld Try.prog 26 2 2 := ⟨fld_of (by kernel_rfl)⟩
instance : Fld Try.prog 26 3 3 := ⟨fld_of (by kernel_rfl)⟩
instance : Fld Try.prog 26 4 4 := ⟨fld_of (by kernel_rfl)⟩
instance : Fld Try.prog 26 5 5 := ⟨fld_of (by kernel_rfl)⟩
instance : Fld Try.prog 26 6 6 := ⟨fld_of (by kernel_rfl)⟩
instance : Sz Try.prog 31 (.agg #[.int .i64 0, .int .i64 0, .int .i64 0]) 3 24 := ⟨by kernel_rfl⟩
instance : ZeroC Try.prog 31 [.int .i64 0, .int .i64 0, .int .i64 0] := ⟨zeroC_of (z := .agg #[.int .i64 0, .int .i64 0, .int .i64 0]) (by kernel_rfl) rfl⟩
instance : Parts Try.prog 31 [(0, 1), (1, 1), (2, 1)] := ⟨.inl ⟨_, Try.underlying31, by kernel_rfl, by kernel_rfl⟩⟩
instance : Aggr Try.prog 31 3 := ⟨⟨_, Try.underlying31, rfl⟩, by kernel_rfl⟩
instance : Fld Try.prog 31 0 0 := ⟨fld_of (by kernel_rfl)⟩
instance : Fld Try.prog 31 1 1 := ⟨fld_of (by kernel_rfl)⟩
instance : Fld Try.prog 31 2 2 := ⟨fld_of (by kernel_rfl)⟩
instance : Sz Try.prog 32 (.agg #[.int .i64 0, .int .i64 0, .int .i64 0]) 3 24 := ⟨by kernel_rfl⟩
instance : ZeroC Try.prog 32 [.int .i64 0, .int .i64 0, .int .i64 0] := ⟨zeroC_of (z := .agg #[.int .i64 0, .int .i64 0, .int .i64 0]) (by kernel_rfl) rfl⟩
instance : Parts Try.prog 32 [(0, 1), (1, 1), (2, 1)] := ⟨.inl ⟨_, Try.underlying32, by kernel_rfl, by kernel_rfl⟩⟩
instance : Aggr Try.prog 32 3 := ⟨⟨_, Try.underlying32, rfl⟩, by kernel_rfl⟩
instance : Fld Try.prog 32 0 0 := ⟨fld_of (by kernel_rfl)⟩
instance : Fld Try.prog 32 1 1 := ⟨fld_of (by kernel_rfl)⟩
instance : Fld Try.prog 32 2 2 := ⟨fld_of (by kernel_rfl)⟩
instance : Sz Try.prog 33 (.agg #[.int .i64 0, .int .i64 0, .int .i64 0, .int .i64 0, .int .i64 0, .int .i64 0, .int .i64 0, .int .i64 0, .int .i64 0, .int .i64 0, .int .i64 0, .int .i64 0]) 12 96 := ⟨by kernel_rfl⟩
instance : ZeroC Try.prog 33 [.int .i64 0, .int .i64 0, .int .i64 0, .int .i64 0, .int .i64 0, .int .i64 0, .int .i64 0, .int .i64 0, .int .i64 0, .int .i64 0, .int .i64 0, .int .i64 0] := ⟨zeroC_of (z := .agg #[.int .i64 0, .int .i64 0, .int .i64 0, .int .i64 0, .int .i64 0, .int .i64 0, .int .i64 0, .int .i64 0, .int .i64 0, .int .i64 0, .int .i64 0, .int .i64 0]) (by kernel_rfl) rfl⟩
instance : Parts Try.prog 33 [(0, 3), (3, 3), (6, 3), (9, 3)] := ⟨.inr ⟨_, _, Try.underlying33, by kernel_rfl, by kernel_rfl⟩⟩
instance : Aggr Try.prog 33 12 := ⟨⟨_, Try.underlying33, rfl⟩, by kernel_rfl⟩
instance : ArrT Try.prog 33 4 32 := ⟨Try.underlying33⟩
instance : Sz Try.prog 34 (.agg #[.int .i64 0, .int .i64 0, .int .i64 0, .int .i64 0, .int .i64 0, .int .i64 0, .int .i64 0, .int .i64 0, .int .i64 0, .int .i64 0, .int .i64 0, .int .i64 0]) 12 96 := ⟨by kernel_rfl⟩
instance : ZeroC Try.prog 34 [.int .i64 0, .int .i64 0, .int .i64 0, .int .i64 0, .int .i64 0, .int .i64 0, .int .i64 0, .int .i64 0, .int .i64 0, .int .i64 0, .int .i64 0, .int .i64 0] := ⟨zeroC_of (z := .agg #[.int .i64 0, .int .i64 0, .int .i64 0, .int .i64 0, .int .i64 0, .int .i64 0, .int .i64 0, .int .i64 0, .int .i64 0, .int .i64 0, .int .i64 0, .int .i64 0]) (by kernel_rfl) rfl⟩
instance : Parts Try.prog 34 [(0, 12)] := ⟨.inl ⟨_, Try.underlying34, by kernel_rfl, by kernel_rfl⟩⟩
instance : Aggr Try.prog 34 12 := ⟨⟨_, Try.underlying34, rfl⟩, by kernel_rfl⟩
instance : Fld Try.prog 34 0 0 := ⟨fld_of (by kernel_rfl)⟩
instance : Sz Try.prog 35 (.agg #[.int .i64 0, .int .i64 0, .int .i64 0, .int .i64 0, .int .i64 0, .int .i64 0, .int .i64 0, .int .i64 0, .int .i64 0, .int .i64 0, .int .i64 0, .int .i64 0]) 12 96 := ⟨by kernel_rfl⟩
instance : ZeroC Try.prog 35 [.int .i64 0, .int .i64 0, .int .i64 0, .int .i64 0, .int .i64 0, .int .i64 0, .int .i64 0, .int .i64 0, .int .i64 0, .int .i64 0, .int .i64 0, .int .i64 0] := ⟨zeroC_of (z := .agg #[.int .i64 0, .int .i64 0, .int .i64 0, .int .i64 0, .int .i64 0, .int .i64 0, .int .i64 0, .int .i64 0, .int .i64 0, .int .i64 0, .int .i64 0, .int .i64 0]) (by kernel_rfl) rfl⟩
instance : Parts Try.prog 35 [(0, 12)] := ⟨.inl ⟨_, Try.underlying35, by kernel_rfl, by kernel_rfl⟩⟩
instance : Aggr Try.prog 35 12 := ⟨⟨_, Try.underlying35, rfl⟩, by kernel_rfl⟩
instance : Fld Try.prog 35 0 0 := ⟨fld_of (by kernel_rfl)⟩
instance : Sz Try.prog 36 (.slice none 0 0) 1 24 := ⟨by kernel_rfl⟩
instance : ZeroC Try.prog 36 [.slice none 0 0] := ⟨zeroC_of (z := .slice none 0 0) (by kernel_rfl) rfl⟩
instance : Scalar Try.prog 36 := ⟨_, Try.underlying36, rfl⟩
instance : SliceT Try.prog 36 3 := ⟨Try.underlying36⟩
instance : Sz Try.prog 37 (.agg #[.int .i64 0, .slice none 0 0]) 2 32 := ⟨by kernel_rfl⟩
instance : ZeroC Try.prog 37 [.int .i64 0, .slice none 0 0] := ⟨zeroC_of (z := .agg #[.int .i64 0, .slice none 0 0]) (by kernel_rfl) rfl⟩
instance : Parts Try.prog 37 [(0, 1), (1, 1)] := ⟨.inl ⟨_, Try.underlying37, by kernel_rfl, by kernel_rfl⟩⟩
instance : Aggr Try.prog 37 2 := ⟨⟨_, Try.underlying37, rfl⟩, by kernel_rfl⟩
instance : Fld Try.prog 37 0 0 := ⟨fld_of (by kernel_rfl)⟩
instance : Fld Try.prog 37 1 1 := ⟨fld_of (by kernel_rfl)⟩
instance : Sz Try.prog 38 (.agg #[.int .i64 0, .slice none 0 0]) 2 32 := ⟨by kernel_rfl⟩
instance : ZeroC Try.prog 38 [.int .i64 0, .slice none 0 0] := ⟨zeroC_of (z := .agg #[.int .i64 0, .slice none 0 0]) (by kernel_rfl) rfl⟩
instance : Parts Try.prog 38 [(0, 1), (1, 1)] := ⟨.inl ⟨_, Try.underlying38, by kernel_rfl, by kernel_rfl⟩⟩
instance : Aggr Try.prog 38 2 := ⟨⟨_, Try.underlying38, rfl⟩, by kernel_rfl⟩
instance : Fld Try.prog 38 0 0 := ⟨fld_of (by kernel_rfl)⟩
instance : Fld Try.prog 38 1 1 := ⟨fld_of (by kernel_rfl)⟩
instance : Sz Try.prog 39 (.nilFunc) 1 8 := ⟨by kernel_rfl⟩
instance : ZeroC Try.prog 39 [.nilFunc] := ⟨zeroC_of (z := .nilFunc) (by kernel_rfl) rfl⟩
instance : Scalar Try.prog 39 := ⟨_, Try.underlying39, rfl⟩
instance : Sz Try.prog 40 (.slice none 0 0) 1 24 := ⟨by kernel_rfl⟩
instance : ZeroC Try.prog 40 [.slice none 0 0] := ⟨zeroC_of (z := .slice none 0 0) (by kernel_rfl) rfl⟩
instance : Scalar Try.prog 40 := ⟨_, Try.underlying40, rfl⟩
instance : SliceT Try.prog 40 144 := ⟨Try.underlying40⟩
instance : Sz Try.prog 41 (.agg #[.int .i64 0, .slice none 0 0]) 2 32 := ⟨by kernel_rfl⟩
instance : ZeroC Try.prog 41 [.int .i64 0, .slice none 0 0] := ⟨zeroC_of (z := .agg #[.int .i64 0, .slice none 0 0]) (by kernel_rfl) rfl⟩
instance : Parts Try.prog 41 [(0, 1), (1, 1)] := ⟨.inl ⟨_, Try.underlying41, by kernel_rfl, by kernel_rfl⟩⟩
instance : Aggr Try.prog 41 2 := ⟨⟨_, Try.underlying41, rfl⟩, by kernel_rfl⟩
instance : Fld Try.prog 41 0 0 := ⟨fld_of (by kernel_rfl)⟩
instance : Fld Try.prog 41 1 1 := ⟨fld_of (by kernel_rfl)⟩
instance : Sz Try.prog 46 (.agg #[.int .i64 0, .int .i64 0, .int .i64 0]) 3 24 := ⟨by kernel_rfl⟩
instance : ZeroC Try.prog 46 [.int .i64 0, .int .i64 0, .int .i64 0] := ⟨zeroC_of (z := .agg #[.int .i64 0, .int .i64 0, .int .i64 0]) (by kernel_rfl) rfl⟩
instance : Parts Try.prog 46 [(0, 1), (1, 1), (2, 1)] := ⟨.inl ⟨_, Try.underlying46, by kernel_rfl, by kernel_rfl⟩⟩
instance : Aggr Try.prog 46 3 := ⟨⟨_, Try.underlying46, rfl⟩, by kernel_rfl⟩
instance : Fld Try.prog 46 0 0 := ⟨fld_of (by kernel_rfl)⟩
instance : Fld Try.prog 46 1 1 := ⟨fld_of (by kernel_rfl)⟩
instance : Fld Try.prog 46 2 2 := ⟨fld_of (by kernel_rfl)⟩
instance : Sz Try.prog 47 (.agg #[.int .i64 0, .int .i64 0, .int .i64 0, .int .i64 0, .int .i64 0, .int .i64 0, .int .i64 0, .int .i64 0, .int .i64 0, .int .i64 0, .int .i64 0, .int .i64 0]) 12 96 := ⟨by kernel_rfl⟩
instance : ZeroC Try.prog 47 [.int .i64 0, .int .i64 0, .int .i64 0, .int .i64 0, .int .i64 0, .int .i64 0, .int .i64 0, .int .i64 0, .int .i64 0, .int .i64 0, .int .i64 0, .int .i64 0] := ⟨zeroC_of (z := .agg #[.int .i64 0, .int .i64 0, .int .i64 0, .int .i64 0, .int .i64 0, .int .i64 0, .int .i64 0, .int .i64 0, .int .i64 0, .int .i64 0, .int .i64 0, .int .i64 0]) (by kernel_rfl) rfl⟩
instance : Parts Try.prog 47 [(0, 3), (3, 3), (6, 3), (9, 3)] := ⟨.inr ⟨_, _, Try.underlying47, by kernel_rfl, by kernel_rfl⟩⟩
instance : Aggr Try.prog 47 12 := ⟨⟨_, Try.underlying47, rfl⟩, by kernel_rfl⟩
instance : ArrT Try.prog 47 4 46 := ⟨Try.underlying47⟩
instance : Sz Try.prog 48 (.agg #[.int .i64 0, .int .i64 0, .int .i64 0, .int .i64 0, .int .i64 0, .int .i64 0, .int .i64 0, .int .i64 0, .int .i64 0, .int .i64 0, .int .i64 0, .int .i64 0]) 12 96 := ⟨by kernel_rfl⟩
instance : ZeroC Try.prog 48 [.int .i64 0, .int .i64 0, .int .i64 0, .int .i64 0, .int .i64 0, .int .i64 0, .int .i64 0, .int .i64 0, .int .i64 0, .int .i64 0, .int .i64 0, .int .i64 0] := ⟨zeroC_of (z := .agg #[.int .i64 0, .int .i64 0, .int .i64 0, .int .i64 0, .int .i64 0, .int .i64 0, .int .i64 0, .int .i64 0, .int .i64 0, .int .i64 0, .int .i64 0, .int .i64 0]) (by kernel_rfl) rfl⟩
instance : Parts Try.prog 48 [(0, 12)] := ⟨.inl ⟨_, Try.underlying48, by kernel_rfl, by kernel_rfl⟩⟩
instance : Aggr Try.prog 48 12 := ⟨⟨_, Try.underlying48, rfl⟩, by kernel_rfl⟩
instance : Fld Try.prog 48 0 0 := ⟨fld_of (by kernel_rfl)⟩
instance : Sz Try.prog 49 (.agg #[.int .i64 0, .int .i64 0, .int .i64 0, .int .i64 0, .int .i64 0, .int .i64 0, .int .i64 0, .int .i64 0, .int .i64 0, .int .i64 0, .int .i64 0, .int .i64 0]) 12 96 := ⟨by kernel_rfl⟩
instance : ZeroC Try.prog 49 [.int .i64 0, .int .i64 0, .int .i64 0, .int .i64 0, .int .i64 0, .int .i64 0, .int .i64 0, .int .i64 0, .int .i64 0, .int .i64 0, .int .i64 0, .int .i64 0] := ⟨zeroC_of (z := .agg #[.int .i64 0, .int .i64 0, .int .i64 0, .int .i64 0, .int .i64 0, .int .i64 0, .int .i64 0, .int .i64 0, .int .i64 0, .int .i64 0, .int .i64 0, .int .i64 0]) (by kernel_rfl) rfl⟩
instance : Parts Try.prog 49 [(0, 12)] := ⟨.inl ⟨_, Try.underlying49, by kernel_rfl, by kernel_rfl⟩⟩
instance : Aggr Try.prog 49 12 := ⟨⟨_, Try.underlying49, rfl⟩, by kernel_rfl⟩
instance : Fld Try.prog 49 0 0 := ⟨fld_of (by kernel_rfl)⟩
instance : Sz Try.prog 51 (.nilFunc) 1 8 := ⟨by kernel_rfl⟩
instance : ZeroC Try.prog 51 [.nilFunc] := ⟨zeroC_of (z := .nilFunc) (by kernel_rfl) rfl⟩
instance : Scalar Try.prog 51 := ⟨_, Try.underlying51, rfl⟩
instance : Sz Try.prog 63 (.slice none 0 0) 1 24 := ⟨by kernel_rfl⟩
instance : ZeroC Try.prog 63 [.slice none 0 0] := ⟨zeroC_of (z := .slice none 0 0) (by kernel_rfl) rfl⟩
instance : Scalar Try.prog 63 := ⟨_, Try.underlying63, rfl⟩
instance : SliceT Try.prog 63 78 := ⟨Try.underlying63⟩
instance : Sz Try.prog 64 (.slice none 0 0) 1 24 := ⟨by kernel_rfl⟩
instance : ZeroC Try.prog 64 [.slice none 0 0] := ⟨zeroC_of (z := .slice none 0 0) (by kernel_rfl) rfl⟩
instance : Scalar Try.prog 64 := ⟨_, Try.underlying64, rfl⟩
instance : SliceT Try.prog 64 155 := ⟨Try.underlying64⟩
instance : Sz Try.prog 65 (.agg #[.int .i64 0, .int .i64 0, .int .i64 0, .int .i64 0, .bool false, .int .i64 0, .int .i64 0, .int .i64 0, .slice none 0 0, .slice none 0 0, .slice none 0 0, .int .i64 0]) 12 144 := ⟨by kernel_rfl⟩
instance : ZeroC Try.prog 65 [.int .i64 0, .int .i64 0, .int .i64 0, .int .i64 0, .bool false, .int .i64 0, .int .i64 0, .int .i64 0, .slice none 0 0, .slice none 0 0, .slice none 0 0, .int .i64 0] := ⟨zeroC_of (z := .agg #[.int .i64 0, .int .i64 0, .int .i64 0, .int .i64 0, .bool false, .int .i64 0, .int .i64 0, .int .i64 0, .slice none 0 0, .slice none 0 0, .slice none 0 0, .int .i64 0]) (by kernel_rfl) rfl⟩
instance : Parts Try.prog 65 [(0, 7), (7, 2), (9, 1), (10, 1), (11, 1)] := ⟨.inl ⟨_, Try.underlying65, by kernel_rfl, by kernel_rfl⟩⟩
instance : Aggr Try.prog 65 12 := ⟨⟨_, Try.underlying65, rfl⟩, by kernel_rfl⟩
instance : Fld Try.prog 65 0 0 := ⟨fld_of (by kernel_rfl)⟩
instance : Fld Try.prog 65 1 7 := ⟨fld_of (by kernel_rfl)⟩
instance : Fld Try.prog 65 2 9 := ⟨fld_of (by kernel_rfl)⟩
instance : Fld Try.prog 65 3 10 := ⟨fld_of (by kernel_rfl)⟩
instance : Fld Try.prog 65 4 11 := ⟨fld_of (by kernel_rfl)⟩
instance : Sz Try.prog 67 (.nilFunc) 1 8 := ⟨by kernel_rfl⟩
instance : ZeroC Try.prog 67 [.nilFunc] := ⟨zeroC_of (z := .nilFunc) (by kernel_rfl) rfl⟩
instance : Scalar Try.prog 67 := ⟨_, Try.underlying67, rfl⟩
instance : Sz Try.prog 69 (.slice none 0 0) 1 24 := ⟨by kernel_rfl⟩
instance : ZeroC Try.prog 69 [.slice none 0 0] := ⟨zeroC_of (z := .slice none 0 0) (by kernel_rfl) rfl⟩
instance : Scalar Try.prog 69 := ⟨_, Try.underlying69, rfl⟩
instance : SliceT Try.prog 69 245 := ⟨Try.underlying69⟩
instance : Sz Try.prog 70 (.slice none 0 0) 1 24 := ⟨by kernel_rfl⟩
instance : ZeroC Try.prog 70 [.slice none 0 0] := ⟨zeroC_of (z := .slice none 0 0) (by kernel_rfl) rfl⟩
instance : Scalar Try.prog 70 := ⟨_, Try.underlying70, rfl⟩
instance : SliceT Try.prog 70 247 := ⟨Try.underlying70⟩
instance : Sz Try.prog 71 (.agg #[.slice none 0 0, .slice none 0 0]) 2 48 := ⟨by kernel_rfl⟩
instance : ZeroC Try.prog 71 [.slice none 0 0, .slice none 0 0] := ⟨zeroC_of (z := .agg #[.slice none 0 0, .slice none 0 0]) (by kernel_rfl) rfl⟩
instance : Parts Try.prog 71 [(0, 1), (1, 1)] := ⟨.inl ⟨_, Try.underlying71, by kernel_rfl, by kernel_rfl⟩⟩
instance : Aggr Try.prog 71 2 := ⟨⟨_, Try.underlying71, rfl⟩, by kernel_rfl⟩
instance : Fld Try.prog 71 0 0 := ⟨fld_of (by kernel_rfl)⟩
instance : Fld Try.prog 71 1 1 := ⟨fld_of (by kernel_rfl)⟩
instance : Sz Try.prog 72 (.agg #[.slice none 0 0, .slice none 0 0]) 2 48 := ⟨by kernel_rfl⟩
instance : ZeroC Try.prog 72 [.slice none 0 0, .slice none 0 0] := ⟨zeroC_of (z := .agg #[.slice none 0 0, .slice none 0 0]) (by kernel_rfl) rfl⟩
instance : Parts Try.prog 72 [(0, 1), (1, 1)] := ⟨.inl ⟨_, Try.underlying72, by kernel_rfl, by kernel_rfl⟩⟩
instance : Aggr Try.prog 72 2 := ⟨⟨_, Try.underlying72, rfl⟩, by kernel_rfl⟩
instance : Fld Try.prog 72 0 0 := ⟨fld_of (by kernel_rfl)⟩
instance : Fld Try.prog 72 1 1 := ⟨fld_of (by kernel_rfl)⟩
instance : Sz Try.prog 74 (.nilFunc) 1 8 := ⟨by kernel_rfl⟩
instance : ZeroC Try.prog 74 [.nilFunc] := ⟨zeroC_of (z := .nilFunc) (by kernel_rfl) rfl⟩
instance : Scalar Try.prog 74 := ⟨_, Try.underlying74, rfl⟩
instance : Sz Try.prog 75 (.slice none 0 0) 1 24 := ⟨by kernel_rfl⟩
instance : ZeroC Try.prog 75 [.slice none 0 0] := ⟨zeroC_of (z := .slice none 0 0) (by kernel_rfl) rfl⟩
instance : Scalar Try.prog 75 := ⟨_, Try.underlying75, rfl⟩
instance : SliceT Try.prog 75 190 := ⟨Try.underlying75⟩
instance : Sz Try.prog 76 (.slice none 0 0) 1 24 := ⟨by kernel_rfl⟩
instance : ZeroC Try.prog 76 [.slice none 0 0] := ⟨zeroC_of (z := .slice none 0 0) (by kernel_rfl) rfl⟩
instance : Scalar Try.prog 76 := ⟨_, Try.underlying76, rfl⟩
instance : SliceT Try.prog 76 106 := ⟨Try.underlying76⟩
instance : Sz Try.prog 77 (.agg #[.slice none 0 0, .slice none 0 0]) 2 48 := ⟨by kernel_rfl⟩
instance : ZeroC Try.prog 77 [.slice none 0 0, .slice none 0 0] := ⟨zeroC_of (z := .agg #[.slice none 0 0, .slice none 0 0]) (by kernel_rfl) rfl⟩
instance : Parts Try.prog 77 [(0, 1), (1, 1)] := ⟨.inl ⟨_, Try.underlying77, by kernel_rfl, by kernel_rfl⟩⟩
instance : Aggr Try.prog 77 2 := ⟨⟨_, Try.underlying77, rfl⟩, by kernel_rfl⟩
instance : Fld Try.prog 77 0 0 := ⟨fld_of (by kernel_rfl)⟩
instance : Fld Try.prog 77 1 1 := ⟨fld_of (by kernel_rfl)⟩
instance : Sz Try.prog 78 (.agg #[.slice none 0 0, .slice none 0 0]) 2 48 := ⟨by kernel_rfl⟩
instance : ZeroC Try.prog 78 [.slice none 0 0, .slice none 0 0] := ⟨zeroC_of (z := .agg #[.slice none 0 0, .slice none 0 0]) (by kernel_rfl) rfl⟩
instance : Parts Try.prog 78 [(0, 1), (1, 1)] := ⟨.inl ⟨_, Try.underlying78, by kernel_rfl, by kernel_rfl⟩⟩
instance : Aggr Try.prog 78 2 := ⟨⟨_, Try.underlying78, rfl⟩, by kernel_rfl⟩
instance : Fld Try.prog 78 0 0 := ⟨fld_of (by kernel_rfl)⟩
instance : Fld Try.prog 78 1 1 := ⟨fld_of (by kernel_rfl)⟩
instance : Sz Try.prog 80 (.nilFunc) 1 8 := ⟨by kernel_rfl⟩
instance : ZeroC Try.prog 80 [.nilFunc] := ⟨zeroC_of (z := .nilFunc) (by kernel_rfl) rfl⟩
instance : Scalar Try.prog 80 := ⟨_, Try.underlying80, rfl⟩
instance : Sz Try.prog 87 (.agg #[.int .i64 0, .int .i64 0, .int .i64 0]) 3 24 := ⟨by kernel_rfl⟩
instance : ZeroC Try.prog 87 [.int .i64 0, .int .i64 0, .int .i64 0] := ⟨zeroC_of (z := .agg #[.int .i64 0, .int .i64 0, .int .i64 0]) (by kernel_rfl) rfl⟩
instance : Parts Try.prog 87 [(0, 1), (1, 1), (2, 1)] := ⟨.inl ⟨_, Try.underlying87, by kernel_rfl, by kernel_rfl⟩⟩
instance : Aggr Try.prog 87 3 := ⟨⟨_, Try.underlying87, rfl⟩, by kernel_rfl⟩
instance : Fld Try.prog 87 0 0 := ⟨fld_of (by kernel_rfl)⟩
instance : Fld Try.prog 87 1 1 := ⟨fld_of (by kernel_rfl)⟩
instance : Fld Try.prog 87 2 2 := ⟨fld_of (by kernel_rfl)⟩
instance : Sz Try.prog 88 (.agg #[.int .i64 0, .int .i64 0, .int .i64 0]) 3 24 := ⟨by kernel_rfl⟩
instance : ZeroC Try.prog 88 [.int .i64 0, .int .i64 0, .int .i64 0] := ⟨zeroC_of (z := .agg #[.int .i64 0, .int .i64 0, .int .i64 0]) (by kernel_rfl) rfl⟩
instance : Parts Try.prog 88 [(0, 1), (1, 1), (2, 1)] := ⟨.inl ⟨_, Try.underlying88, by kernel_rfl, by kernel_rfl⟩⟩
instance : Aggr Try.prog 88 3 := ⟨⟨_, Try.underlying88, rfl⟩, by kernel_rfl⟩
instance : Fld Try.prog 88 0 0 := ⟨fld_of (by kernel_rfl)⟩
instance : Fld Try.prog 88 1 1 := ⟨fld_of (by kernel_rfl)⟩
instance : Fld Try.prog 88 2 2 := ⟨fld_of (by kernel_rfl)⟩
instance : Sz Try.prog 95 (.agg #[.int .i64 0, .int .i64 0, .int .i64 0]) 3 24 := ⟨by kernel_rfl⟩
instance : ZeroC Try.prog 95 [.int .i64 0, .int .i64 0, .int .i64 0] := ⟨zeroC_of (z := .agg #[.int .i64 0, .int .i64 0, .int .i64 0]) (by kernel_rfl) rfl⟩
instance : Parts Try.prog 95 [(0, 1), (1, 1), (2, 1)] := ⟨.inl ⟨_, Try.underlying95, by kernel_rfl, by kernel_rfl⟩⟩
instance : Aggr Try.prog 95 3 := ⟨⟨_, Try.underlying95, rfl⟩, by kernel_rfl⟩
instance : Fld Try.prog 95 0 0 := ⟨fld_of (by kernel_rfl)⟩
instance : Fld Try.prog 95 1 1 := ⟨fld_of (by kernel_rfl)⟩
instance : Fld Try.prog 95 2 2 := ⟨fld_of (by kernel_rfl)⟩
instance : Sz Try.prog 97 (.nilFunc) 1 8 := ⟨by kernel_rfl⟩
instance : ZeroC Try.prog 97 [.nilFunc] := ⟨zeroC_of (z := .nilFunc) (by kernel_rfl) rfl⟩
instance : Scalar Try.prog 97 := ⟨_, Try.underlying97, rfl⟩
instance : Sz Try.prog 98 (.nilFunc) 1 8 := ⟨by kernel_rfl⟩
instance : ZeroC Try.prog 98 [.nilFunc] := ⟨zeroC_of (z := .nilFunc) (by kernel_rfl) rfl⟩
instance : Scalar Try.prog 98 := ⟨_, Try.underlying98, rfl⟩
instance : Sz Try.prog 99 (.nilFunc) 1 8 := ⟨by kernel_rfl⟩
instance : ZeroC Try.prog 99 [.nilFunc] := ⟨zeroC_of (z := .nilFunc) (by kernel_rfl) rfl⟩
instance : Scalar Try.prog 99 := ⟨_, Try.underlying99, rfl⟩
instance : Sz Try.prog 100 (.slice none 0 0) 1 24 := ⟨by kernel_rfl⟩
instance : ZeroC Try.prog 100 [.slice none 0 0] := ⟨zeroC_of (z := .slice none 0 0) (by kernel_rfl) rfl⟩
instance : Scalar Try.prog 100 := ⟨_, Try.underlying100, rfl⟩
instance : SliceT Try.prog 100 5 := ⟨Try.underlying100⟩
instance : Sz Try.prog 101 (.nilFunc) 1 8 := ⟨by kernel_rfl⟩
instance : ZeroC Try.prog 101 [.nilFunc] := ⟨zeroC_of (z := .nilFunc) (by kernel_rfl) rfl⟩
instance : Scalar Try.prog 101 := ⟨_, Try.underlying101, rfl⟩
instance : Sz Try.prog 105 (.agg #[.string ⟨#[]⟩, .int .i64 0]) 2 24 := ⟨by kernel_rfl⟩
instance : ZeroC Try.prog 105 [.string ⟨#[]⟩, .int .i64 0] := ⟨zeroC_of (z := .agg #[.string ⟨#[]⟩, .int .i64 0]) (by kernel_rfl) rfl⟩
instance : Parts Try.prog 105 [(0, 1), (1, 1)] := ⟨.inl ⟨_, Try.underlying105, by kernel_rfl, by kernel_rfl⟩⟩
instance : Aggr Try.prog 105 2 := ⟨⟨_, Try.underlying105, rfl⟩, by kernel_rfl⟩
instance : Fld Try.prog 105 0 0 := ⟨fld_of (by kernel_rfl)⟩
instance : Fld Try.prog 105 1 1 := ⟨fld_of (by kernel_rfl)⟩
instance : Sz Try.prog 106 (.agg #[.string ⟨#[]⟩, .int .i64 0]) 2 24 := ⟨by kernel_rfl⟩
instance : ZeroC Try.prog 106 [.string ⟨#[]⟩, .int .i64 0] := ⟨zeroC_of (z := .agg #[.string ⟨#[]⟩, .int .i64 0]) (by kernel_rfl) rfl⟩
instance : Parts Try.prog 106 [(0, 1), (1, 1)] := ⟨.inl ⟨_, Try.underlying106, by kernel_rfl, by kernel_rfl⟩⟩
instance : Aggr Try.prog 106 2 := ⟨⟨_, Try.underlying106, rfl⟩, by kernel_rfl⟩
instance : Fld Try.prog 106 0 0 := ⟨fld_of (by kernel_rfl)⟩
instance : Fld Try.prog 106 1 1 := ⟨fld_of (by kernel_rfl)⟩
instance : Sz Try.prog 107 (.nilFunc) 1 8 := ⟨by kernel_rfl⟩
instance : ZeroC Try.prog 107 [.nilFunc] := ⟨zeroC_of (z := .nilFunc) (by kernel_rfl) rfl⟩
instance : Scalar Try.prog 107 := ⟨_, Try.underlying107, rfl⟩
instance : Sz Try.prog 108 (.nilFunc) 1 8 := ⟨by kernel_rfl⟩
instance : ZeroC Try.prog 108 [.nilFunc] := ⟨zeroC_of (z := .nilFunc) (by kernel_rfl) rfl⟩
instance : Scalar Try.prog 108 := ⟨_, Try.underlying108, rfl⟩
instance : Sz Try.prog 109 (.slice none 0 0) 1 24 := ⟨by kernel_rfl⟩
instance : ZeroC Try.prog 109 [.slice none 0 0] := ⟨zeroC_of (z := .slice none 0 0) (by kernel_rfl) rfl⟩
instance : Scalar Try.prog 109 := ⟨_, Try.underlying109, rfl⟩
instance : SliceT Try.prog 109 271 := ⟨Try.underlying109⟩
instance : Sz Try.prog 110 (.slice none 0 0) 1 24 := ⟨by kernel_rfl⟩
instance : ZeroC Try.prog 110 [.slice none 0 0] := ⟨zeroC_of (z := .slice none 0 0) (by kernel_rfl) rfl⟩
instance : Scalar Try.prog 110 := ⟨_, Try.underlying110, rfl⟩
instance : SliceT Try.prog 110 9 := ⟨Try.underlying110⟩
instance : Sz Try.prog 111 (.agg #[.slice none 0 0, .slice none 0 0]) 2 48 := ⟨by kernel_rfl⟩
instance : ZeroC Try.prog 111 [.slice none 0 0, .slice none 0 0] := ⟨zeroC_of (z := .agg #[.slice none 0 0, .slice none 0 0]) (by kernel_rfl) rfl⟩
instance : Parts Try.prog 111 [(0, 1), (1, 1)] := ⟨.inl ⟨_, Try.underlying111, by kernel_rfl, by kernel_rfl⟩⟩
instance : Aggr Try.prog 111 2 := ⟨⟨_, Try.underlying111, rfl⟩, by kernel_rfl⟩
instance : Fld Try.prog 111 0 0 := ⟨fld_of (by kernel_rfl)⟩
instance : Fld Try.prog 111 1 1 := ⟨fld_of (by kernel_rfl)⟩
instance : Sz Try.prog 112 (.agg #[.slice none 0 0, .slice none 0 0]) 2 48 := ⟨by kernel_rfl⟩
instance : ZeroC Try.prog 112 [.slice none 0 0, .slice none 0 0] := ⟨zeroC_of (z := .agg #[.slice none 0 0, .slice none 0 0]) (by kernel_rfl) rfl⟩
instance : Parts Try.prog 112 [(0, 1), (1, 1)] := ⟨.inl ⟨_, Try.underlying112, by kernel_rfl, by kernel_rfl⟩⟩
instance : Aggr Try.prog 112 2 := ⟨⟨_, Try.underlying112, rfl⟩, by kernel_rfl⟩
instance : Fld Try.prog 112 0 0 := ⟨fld_of (by kernel_rfl)⟩
instance : Fld Try.prog 112 1 1 := ⟨fld_of (by kernel_rfl)⟩
instance : Sz Try.prog 113 (.nilFunc) 1 8 := ⟨by kernel_rfl⟩
instance : ZeroC Try.prog 113 [.nilFunc] := ⟨zeroC_of (z := .nilFunc) (by kernel_rfl) rfl⟩
instance : Scalar Try.prog 113 := ⟨_, Try.underlying113, rfl⟩
instance : Sz Try.prog 114 (.slice none 0 0) 1 24 := ⟨by kernel_rfl⟩
instance : ZeroC Try.prog 114 [.slice none 0 0] := ⟨zeroC_of (z := .slice none 0 0) (by kernel_rfl) rfl⟩
instance : Scalar Try.prog 114 := ⟨_, Try.underlying114, rfl⟩
instance : SliceT Try.prog 114 201 := ⟨Try.underlying114⟩
instance : Sz Try.prog 115 (.agg #[.slice none 0 0, .slice none 0 0]) 2 48 := ⟨by kernel_rfl⟩
instance : ZeroC Try.prog 115 [.slice none 0 0, .slice none 0 0] := ⟨zeroC_of (z := .agg #[.slice none 0 0, .slice none 0 0]) (by kernel_rfl) rfl⟩
instance : Parts Try.prog 115 [(0, 1), (1, 1)] := ⟨.inl ⟨_, Try.underlying115, by kernel_rfl, by kernel_rfl⟩⟩
instance : Aggr Try.prog 115 2 := ⟨⟨_, Try.underlying115, rfl⟩, by kernel_rfl⟩
instance : Fld Try.prog 115 0 0 := ⟨fld_of (by kernel_rfl)⟩
instance : Fld Try.prog 115 1 1 := ⟨fld_of (by kernel_rfl)⟩
instance : Sz Try.prog 116 (.agg #[.slice none 0 0, .slice none 0 0]) 2 48 := ⟨by kernel_rfl⟩
instance : ZeroC Try.prog 116 [.slice none 0 0, .slice none 0 0] := ⟨zeroC_of (z := .agg #[.slice none 0 0, .slice none 0 0]) (by kernel_rfl) rfl⟩
instance : Parts Try.prog 116 [(0, 1), (1, 1)] := ⟨.inl ⟨_, Try.underlying116, by kernel_rfl, by kernel_rfl⟩⟩
instance : Aggr Try.prog 116 2 := ⟨⟨_, Try.underlying116, rfl⟩, by kernel_rfl⟩
instance : Fld Try.prog 116 0 0 := ⟨fld_of (by kernel_rfl)⟩
instance : Fld Try.prog 116 1 1 := ⟨fld_of (by kernel_rfl)⟩
instance : Sz Try.prog 117 (.nilFunc) 1 8 := ⟨by kernel_rfl⟩
instance : ZeroC Try.prog 117 [.nilFunc] := ⟨zeroC_of (z := .nilFunc) (by kernel_rfl) rfl⟩
instance : Scalar Try.prog 117 := ⟨_, Try.underlying117, rfl⟩
instance : Sz Try.prog 118 (.nilFunc) 1 8 := ⟨by kernel_rfl⟩
instance : ZeroC Try.prog 118 [.nilFunc] := ⟨zeroC_of (z := .nilFunc) (by kernel_rfl) rfl⟩
instance : Scalar Try.prog 118 := ⟨_, Try.underlying118, rfl⟩
instance : Sz Try.prog 120 (.nilFunc) 1 8 := ⟨by kernel_rfl⟩
instance : ZeroC Try.prog 120 [.nilFunc] := ⟨zeroC_of (z := .nilFunc) (by kernel_rfl) rfl⟩
instance : Scalar Try.prog 120 := ⟨_, Try.underlying120, rfl⟩
instance : Sz Try.prog 121 (.nilFunc) 1 8 := ⟨by kernel_rfl⟩
instance : ZeroC Try.prog 121 [.nilFunc] := ⟨zeroC_of (z := .nilFunc) (by kernel_rfl) rfl⟩
instance : Scalar Try.prog 121 := ⟨_, Try.underlying121, rfl⟩
instance : Sz Try.prog 129 (.nilFunc) 1 8 := ⟨by kernel_rfl⟩
instance : ZeroC Try.prog 129 [.nilFunc] := ⟨zeroC_of (z := .nilFunc) (by kernel_rfl) rfl⟩
instance : Scalar Try.prog 129 := ⟨_, Try.underlying129, rfl⟩
instance : Sz Try.prog 130 (.nilFunc) 1 8 := ⟨by kernel_rfl⟩
instance : ZeroC Try.prog 130 [.nilFunc] := ⟨zeroC_of (z := .nilFunc) (by kernel_rfl) rfl⟩
instance : Scalar Try.prog 130 := ⟨_, Try.underlying130, rfl⟩
instance : Sz Try.prog 131 (.nilFunc) 1 8 := ⟨by kernel_rfl⟩
instance : ZeroC Try.prog 131 [.nilFunc] := ⟨zeroC_of (z := .nilFunc) (by kernel_rfl) rfl⟩
instance : Scalar Try.prog 131 := ⟨_, Try.underlying131, rfl⟩
instance : Sz Try.prog 132 (.nilFunc) 1 8 := ⟨by kernel_rfl⟩
instance : ZeroC Try.prog 132 [.nilFunc] := ⟨zeroC_of (z := .nilFunc) (by kernel_rfl) rfl⟩
instance : Scalar Try.prog 132 := ⟨_, Try.underlying132, rfl⟩
instance : Sz Try.prog 133 (.nilFunc) 1 8 := ⟨by kernel_rfl⟩
instance : ZeroC Try.prog 133 [.nilFunc] := ⟨zeroC_of (z := .nilFunc) (by kernel_rfl) rfl⟩
instance : Scalar Try.prog 133 := ⟨_, Try.underlying133, rfl⟩
instance : Sz Try.prog 134 (.nilFunc) 1 8 := ⟨by kernel_rfl⟩
instance : ZeroC Try.prog 134 [.nilFunc] := ⟨zeroC_of (z := .nilFunc) (by kernel_rfl) rfl⟩
instance : Scalar Try.prog 134 := ⟨_, Try.underlying134, rfl⟩
instance : Sz Try.prog 135 (.agg #[.int .i64 0, .int .i64 0, .int .i64 0, .int .i64 0]) 4 32 := ⟨by kernel_rfl⟩
instance : ZeroC Try.prog 135 [.int .i64 0, .int .i64 0, .int .i64 0, .int .i64 0] := ⟨zeroC_of (z := .agg #[.int .i64 0, .int .i64 0, .int .i64 0, .int .i64 0]) (by kernel_rfl) rfl⟩
instance : Parts Try.prog 135 [(0, 1), (1, 1), (2, 1), (3, 1)] := ⟨.inl ⟨_, Try.underlying135, by kernel_rfl, by kernel_rfl⟩⟩
instance : Aggr Try.prog 135 4 := ⟨⟨_, Try.underlying135, rfl⟩, by kernel_rfl⟩
instance : Fld Try.prog 135 0 0 := ⟨fld_of (by kernel_rfl)⟩
instance : Fld Try.prog 135 1 1 := ⟨fld_of (by kernel_rfl)⟩
instance : Fld Try.prog 135 2 2 := ⟨fld_of (by kernel_rfl)⟩
instance : Fld Try.prog 135 3 3 := ⟨fld_of (by kernel_rfl)⟩
instance : Sz Try.prog 136 (.agg #[.int .i64 0, .int .i64 0, .int .i64 0, .int .i64 0]) 4 32 := ⟨by kernel_rfl⟩
instance : ZeroC Try.prog 136 [.int .i64 0, .int .i64 0, .int .i64 0, .int .i64 0] := ⟨zeroC_of (z := .agg #[.int .i64 0, .int .i64 0, .int .i64 0, .int .i64 0]) (by kernel_rfl) rfl⟩
instance : Parts Try.prog 136 [(0, 1), (1, 1), (2, 1), (3, 1)] := ⟨.inl ⟨_, Try.underlying136, by kernel_rfl, by kernel_rfl⟩⟩
instance : Aggr Try.prog 136 4 := ⟨⟨_, Try.underlying136, rfl⟩, by kernel_rfl⟩
instance : Fld Try.prog 136 0 0 := ⟨fld_of (by kernel_rfl)⟩
instance : Fld Try.prog 136 1 1 := ⟨fld_of (by kernel_rfl)⟩
instance : Fld Try.prog 136 2 2 := ⟨fld_of (by kernel_rfl)⟩
instance : Fld Try.prog 136 3 3 := ⟨fld_of (by kernel_rfl)⟩
instance : Sz Try.prog 141 (.nilFunc) 1 8 := ⟨by kernel_rfl⟩
instance : ZeroC Try.prog 141 [.nilFunc] := ⟨zeroC_of (z := .nilFunc) (by kernel_rfl) rfl⟩
instance : Scalar Try.prog 141 := ⟨_, Try.underlying141, rfl⟩
instance : Sz Try.prog 143 (.agg #[.int .i64 0, .int .i64 0, .int .i64 0, .int .i64 0, .int .i64 0]) 5 40 := ⟨by kernel_rfl⟩
instance : ZeroC Try.prog 143 [.int .i64 0, .int .i64 0, .int .i64 0, .int .i64 0, .int .i64 0] := ⟨zeroC_of (z := .agg #[.int .i64 0, .int .i64 0, .int .i64 0, .int .i64 0, .int .i64 0]) (by kernel_rfl) rfl⟩
instance : Parts Try.prog 143 [(0, 1), (1, 1), (2, 1), (3, 1), (4, 1)] := ⟨.inl ⟨_, Try.underlying143, by kernel_rfl, by kernel_rfl⟩⟩
instance : Aggr Try.prog 143 5 := ⟨⟨_, Try.underlying143, rfl⟩, by kernel_rfl⟩
instance : Fld Try.prog 143 0 0 := ⟨fld_of (by kernel_rfl)⟩
instance : Fld Try.prog 143 1 1 := ⟨fld_of (by kernel_rfl)⟩
instance : Fld Try.prog 143 2 2 := ⟨fld_of (by kernel_rfl)⟩
instance : Fld Try.prog 143 3 3 := ⟨fld_of (by kernel_rfl)⟩
instance : Fld Try.prog 143 4 4 := ⟨fld_of (by kernel_rfl)⟩
instance : Sz Try.prog 144 (.agg #[.int .i64 0, .int .i64 0, .int .i64 0, .int .i64 0, .int .i64 0]) 5 40 := ⟨by kernel_rfl⟩
instance : ZeroC Try.prog 144 [.int .i64 0, .int .i64 0, .int .i64 0, .int .i64 0, .int .i64 0] := ⟨zeroC_of (z := .agg #[.int .i64 0, .int .i64 0, .int .i64 0, .int .i64 0, .int .i64 0]) (by kernel_rfl) rfl⟩
instance : Parts Try.prog 144 [(0, 1), (1, 1), (2, 1), (3, 1), (4, 1)] := ⟨.inl ⟨_, Try.underlying144, by kernel_rfl, by kernel_rfl⟩⟩
instance : Aggr Try.prog 144 5 := ⟨⟨_, Try.underlying144, rfl⟩, by kernel_rfl⟩
instance : Fld Try.prog 144 0 0 := ⟨fld_of (by kernel_rfl)⟩
instance : Fld Try.prog 144 1 1 := ⟨fld_of (by kernel_rfl)⟩
instance : Fld Try.prog 144 2 2 := ⟨fld_of (by kernel_rfl)⟩
instance : Fld Try.prog 144 3 3 := ⟨fld_of (by kernel_rfl)⟩
instance : Fld Try.prog 144 4 4 := ⟨fld_of (by kernel_rfl)⟩
instance : Sz Try.prog 154 (.agg #[.int .i64 0, .int .i64 0, .int .i64 0, .int .i64 0, .int .i64 0, .int .i64 0, .int .i64 0, .int .i64 0, .int .i64 0, .int .i64 0, .int .i64 0, .int .i64 0, .int .i64 0, .int .i64 0, .int .i64 0, .int .i64 0, .int .i64 0, .int .i64 0, .int .i64 0, .int .i64 0, .int .i64 0, .int .i64 0, .int .i64 0, .int .i64 0, .int .i64 0, .int .i64 0]) 26 208 := ⟨by kernel_rfl⟩
instance : ZeroC Try.prog 154 [.int .i64 0, .int .i64 0, .int .i64 0, .int .i64 0, .int .i64 0, .int .i64 0, .int .i64 0, .int .i64 0, .int .i64 0, .int .i64 0, .int .i64 0, .int .i64 0, .int .i64 0, .int .i64 0, .int .i64 0, .int .i64 0, .int .i64 0, .int .i64 0, .int .i64 0, .int .i64 0, .int .i64 0, .int .i64 0, .int .i64 0, .int .i64 0, .int .i64 0, .int .i64 0] := ⟨zeroC_of (z := .agg #[.int .i64 0, .int .i64 0, .int .i64 0, .int .i64 0, .int .i64 0, .int .i64 0, .int .i64 0, .int .i64 0, .int .i64 0, .int .i64 0, .int .i64 0, .int .i64 0, .int .i64 0, .int .i64 0, .int .i64 0, .int .i64 0, .int .i64 0, .int .i64 0, .int .i64 0, .int .i64 0, .int .i64 0, .int .i64 0, .int .i64 0, .int .i64 0, .int .i64 0, .int .i64 0]) (by kernel_rfl) rfl⟩
instance : Parts Try.prog 154 [(0, 12), (12, 12), (24, 1), (25, 1)] := ⟨.inl ⟨_, Try.underlying154, by kernel_rfl, by kernel_rfl⟩⟩
instance : Aggr Try.prog 154 26 := ⟨⟨_, Try.underlying154, rfl⟩, by kernel_rfl⟩
instance : Fld Try.prog 154 0 0 := ⟨fld_of (by kernel_rfl)⟩
instance : Fld Try.prog 154 1 12 := ⟨fld_of (by kernel_rfl)⟩
instance : Fld Try.prog 154 2 24 := ⟨fld_of (by kernel_rfl)⟩
instance : Fld Try.prog 154 3 25 := ⟨fld_of (by kernel_rfl)⟩
instance : Sz Try.prog 155 (.agg #[.int .i64 0, .int .i64 0, .int .i64 0, .int .i64 0, .int .i64 0, .int .i64 0, .int .i64 0, .int .i64 0, .int .i64 0, .int .i64 0, .int .i64 0, .int .i64 0, .int .i64 0, .int .i64 0, .int .i64 0, .int .i64 0, .int .i64 0, .int .i64 0, .int .i64 0, .int .i64 0, .int .i64 0, .int .i64 0, .int .i64 0, .int .i64 0, .int .i64 0, .int .i64 0]) 26 208 := ⟨by kernel_rfl⟩
instance : ZeroC Try.prog 155 [.int .i64 0, .int .i64 0, .int .i64 0, .int .i64 0, .int .i64 0, .int .i64 0, .int .i64 0, .int .i64 0, .int .i64 0, .int .i64 0, .int .i64 0, .int .i64 0, .int .i64 0, .int .i64 0, .int .i64 0, .int .i64 0, .int .i64 0, .int .i64 0, .int .i64 0, .int .i64 0, .int .i64 0, .int .i64 0, .int .i64 0, .int .i64 0, .int .i64 0, .int .i64 0] := ⟨zeroC_of (z := .agg #[.int .i64 0, .int .i64 0, .int .i64 0, .int .i64 0, .int .i64 0, .int .i64 0, .int .i64 0, .int .i64 0, .int .i64 0, .int .i64 0, .int .i64 0, .int .i64 0, .int .i64 0, .int .i64 0, .int .i64 0, .int .i64 0, .int .i64 0, .int .i64 0, .int .i64 0, .int .i64 0, .int .i64 0, .int .i64 0, .int .i64 0, .int .i64 0, .int .i64 0, .int .i64 0]) (by kernel_rfl) rfl⟩
instance : Parts Try.prog 155 [(0, 12), (12, 12), (24, 1), (25, 1)] := ⟨.inl ⟨_, Try.underlying155, by kernel_rfl, by kernel_rfl⟩⟩
instance : Aggr Try.prog 155 26 := ⟨⟨_, Try.underlying155, rfl⟩, by kernel_rfl⟩
instance : Fld Try.prog 155 0 0 := ⟨fld_of (by kernel_rfl)⟩
instance : Fld Try.prog 155 1 12 := ⟨fld_of (by kernel_rfl)⟩
instance : Fld Try.prog 155 2 24 := ⟨fld_of (by kernel_rfl)⟩
instance : Fld Try.prog 155 3 25 := ⟨fld_of (by kernel_rfl)⟩
instance : Sz Try.prog 160 (.nilFunc) 1 8 := ⟨by kernel_rfl⟩
instance : ZeroC Try.prog 160 [.nilFunc] := ⟨zeroC_of (z := .nilFunc) (by kernel_rfl) rfl⟩
instance : Scalar Try.prog 160 := ⟨_, Try.underlying160, rfl⟩
instance : Sz Try.prog 164 (.slice none 0 0) 1 24 := ⟨by kernel_rfl⟩
instance : ZeroC Try.prog 164 [.slice none 0 0] := ⟨zeroC_of (z := .slice none 0 0) (by kernel_rfl) rfl⟩
instance : Scalar Try.prog 164 := ⟨_, Try.underlying164, rfl⟩
instance : SliceT Try.prog 164 4 := ⟨Try.underlying164⟩
instance : Sz Try.prog 186 (.map none) 1 8 := ⟨by kernel_rfl⟩
instance : ZeroC Try.prog 186 [.map none] := ⟨zeroC_of (z := .map none) (by kernel_rfl) rfl⟩
instance : Scalar Try.prog 186 := ⟨_, Try.underlying186, rfl⟩
instance : Sz Try.prog 189 (.agg #[.int .i64 0, .string ⟨#[]⟩, .int .i64 0, .slice none 0 0]) 4 56 := ⟨by kernel_rfl⟩
instance : ZeroC Try.prog 189 [.int .i64 0, .string ⟨#[]⟩, .int .i64 0, .slice none 0 0] := ⟨zeroC_of (z := .agg #[.int .i64 0, .string ⟨#[]⟩, .int .i64 0, .slice none 0 0]) (by kernel_rfl) rfl⟩
instance : Parts Try.prog 189 [(0, 1), (1, 1), (2, 1), (3, 1)] := ⟨.inl ⟨_, Try.underlying189, by kernel_rfl, by kernel_rfl⟩⟩
instance : Aggr Try.prog 189 4 := ⟨⟨_, Try.underlying189, rfl⟩, by kernel_rfl⟩
instance : Fld Try.prog 189 0 0 := ⟨fld_of (by kernel_rfl)⟩
instance : Fld Try.prog 189 1 1 := ⟨fld_of (by kernel_rfl)⟩
instance : Fld Try.prog 189 2 2 := ⟨fld_of (by kernel_rfl)⟩
instance : Fld Try.prog 189 3 3 := ⟨fld_of (by kernel_rfl)⟩
instance : Sz Try.prog 190 (.agg #[.int .i64 0, .string ⟨#[]⟩, .int .i64 0, .slice none 0 0]) 4 56 := ⟨by kernel_rfl⟩
instance : ZeroC Try.prog 190 [.int .i64 0, .string ⟨#[]⟩, .int .i64 0, .slice none 0 0] := ⟨zeroC_of (z := .agg #[.int .i64 0, .string ⟨#[]⟩, .int .i64 0, .slice none 0 0]) (by kernel_rfl) rfl⟩
instance : Parts Try.prog 190 [(0, 1), (1, 1), (2, 1), (3, 1)] := ⟨.inl ⟨_, Try.underlying190, by kernel_rfl, by kernel_rfl⟩⟩
instance : Aggr Try.prog 190 4 := ⟨⟨_, Try.underlying190, rfl⟩, by kernel_rfl⟩
instance : Fld Try.prog 190 0 0 := ⟨fld_of (by kernel_rfl)⟩
instance : Fld Try.prog 190 1 1 := ⟨fld_of (by kernel_rfl)⟩
instance : Fld Try.prog 190 2 2 := ⟨fld_of (by kernel_rfl)⟩
instance : Fld Try.prog 190 3 3 := ⟨fld_of (by kernel_rfl)⟩
instance : Sz Try.prog 191 (.nilFunc) 1 8 := ⟨by kernel_rfl⟩
instance : ZeroC Try.prog 191 [.nilFunc] := ⟨zeroC_of (z := .nilFunc) (by kernel_rfl) rfl⟩
instance : Scalar Try.prog 191 := ⟨_, Try.underlying191, rfl⟩
instance : Sz Try.prog 192 (.nilIface) 1 16 := ⟨by kernel_rfl⟩
instance : ZeroC Try.prog 192 [.nilIface] := ⟨zeroC_of (z := .nilIface) (by kernel_rfl) rfl⟩
instance : Scalar Try.prog 192 := ⟨_, Try.underlying192, rfl⟩
instance : Sz Try.prog 193 (.nilIface) 1 16 := ⟨by kernel_rfl⟩
instance : ZeroC Try.prog 193 [.nilIface] := ⟨zeroC_of (z := .nilIface) (by kernel_rfl) rfl⟩
instance : Scalar Try.prog 193 := ⟨_, Try.underlying193, rfl⟩
instance : Sz Try.prog 194 (.nilFunc) 1 8 := ⟨by kernel_rfl⟩
instance : ZeroC Try.prog 194 [.nilFunc] := ⟨zeroC_of (z := .nilFunc) (by kernel_rfl) rfl⟩
instance : Scalar Try.prog 194 := ⟨_, Try.underlying194, rfl⟩
instance : Sz Try.prog 195 (.nilFunc) 1 8 := ⟨by kernel_rfl⟩
instance : ZeroC Try.prog 195 [.nilFunc] := ⟨zeroC_of (z := .nilFunc) (by kernel_rfl) rfl⟩
instance : Scalar Try.prog 195 := ⟨_, Try.underlying195, rfl⟩
instance : Sz Try.prog 196 (.nilFunc) 1 8 := ⟨by kernel_rfl⟩
instance : ZeroC Try.prog 196 [.nilFunc] := ⟨zeroC_of (z := .nilFunc) (by kernel_rfl) rfl⟩
instance : Scalar Try.prog 196 := ⟨_, Try.underlying196, rfl⟩
instance : Sz Try.prog 197 (.nilFunc) 1 8 := ⟨by kernel_rfl⟩
instance : ZeroC Try.prog 197 [.nilFunc] := ⟨zeroC_of (z := .nilFunc) (by kernel_rfl) rfl⟩
instance : Scalar Try.prog 197 := ⟨_, Try.underlying197, rfl⟩
instance : Sz Try.prog 198 (.nilFunc) 1 8 := ⟨by kernel_rfl⟩
instance : ZeroC Try.prog 198 [.nilFunc] := ⟨zeroC_of (z := .nilFunc) (by kernel_rfl) rfl⟩
instance : Scalar Try.prog 198 := ⟨_, Try.underlying198, rfl⟩
instance : Sz Try.prog 199 (.nilFunc) 1 8 := ⟨by kernel_rfl⟩
instance : ZeroC Try.prog 199 [.nilFunc] := ⟨zeroC_of (z := .nilFunc) (by kernel_rfl) rfl⟩
instance : Scalar Try.prog 199 := ⟨_, Try.underlying199, rfl⟩
instance : Sz Try.prog 200 (.agg #[.int .i64 0, .string ⟨#[]⟩, .int .i64 0]) 3 32 := ⟨by kernel_rfl⟩
instance : ZeroC Try.prog 200 [.int .i64 0, .string ⟨#[]⟩, .int .i64 0] := ⟨zeroC_of (z := .agg #[.int .i64 0, .string ⟨#[]⟩, .int .i64 0]) (by kernel_rfl) rfl⟩
instance : Parts Try.prog 200 [(0, 1), (1, 1), (2, 1)] := ⟨.inl ⟨_, Try.underlying200, by kernel_rfl, by kernel_rfl⟩⟩
instance : Aggr Try.prog 200 3 := ⟨⟨_, Try.underlying200, rfl⟩, by kernel_rfl⟩
instance : Fld Try.prog 200 0 0 := ⟨fld_of (by kernel_rfl)⟩
instance : Fld Try.prog 200 1 1 := ⟨fld_of (by kernel_rfl)⟩
instance : Fld Try.prog 200 2 2 := ⟨fld_of (by kernel_rfl)⟩
instance : Sz Try.prog 201 (.agg #[.int .i64 0, .string ⟨#[]⟩, .int .i64 0]) 3 32 := ⟨by kernel_rfl⟩
instance : ZeroC Try.prog 201 [.int .i64 0, .string ⟨#[]⟩, .int .i64 0] := ⟨zeroC_of (z := .agg #[.int .i64 0, .string ⟨#[]⟩, .int .i64 0]) (by kernel_rfl) rfl⟩
instance : Parts Try.prog 201 [(0, 1), (1, 1), (2, 1)] := ⟨.inl ⟨_, Try.underlying201, by kernel_rfl, by kernel_rfl⟩⟩
instance : Aggr Try.prog 201 3 := ⟨⟨_, Try.underlying201, rfl⟩, by kernel_rfl⟩
instance : Fld Try.prog 201 0 0 := ⟨fld_of (by kernel_rfl)⟩
instance : Fld Try.prog 201 1 1 := ⟨fld_of (by kernel_rfl)⟩
instance : Fld Try.prog 201 2 2 := ⟨fld_of (by kernel_rfl)⟩
instance : Sz Try.prog 203 (.nilFunc) 1 8 := ⟨by kernel_rfl⟩
instance : ZeroC Try.prog 203 [.nilFunc] := ⟨zeroC_of (z := .nilFunc) (by kernel_rfl) rfl⟩
instance : Scalar Try.prog 203 := ⟨_, Try.underlying203, rfl⟩
instance : Sz Try.prog 211 (.nilFunc) 1 8 := ⟨by kernel_rfl⟩
instance : ZeroC Try.prog 211 [.nilFunc] := ⟨zeroC_of (z := .nilFunc) (by kernel_rfl) rfl⟩
instance : Scalar Try.prog 211 := ⟨_, Try.underlying211, rfl⟩
instance : Sz Try.prog 212 (.nilFunc) 1 8 := ⟨by kernel_rfl⟩
instance : ZeroC Try.prog 212 [.nilFunc] := ⟨zeroC_of (z := .nilFunc) (by kernel_rfl) rfl⟩
instance : Scalar Try.prog 212 := ⟨_, Try.underlying212, rfl⟩
instance : Sz Try.prog 213 (.nilFunc) 1 8 := ⟨by kernel_rfl⟩
instance : ZeroC Try.prog 213 [.nilFunc] := ⟨zeroC_of (z := .nilFunc) (by kernel_rfl) rfl⟩
instance : Scalar Try.prog 213 := ⟨_, Try.underlying213, rfl⟩
instance : Sz Try.prog 214 (.nilFunc) 1 8 := ⟨by kernel_rfl⟩
instance : ZeroC Try.prog 214 [.nilFunc] := ⟨zeroC_of (z := .nilFunc) (by kernel_rfl) rfl⟩
instance : Scalar Try.prog 214 := ⟨_, Try.underlying214, rfl⟩
instance : Sz Try.prog 215 (.nilFunc) 1 8 := ⟨by kernel_rfl⟩
instance : ZeroC Try.prog 215 [.nilFunc] := ⟨zeroC_of (z := .nilFunc) (by kernel_rfl) rfl⟩
instance : Scalar Try.prog 215 := ⟨_, Try.underlying215, rfl⟩
instance : Sz Try.prog 216 (.nilFunc) 1 8 := ⟨by kernel_rfl⟩
instance : ZeroC Try.prog 216 [.nilFunc] := ⟨zeroC_of (z := .nilFunc) (by kernel_rfl) rfl⟩
instance : Scalar Try.prog 216 := ⟨_, Try.underlying216, rfl⟩
instance : Sz Try.prog 221 (.nilFunc) 1 8 := ⟨by kernel_rfl⟩
instance : ZeroC Try.prog 221 [.nilFunc] := ⟨zeroC_of (z := .nilFunc) (by kernel_rfl) rfl⟩
instance : Scalar Try.prog 221 := ⟨_, Try.underlying221, rfl⟩
instance : Sz Try.prog 227 (.nilFunc) 1 8 := ⟨by kernel_rfl⟩
instance : ZeroC Try.prog 227 [.nilFunc] := ⟨zeroC_of (z := .nilFunc) (by kernel_rfl) rfl⟩
instance : Scalar Try.prog 227 := ⟨_, Try.underlying227, rfl⟩
instance : Sz Try.prog 234 (.agg #[.int .i64 0, .int .i64 0, .int .i64 0, .int .i64 0]) 4 32 := ⟨by kernel_rfl⟩
instance : ZeroC Try.prog 234 [.int .i64 0, .int .i64 0, .int .i64 0, .int .i64 0] := ⟨zeroC_of (z := .agg #[.int .i64 0, .int .i64 0, .int .i64 0, .int .i64 0]) (by kernel_rfl) rfl⟩
instance : Parts Try.prog 234 [(0, 1), (1, 1), (2, 1), (3, 1)] := ⟨.inr ⟨_, _, Try.underlying234, by kernel_rfl, by kernel_rfl⟩⟩
instance : Aggr Try.prog 234 4 := ⟨⟨_, Try.underlying234, rfl⟩, by kernel_rfl⟩
instance : ArrT Try.prog 234 4 3 := ⟨Try.underlying234⟩
instance : Sz Try.prog 239 (.agg #[.int .i64 0, .int .i64 0, .int .i64 0, .int .i64 0, .int .i64 0, .int .i64 0, .int .i64 0, .int .i64 0, .int .i64 0, .int .i64 0, .int .i64 0, .int .i64 0, .int .i64 0, .int .i64 0, .int .i64 0, .int .i64 0, .int .i64 0, .int .i64 0, .int .i64 0, .int .i64 0, .int .i64 0, .int .i64 0, .int .i64 0, .int .i64 0, .int .i64 0, .int .i64 0]) 26 208 := ⟨by kernel_rfl⟩
instance : ZeroC Try.prog 239 [.int .i64 0, .int .i64 0, .int .i64 0, .int .i64 0, .int .i64 0, .int .i64 0, .int .i64 0, .int .i64 0, .int .i64 0, .int .i64 0, .int .i64 0, .int .i64 0, .int .i64 0, .int .i64 0, .int .i64 0, .int .i64 0, .int .i64 0, .int .i64 0, .int .i64 0, .int .i64 0, .int .i64 0, .int .i64 0, .int .i64 0, .int .i64 0, .int .i64 0, .int .i64 0] := ⟨zeroC_of (z := .agg #[.int .i64 0, .int .i64 0, .int .i64 0, .int .i64 0, .int .i64 0, .int .i64 0, .int .i64 0, .int .i64 0, .int .i64 0, .int .i64 0, .int .i64 0, .int .i64 0, .int .i64 0, .int .i64 0, .int .i64 0, .int .i64 0, .int .i64 0, .int .i64 0, .int .i64 0, .int .i64 0, .int .i64 0, .int .i64 0, .int .i64 0, .int .i64 0, .int .i64 0, .int .i64 0]) (by kernel_rfl) rfl⟩
instance : Parts Try.prog 239 [(0, 12), (12, 12), (24, 1), (25, 1)] := ⟨.inl ⟨_, Try.underlying239, by kernel_rfl, by kernel_rfl⟩⟩
instance : Aggr Try.prog 239 26 := ⟨⟨_, Try.underlying239, rfl⟩, by kernel_rfl⟩
instance : Fld Try.prog 239 0 0 := ⟨fld_of (by kernel_rfl)⟩
instance : Fld Try.prog 239 1 12 := ⟨fld_of (by kernel_rfl)⟩
instance : Fld Try.prog 239 2 24 := ⟨fld_of (by kernel_rfl)⟩
instance : Fld Try.prog 239 3 25 := ⟨fld_of (by kernel_rfl)⟩
instance : Sz Try.prog 240 (.agg #[.int .i64 0, .int .i64 0, .int .i64 0, .int .i64 0, .int .i64 0, .int .i64 0, .int .i64 0, .int .i64 0, .int .i64 0, .int .i64 0, .int .i64 0, .int .i64 0, .int .i64 0, .int .i64 0, .int .i64 0, .int .i64 0, .int .i64 0, .int .i64 0, .int .i64 0, .int .i64 0, .int .i64 0, .int .i64 0, .int .i64 0, .int .i64 0, .int .i64 0, .int .i64 0]) 26 208 := ⟨by kernel_rfl⟩
instance : ZeroC Try.prog 240 [.int .i64 0, .int .i64 0, .int .i64 0, .int .i64 0, .int .i64 0, .int .i64 0, .int .i64 0, .int .i64 0, .int .i64 0, .int .i64 0, .int .i64 0, .int .i64 0, .int .i64 0, .int .i64 0, .int .i64 0, .int .i64 0, .int .i64 0, .int .i64 0, .int .i64 0, .int .i64 0, .int .i64 0, .int .i64 0, .int .i64 0, .int .i64 0, .int .i64 0, .int .i64 0] := ⟨zeroC_of (z := .agg #[.int .i64 0, .int .i64 0, .int .i64 0, .int .i64 0, .int .i64 0, .int .i64 0, .int .i64 0, .int .i64 0, .int .i64 0, .int .i64 0, .int .i64 0, .int .i64 0, .int .i64 0, .int .i64 0, .int .i64 0, .int .i64 0, .int .i64 0, .int .i64 0, .int .i64 0, .int .i64 0, .int .i64 0, .int .i64 0, .int .i64 0, .int .i64 0, .int .i64 0, .int .i64 0]) (by kernel_rfl) rfl⟩
instance : Parts Try.prog 240 [(0, 12), (12, 12), (24, 1), (25, 1)] := ⟨.inl ⟨_, Try.underlying240, by kernel_rfl, by kernel_rfl⟩⟩
instance : Aggr Try.prog 240 26 := ⟨⟨_, Try.underlying240, rfl⟩, by kernel_rfl⟩
instance : Fld Try.prog 240 0 0 := ⟨fld_of (by kernel_rfl)⟩
instance : Fld Try.prog 240 1 12 := ⟨fld_of (by kernel_rfl)⟩
instance : Fld Try.prog 240 2 24 := ⟨fld_of (by kernel_rfl)⟩
instance : Fld Try.prog 240 3 25 := ⟨fld_of (by kernel_rfl)⟩
instance : Sz Try.prog 241 (.nilFunc) 1 8 := ⟨by kernel_rfl⟩
instance : ZeroC Try.prog 241 [.nilFunc] := ⟨zeroC_of (z := .nilFunc) (by kernel_rfl) rfl⟩
instance : Scalar Try.prog 241 := ⟨_, Try.underlying241, rfl⟩
instance : Sz Try.prog 245 (.agg #[.int .i64 0, .string ⟨#[]⟩, .int .i64 0, .slice none 0 0]) 4 56 := ⟨by kernel_rfl⟩
instance : ZeroC Try.prog 245 [.int .i64 0, .string ⟨#[]⟩, .int .i64 0, .slice none 0 0] := ⟨zeroC_of (z := .agg #[.int .i64 0, .string ⟨#[]⟩, .int .i64 0, .slice none 0 0]) (by kernel_rfl) rfl⟩
instance : Parts Try.prog 245 [(0, 1), (1, 1), (2, 1), (3, 1)] := ⟨.inl ⟨_, Try.underlying245, by kernel_rfl, by kernel_rfl⟩⟩
instance : Aggr Try.prog 245 4 := ⟨⟨_, Try.underlying245, rfl⟩, by kernel_rfl⟩
instance : Fld Try.prog 245 0 0 := ⟨fld_of (by kernel_rfl)⟩
instance : Fld Try.prog 245 1 1 := ⟨fld_of (by kernel_rfl)⟩
instance : Fld Try.prog 245 2 2 := ⟨fld_of (by kernel_rfl)⟩
instance : Fld Try.prog 245 3 3 := ⟨fld_of (by kernel_rfl)⟩
instance : Sz Try.prog 247 (.agg #[.string ⟨#[]⟩, .int .i64 0]) 2 24 := ⟨by kernel_rfl⟩
instance : ZeroC Try.prog 247 [.string ⟨#[]⟩, .int .i64 0] := ⟨zeroC_of (z := .agg #[.string ⟨#[]⟩, .int .i64 0]) (by kernel_rfl) rfl⟩
instance : Parts Try.prog 247 [(0, 1), (1, 1)] := ⟨.inl ⟨_, Try.underlying247, by kernel_rfl, by kernel_rfl⟩⟩
instance : Aggr Try.prog 247 2 := ⟨⟨_, Try.underlying247, rfl⟩, by kernel_rfl⟩
instance : Fld Try.prog 247 0 0 := ⟨fld_of (by kernel_rfl)⟩
instance : Fld Try.prog 247 1 1 := ⟨fld_of (by kernel_rfl)⟩
instance : Sz Try.prog 252 (.nilFunc) 1 8 := ⟨by kernel_rfl⟩
instance : ZeroC Try.prog 252 [.nilFunc] := ⟨zeroC_of (z := .nilFunc) (by kernel_rfl) rfl⟩
instance : Scalar Try.prog 252 := ⟨_, Try.underlying252, rfl⟩
instance : Sz Try.prog 253 (.nilFunc) 1 8 := ⟨by kernel_rfl⟩
instance : ZeroC Try.prog 253 [.nilFunc] := ⟨zeroC_of (z := .nilFunc) (by kernel_rfl) rfl⟩
instance : Scalar Try.prog 253 := ⟨_, Try.underlying253, rfl⟩
instance : Sz Try.prog 254 (.nilFunc) 1 8 := ⟨by kernel_rfl⟩
instance : ZeroC Try.prog 254 [.nilFunc] := ⟨zeroC_of (z := .nilFunc) (by kernel_rfl) rfl⟩
instance : Scalar Try.prog 254 := ⟨_, Try.underlying254, rfl⟩
instance : Sz Try.prog 263 (.nilFunc) 1 8 := ⟨by kernel_rfl⟩
instance : ZeroC Try.prog 263 [.nilFunc] := ⟨zeroC_of (z := .nilFunc) (by kernel_rfl) rfl⟩
instance : Scalar Try.prog 263 := ⟨_, Try.underlying263, rfl⟩
instance : Sz Try.prog 264 (.nilFunc) 1 8 := ⟨by kernel_rfl⟩
instance : ZeroC Try.prog 264 [.nilFunc] := ⟨zeroC_of (z := .nilFunc) (by kernel_rfl) rfl⟩
instance : Scalar Try.prog 264 := ⟨_, Try.underlying264, rfl⟩
instance : Sz Try.prog 265 (.agg #[.int .i64 0, .string ⟨#[]⟩, .int .i64 0, .slice none 0 0]) 4 56 := ⟨by kernel_rfl⟩
instance : ZeroC Try.prog 265 [.int .i64 0, .string ⟨#[]⟩, .int .i64 0, .slice none 0 0] := ⟨zeroC_of (z := .agg #[.int .i64 0, .string ⟨#[]⟩, .int .i64 0, .slice none 0 0]) (by kernel_rfl) rfl⟩
instance : Parts Try.prog 265 [(0, 4)] := ⟨.inl ⟨_, Try.underlying265, by kernel_rfl, by kernel_rfl⟩⟩
instance : Aggr Try.prog 265 4 := ⟨⟨_, Try.underlying265, rfl⟩, by kernel_rfl⟩
instance : Fld Try.prog 265 0 0 := ⟨fld_of (by kernel_rfl)⟩
instance : Sz Try.prog 266 (.agg #[.int .i64 0, .string ⟨#[]⟩, .int .i64 0, .slice none 0 0]) 4 56 := ⟨by kernel_rfl⟩
instance : ZeroC Try.prog 266 [.int .i64 0, .string ⟨#[]⟩, .int .i64 0, .slice none 0 0] := ⟨zeroC_of (z := .agg #[.int .i64 0, .string ⟨#[]⟩, .int .i64 0, .slice none 0 0]) (by kernel_rfl) rfl⟩
instance : Parts Try.prog 266 [(0, 4)] := ⟨.inl ⟨_, Try.underlying266, by kernel_rfl, by kernel_rfl⟩⟩
instance : Aggr Try.prog 266 4 := ⟨⟨_, Try.underlying266, rfl⟩, by kernel_rfl⟩
instance : Fld Try.prog 266 0 0 := ⟨fld_of (by kernel_rfl)⟩
instance : Sz Try.prog 267 (.agg #[.int .i64 0, .string ⟨#[]⟩, .int .i64 0, .slice none 0 0]) 4 56 := ⟨by kernel_rfl⟩
instance : ZeroC Try.prog 267 [.int .i64 0, .string ⟨#[]⟩, .int .i64 0, .slice none 0 0] := ⟨zeroC_of (z := .agg #[.int .i64 0, .string ⟨#[]⟩, .int .i64 0, .slice none 0 0]) (by kernel_rfl) rfl⟩
instance : Parts Try.prog 267 [(0, 4)] := ⟨.inl ⟨_, Try.underlying267, by kernel_rfl, by kernel_rfl⟩⟩
instance : Aggr Try.prog 267 4 := ⟨⟨_, Try.underlying267, rfl⟩, by kernel_rfl⟩
instance : Fld Try.prog 267 0 0 := ⟨fld_of (by kernel_rfl)⟩
instance : Sz Try.prog 268 (.agg #[.int .i64 0, .string ⟨#[]⟩, .int .i64 0, .slice none 0 0]) 4 56 := ⟨by kernel_rfl⟩
instance : ZeroC Try.prog 268 [.int .i64 0, .string ⟨#[]⟩, .int .i64 0, .slice none 0 0] := ⟨zeroC_of (z := .agg #[.int .i64 0, .string ⟨#[]⟩, .int .i64 0, .slice none 0 0]) (by kernel_rfl) rfl⟩
instance : Parts Try.prog 268 [(0, 4)] := ⟨.inl ⟨_, Try.underlying268, by kernel_rfl, by kernel_rfl⟩⟩
instance : Aggr Try.prog 268 4 := ⟨⟨_, Try.underlying268, rfl⟩, by kernel_rfl⟩
instance : Fld Try.prog 268 0 0 := ⟨fld_of (by kernel_rfl)⟩
instance : Sz Try.prog 271 (.agg #[.int .i64 0, .string ⟨#[]⟩, .int .i64 0]) 3 32 := ⟨by kernel_rfl⟩
instance : ZeroC Try.prog 271 [.int .i64 0, .string ⟨#[]⟩, .int .i64 0] := ⟨zeroC_of (z := .agg #[.int .i64 0, .string ⟨#[]⟩, .int .i64 0]) (by kernel_rfl) rfl⟩
instance : Parts Try.prog 271 [(0, 1), (1, 1), (2, 1)] := ⟨.inl ⟨_, Try.underlying271, by kernel_rfl, by kernel_rfl⟩⟩
instance : Aggr Try.prog 271 3 := ⟨⟨_, Try.underlying271, rfl⟩, by kernel_rfl⟩
instance : Fld Try.prog 271 0 0 := ⟨fld_of (by kernel_rfl)⟩
instance : Fld Try.prog 271 1 1 := ⟨fld_of (by kernel_rfl)⟩
instance : Fld Try.prog 271 2 2 := ⟨fld_of (by kernel_rfl)⟩
instance : Sz Try.prog 285 (.agg #[.int .i64 0, .int .i64 0, .int .i64 0, .int .i64 0, .int .i64 0, .int .i64 0]) 6 48 := ⟨by kernel_rfl⟩
instance : ZeroC Try.prog 285 [.int .i64 0, .int .i64 0, .int .i64 0, .int .i64 0, .int .i64 0, .int .i64 0] := ⟨zeroC_of (z := .agg #[.int .i64 0, .int .i64 0, .int .i64 0, .int .i64 0, .int .i64 0, .int .i64 0]) (by kernel_rfl) rfl⟩
instance : Parts Try.prog 285 [(0, 3), (3, 3)] := ⟨.inl ⟨_, Try.underlying285, by kernel_rfl, by kernel_rfl⟩⟩
instance : Aggr Try.prog 285 6 := ⟨⟨_, Try.underlying285, rfl⟩, by kernel_rfl⟩
instance : Fld Try.prog 285 0 0 := ⟨fld_of (by kernel_rfl)⟩
instance : Fld Try.prog 285 1 3 := ⟨fld_of (by kernel_rfl)⟩
instance : Sz Try.prog 286 (.agg #[.int .i64 0, .int .i64 0, .int .i64 0, .int .i64 0, .int .i64 0, .int .i64 0]) 6 48 := ⟨by kernel_rfl⟩
instance : ZeroC Try.prog 286 [.int .i64 0, .int .i64 0, .int .i64 0, .int .i64 0, .int .i64 0, .int .i64 0] := ⟨zeroC_of (z := .agg #[.int .i64 0, .int .i64 0, .int .i64 0, .int .i64 0, .int .i64 0, .int .i64 0]) (by kernel_rfl) rfl⟩
instance : Parts Try.prog 286 [(0, 3), (3, 3)] := ⟨.inl ⟨_, Try.underlying286, by kernel_rfl, by kernel_rfl⟩⟩
instance : Aggr Try.prog 286 6 := ⟨⟨_, Try.underlying286, rfl⟩, by kernel_rfl⟩
instance : Fld Try.prog 286 0 0 := ⟨fld_of (by kernel_rfl)⟩
instance : Fld Try.prog 286 1 3 := ⟨fld_of (by kernel_rfl)⟩
instance : Sz Try.prog 301 (.agg #[.int .i64 0, .string ⟨#[]⟩, .int .i64 0, .int .i64 0]) 4 40 := ⟨by kernel_rfl⟩
instance : ZeroC Try.prog 301 [.int .i64 0, .string ⟨#[]⟩, .int .i64 0, .int .i64 0] := ⟨zeroC_of (z := .agg #[.int .i64 0, .string ⟨#[]⟩, .int .i64 0, .int .i64 0]) (by kernel_rfl) rfl⟩
instance : Parts Try.prog 301 [(0, 1), (1, 1), (2, 1), (3, 1)] := ⟨.inl ⟨_, Try.underlying301, by kernel_rfl, by kernel_rfl⟩⟩
instance : Aggr Try.prog 301 4 := ⟨⟨_, Try.underlying301, rfl⟩, by kernel_rfl⟩
instance : Fld Try.prog 301 0 0 := ⟨fld_of (by kernel_rfl)⟩
instance : Fld Try.prog 301 1 1 := ⟨fld_of (by kernel_rfl)⟩
instance : Fld Try.prog 301 2 2 := ⟨fld_of (by kernel_rfl)⟩
instance : Fld Try.prog 301 3 3 := ⟨fld_of (by kernel_rfl)⟩
instance : Sz Try.prog 302 (.agg #[.int .i64 0, .string ⟨#[]⟩, .int .i64 0, .int .i64 0]) 4 40 := ⟨by kernel_rfl⟩
instance : ZeroC Try.prog 302 [.int .i64 0, .string ⟨#[]⟩, .int .i64 0, .int .i64 0] := ⟨zeroC_of (z := .agg #[.int .i64 0, .string ⟨#[]⟩, .int .i64 0, .int .i64 0]) (by kernel_rfl) rfl⟩
instance : Parts Try.prog 302 [(0, 1), (1, 1), (2, 1), (3, 1)] := ⟨.inl ⟨_, Try.underlying302, by kernel_rfl, by kernel_rfl⟩⟩
instance : Aggr Try.prog 302 4 := ⟨⟨_, Try.underlying302, rfl⟩, by kernel_rfl⟩
instance : Fld Try.prog 302 0 0 := ⟨fld_of (by kernel_rfl)⟩
instance : Fld Try.prog 302 1 1 := ⟨fld_of (by kernel_rfl)⟩
instance : Fld Try.prog 302 2 2 := ⟨fld_of (by kernel_rfl)⟩
instance : Fld Try.prog 302 3 3 := ⟨fld_of (by kernel_rfl)⟩
end Go.Proofs.Ytgphmhjnnppbnaa.St
