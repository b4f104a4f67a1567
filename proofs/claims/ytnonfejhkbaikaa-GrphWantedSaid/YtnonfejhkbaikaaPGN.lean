/- Names of the program's functions and types; what a call comes to. -/
import Derived.Test.YtnonfejhkbaikaaProg
import Derived.Test.YtnonfejhkbaikaaPKD
import Derived.Test.YtnonfejhkbaikaaPKE
import Derived.KernelRfl
namespace Go.G
open Go.Ab Go.Proofs
abbrev KP := Value → Store → Prop
def F.l8_GrphWanted : Nat := 4
def F.grph_Order_int : Nat := 13
def F.grph_Reach_int : Nat := 15
def F.l8_awake : Nat := 18
def F.r4_Parse : Nat := 19
def F.lM : Nat := 20
def F.grph_Wanted : Nat := 21
def F.r4_Needs : Nat := 22
def F.grph_Rules : Nat := 26
def F.r4_Rules : Nat := 27
def F.l18_awake : Nat := 35
def F.grph_next : Nat := 38
def F.grph_unlike_int : Nat := 39
def F.sCloneI : Nat := 40
def F.grph_Reach_int_c1 : Nat := 41
def F.r4_Split : Nat := 45
def F.rp_line : Nat := 46
def F.rp_out : Nat := 47
def F.rp_at : Nat := 48
def F.r4_fault : Nat := 49
def F.grph_begin : Nat := 50
def F.grph_Ahead : Nat := 51
def F.sContainsFuncI : Nat := 57
def F.grph_next_c1 : Nat := 61
def F.r4_sign : Nat := 62
def F.r4_quoted : Nat := 63
def F.rp_put : Nat := 64
def F.r4_is : Nat := 65
def F.rp_let : Nat := 66
def F.rp_rule : Nat := 67
def F.rp_names : Nat := 68
def F.sContainsFuncS : Nat := 69
def F.grph_begin_c1 : Nat := 70
def F.sContainsS : Nat := 71
def F.grph_outs : Nat := 72
def F.grph_Ahead_c1 : Nat := 73
def F.sConcatS : Nat := 74
def F.sIndexFuncI : Nat := 76
def F.r4_aSign : Nat := 78
def F.rp_sign : Nat := 79
def F.rp_outs : Nat := 80
def F.rp_acts : Nat := 81
def F.r4_Ok : Nat := 82
def F.sIndexFuncS : Nat := 83
def F.sIndexS : Nat := 84
def F.sGrowS : Nat := 85
def F.r4_ParseAct : Nat := 86
def F.r4_one : Nat := 87
def F.r4_OkAct : Nat := 88
def F.r4_words : Nat := 89
def F.r4_Number : Nat := 90
def F.r4_plain : Nat := 91
def Ty.int : Nat := 3
def Ty.bool : Nat := 4
def Ty.uint8 : Nat := 5
def Ty.string : Nat := 9
def Ty.interface : Nat := 20
def Ty.sl_string : Nat := 22
def Ty.sl_int : Nat := 27
def Ty.func_int_sl_int : Nat := 30
def Ty.api_Manifest : Nat := 39
def Ty.api_Fault : Nat := 41
def Ty.sl_uint8 : Nat := 44
def Ty.map_int_int : Nat := 47
def Ty.api_Rule : Nat := 53
def Ty.sl_bool : Nat := 72
def Ty.sl_api_Word : Nat := 81
def Ty.r4_parser : Nat := 83
def Ty.api_Word : Nat := 87
def Ty.map_string_sl_int : Nat := 106
def Ty.sl_api_Do : Nat := 121
def Ty.api_Do : Nat := 125
theorem U.int : Try.prog.underlying Ty.int = some (.int .i64) := by kernel_rfl
theorem U.bool : Try.prog.underlying Ty.bool = some .bool := by kernel_rfl
theorem U.uint8 : Try.prog.underlying Ty.uint8 = some (.int .u8) := by kernel_rfl
theorem U.string : Try.prog.underlying Ty.string = some .string := by kernel_rfl
theorem U.sl_string : Try.prog.underlying Ty.sl_string = some (.slice Ty.string) := by kernel_rfl
theorem U.sl_int : Try.prog.underlying Ty.sl_int = some (.slice Ty.int) := by kernel_rfl
theorem U.func_int_sl_int : Try.prog.underlying Ty.func_int_sl_int = some (.func #[3] #[27] false) := by kernel_rfl
theorem U.sl_uint8 : Try.prog.underlying Ty.sl_uint8 = some (.slice Ty.uint8) := by kernel_rfl
theorem U.sl_bool : Try.prog.underlying Ty.sl_bool = some (.slice Ty.bool) := by kernel_rfl
theorem U.sl_api_Word : Try.prog.underlying Ty.sl_api_Word = some (.slice Ty.api_Word) := by kernel_rfl
theorem U.sl_api_Do : Try.prog.underlying Ty.sl_api_Do = some (.slice Ty.api_Do) := by kernel_rfl
def Ex : Ext := fun f => bif Nat.beq f F.l8_awake then some yes0 else bif Nat.beq f F.l18_awake then some yes0 else none
abbrev R (f : FuncId) (args : Array Value) (M : Store) (Q : KP) : Prop := Runs Try.prog Ex f args M Q
abbrev KC (f : Value) (args : List Value) (M : Store) (Q : KP) : Prop := kcall Try.prog Ex f args M Q
end Go.G
