/- Names of the program's functions and types; what a call comes to. -/
import Derived.Test.YtnonfejhkbaikaaProg
import Derived.Test.YtnonfejhkbaikaaPKD
import Derived.Test.YtnonfejhkbaikaaPKE
import Derived.KernelRfl
namespace Go.G
open Go.Ab Go.Proofs
def F.main_main : Nat := 0
def F.gosem_cut : Nat := 1
def F.gosem_cut_init : Nat := 2
def F.fettlelaw8_GrphKinds : Nat := 3
def F.fettlelaw8_GrphWanted : Nat := 4
def F.fettlelaw8_GrphReach : Nat := 5
def F.fettlelaw8_GrphRules : Nat := 6
def F.fettlelaw18_PlanOwn : Nat := 7
def F.fettlelaw18_PlanFails : Nat := 8
def F.fettlelaw18_PlanEnds : Nat := 9
def F.fettleref4_Dec : Nat := 10
def F.grph_Order_string : Nat := 11
def F.fettlelaw8_GrphKinds_c1 : Nat := 12
def F.grph_Order_int : Nat := 13
def F.fettlelaw8_GrphKinds_c2 : Nat := 14
def F.grph_Reach_int : Nat := 15
def F.fettlelaw8_GrphKinds_c3 : Nat := 16
def F.fettleref1_SameTexts : Nat := 17
def F.fettlelaw8_awake : Nat := 18
def F.fettleref4_Parse : Nat := 19
def F.fettlelaw7_Manifest : Nat := 20
def F.grph_Wanted : Nat := 21
def F.fettleref4_Needs : Nat := 22
def F.fettlelaw8_edges : Nat := 23
def F.fettlelaw8_GrphReach_c1 : Nat := 24
def F.fettleref1_SameInts : Nat := 25
def F.grph_Rules : Nat := 26
def F.fettleref4_Rules : Nat := 27
def F.fettleref4_Wanted : Nat := 28
def F.plan_New : Nat := 29
def F.fettleref4_Plan : Nat := 30
def F.plan_Set : Nat := 31
def F.plan_Ready : Nat := 32
def F.fettleref4_SamePlan : Nat := 33
def F.fettleref4_Ready : Nat := 34
def F.fettlelaw18_awake : Nat := 35
def F.plan_Over : Nat := 36
def F.grph_unlike_string : Nat := 37
def F.grph_next : Nat := 38
def F.grph_unlike_int : Nat := 39
def F.slices_Clone_sl_int_int : Nat := 40
def F.grph_Reach_int_c1 : Nat := 41
def F.fettlelaw8_awake_c1 : Nat := 42
def F.fettlelaw8_awake_c2 : Nat := 43
def F.fettlelaw8_awake_c3 : Nat := 44
def F.fettleref4_Split : Nat := 45
def F.fettleref4_parser_line : Nat := 46
def F.fettleref4_parser_out : Nat := 47
def F.fettleref4_parser_at : Nat := 48
def F.fettleref4_fault : Nat := 49
def F.grph_begin : Nat := 50
def F.grph_Ahead : Nat := 51
def F.fettleref4_has : Nat := 52
def F.slices_Index_sl_int_int : Nat := 53
def F.plan_skips : Nat := 54
def F.plan_Ready_c1 : Nat := 55
def F.plan_state : Nat := 56
def F.slices_ContainsFunc_sl_int_int : Nat := 57
def F.plan_states : Nat := 58
def F.fettleref4_state : Nat := 59
def F.slices_Contains_sl_int_int : Nat := 60
def F.grph_next_c1 : Nat := 61
def F.fettleref4_sign : Nat := 62
def F.fettleref4_quoted : Nat := 63
def F.fettleref4_parser_put : Nat := 64
def F.fettleref4_is : Nat := 65
def F.fettleref4_parser_let : Nat := 66
def F.fettleref4_parser_rule : Nat := 67
def F.fettleref4_parser_names : Nat := 68
def F.slices_ContainsFunc_sl_string_string : Nat := 69
def F.grph_begin_c1 : Nat := 70
def F.slices_Contains_sl_string_string : Nat := 71
def F.grph_outs : Nat := 72
def F.grph_Ahead_c1 : Nat := 73
def F.slices_Concat_sl_string_string : Nat := 74
def F.plan_skips_c1 : Nat := 75
def F.slices_IndexFunc_sl_int_int : Nat := 76
def F.plan_outs : Nat := 77
def F.fettleref4_aSign : Nat := 78
def F.fettleref4_parser_sign : Nat := 79
def F.fettleref4_parser_outs : Nat := 80
def F.fettleref4_parser_acts : Nat := 81
def F.fettleref4_Ok : Nat := 82
def F.slices_IndexFunc_sl_string_string : Nat := 83
def F.slices_Index_sl_string_string : Nat := 84
def F.slices_Grow_sl_string_string : Nat := 85
def F.fettleref4_ParseAct : Nat := 86
def F.fettleref4_one : Nat := 87
def F.fettleref4_OkAct : Nat := 88
def F.fettleref4_words : Nat := 89
def F.fettleref4_Number : Nat := 90
def F.fettleref4_plain : Nat := 91
def F.runtime_boundsError_Error : Nat := 92
def F.runtime_boundsError_RuntimeError : Nat := 93
def F.runtime_errorString_Error : Nat := 94
def F.runtime_errorString_RuntimeError : Nat := 95
def F.runtime_plainError_Error : Nat := 96
def F.runtime_plainError_RuntimeError : Nat := 97
def F.runtime_errorAddressString_Error : Nat := 98
def F.runtime_errorAddressString_RuntimeError : Nat := 99
def F.runtime_TypeAssertionError_Error : Nat := 100
def F.runtime_TypeAssertionError_RuntimeError : Nat := 101
def F.runtime_PanicNilError_Error : Nat := 102
def F.runtime_PanicNilError_RuntimeError : Nat := 103
def F.internal_abi_Type_Align : Nat := 104
def F.internal_runtime_maps_unhashableTypeError_Error : Nat := 105
def F.internal_runtime_maps_unhashableTypeError_RuntimeError : Nat := 106
def F.internal_abi_Kind_String : Nat := 107
def Ty.anon : Nat := 0
def Ty.func_t : Nat := 1
def Ty.int64 : Nat := 2
def Ty.int : Nat := 3
def Ty.bool : Nat := 4
def Ty.uint8 : Nat := 5
def Ty.abi_BoundsErrorCode : Nat := 6
def Ty.struct_x_int64_y_int_signed_bool_code_abi_BoundsErrorCode : Nat := 7
def Ty.runtime_boundsError : Nat := 8
def Ty.string : Nat := 9
def Ty.runtime_errorString : Nat := 10
def Ty.runtime_plainError : Nat := 11
def Ty.uintptr : Nat := 12
def Ty.struct_msg_string_addr_uintptr : Nat := 13
def Ty.runtime_errorAddressString : Nat := 14
def Ty.p_runtime_TypeAssertionError : Nat := 15
def Ty.p_runtime_PanicNilError : Nat := 16
def Ty.p_abi_Type : Nat := 17
def Ty.struct_typ_p_abi_Type : Nat := 18
def Ty.maps_unhashableTypeError : Nat := 19
def Ty.interface : Nat := 20
def Ty.int32 : Nat := 21
def Ty.sl_string : Nat := 22
def Ty.func_int_string : Nat := 23
def Ty.sl_string_bool : Nat := 24
def Ty.func_sl_string_func_string_sl_string_sl_string_bool : Nat := 25
def Ty.func_string_sl_string : Nat := 26
def Ty.sl_int : Nat := 27
def Ty.sl_int_bool : Nat := 28
def Ty.func_sl_int_func_int_sl_int_sl_int_bool : Nat := 29
def Ty.func_int_sl_int : Nat := 30
def Ty.func_func_int_bool : Nat := 31
def Ty.iter_Seq_int : Nat := 32
def Ty.func_sl_int_func_int_sl_int_iter_Seq_int : Nat := 33
def Ty.func_sl_string_sl_string_bool : Nat := 34
def Ty.func_bool : Nat := 35
def Ty.func_sl_string_int_bool : Nat := 36
def Ty.sl_api_Rule : Nat := 37
def Ty.struct_Rules_sl_api_Rule_Default_sl_string : Nat := 38
def Ty.api_Manifest : Nat := 39
def Ty.struct_Kind_int_Line_int_Col_int : Nat := 40
def Ty.api_Fault : Nat := 41
def Ty.api_Manifest_api_Fault : Nat := 42
def Ty.func_sl_uint8_api_Manifest_api_Fault : Nat := 43
def Ty.sl_uint8 : Nat := 44
def Ty.func_sl_int_sl_uint8 : Nat := 45
def Ty.func_api_Manifest_sl_string_sl_int : Nat := 46
def Ty.map_int_int : Nat := 47
def Ty.int_bool : Nat := 48
def Ty.map_int_bool : Nat := 49
def Ty.func_api_Manifest_int_sl_int : Nat := 50
def Ty.sl_sl_api_Do : Nat := 51
def Ty.struct_Outs_sl_string_Ins_sl_string_Order_sl_string_Acts_sl_sl_api_Do_Phony_bool : Nat := 52
def Ty.api_Rule : Nat := 53
def Ty.func_sl_int_sl_int_bool : Nat := 54
def Ty.a16_sl_int : Nat := 55
def Ty.func_sl_int_bool_16_sl_int : Nat := 56
def Ty.func_sl_int_sl_int_int_bool : Nat := 57
def Ty.func_api_Manifest_sl_int_bool : Nat := 58
def Ty.struct_Rules_sl_int_States_sl_int : Nat := 59
def Ty.api_Plan : Nat := 60
def Ty.func_api_Manifest_sl_string_api_Plan : Nat := 61
def Ty.func_api_Manifest_api_Plan_int_int_api_Plan : Nat := 62
def Ty.func_api_Manifest_api_Plan_sl_int : Nat := 63
def Ty.func_api_Plan_api_Plan_bool : Nat := 64
def Ty.func_sl_int_int_int_bool : Nat := 65
def Ty.func_sl_int_int_bool : Nat := 66
def Ty.func_api_Plan_bool : Nat := 67
def Ty.uint : Nat := 68
def Ty.func_sl_string_sl_string : Nat := 69
def Ty.map_string_int : Nat := 70
def Ty.sl_sl_int : Nat := 71
def Ty.sl_bool : Nat := 72
def Ty.func_sl_sl_int_sl_bool_int : Nat := 73
def Ty.func_sl_int_sl_int : Nat := 74
def Ty.func_int_bool : Nat := 75
def Ty.sl_sl_api_Word : Nat := 76
def Ty.sl_sl_api_Word_api_Fault : Nat := 77
def Ty.func_sl_uint8_sl_sl_api_Word_api_Fault : Nat := 78
def Ty.p_fettleref4_parser : Nat := 79
def Ty.sl_fettleref4_let : Nat := 80
def Ty.sl_api_Word : Nat := 81
def Ty.struct_m_api_Manifest_lets_sl_fettleref4_let_def_sl_api_Word_e_api_Fault : Nat := 82
def Ty.fettleref4_parser : Nat := 83
def Ty.func_sl_api_Word : Nat := 84
def Ty.func_string_bool : Nat := 85
def Ty.struct_Text_string_Line_int_Col_int_Quoted_bool : Nat := 86
def Ty.api_Word : Nat := 87
def Ty.func_int_api_Word : Nat := 88
def Ty.func_int_int_int_api_Fault : Nat := 89
def Ty.func_api_Manifest_func_int_sl_int : Nat := 90
def Ty.func_sl_string_string_bool : Nat := 91
def Ty.func_sl_int_int_int : Nat := 92
def Ty.func_api_Manifest_api_Plan_bool : Nat := 93
def Ty.func_api_Plan_int_int : Nat := 94
def Ty.func_sl_int_func_int_bool_bool : Nat := 95
def Ty.func_api_Manifest_api_Plan_int_sl_int : Nat := 96
def Ty.func_uint8_bool : Nat := 97
def Ty.api_Word_int_int_int : Nat := 98
def Ty.func_sl_uint8_int_api_Word_api_Word_int_int_int : Nat := 99
def Ty.func_sl_api_Word_sl_api_Word : Nat := 100
def Ty.func_api_Word_string_bool : Nat := 101
def Ty.func_sl_api_Word_bool : Nat := 102
def Ty.sl_string_int : Nat := 103
def Ty.func_sl_api_Word_int_int_bool_string_string_sl_string_int : Nat := 104
def Ty.func_sl_string_func_string_bool_bool : Nat := 105
def Ty.map_string_sl_int : Nat := 106
def Ty.func_api_Manifest_map_string_sl_int : Nat := 107
def Ty.func_sl_string_sl_string_x : Nat := 108
def Ty.func_sl_int_func_int_bool_int : Nat := 109
def Ty.func_api_Manifest_int_sl_string : Nat := 110
def Ty.struct_name_string_l_sl_api_Word : Nat := 111
def Ty.fettleref4_let : Nat := 112
def Ty.func_api_Word_bool : Nat := 113
def Ty.func_sl_api_Word_int_string_int : Nat := 114
def Ty.func_sl_api_Word_int_sl_string_int : Nat := 115
def Ty.func_sl_api_Word_int_int_sl_sl_api_Do : Nat := 116
def Ty.func_sl_string_func_string_bool_int : Nat := 117
def Ty.func_sl_string_string_int : Nat := 118
def Ty.sl_sl_string : Nat := 119
def Ty.func_sl_string_int_sl_string : Nat := 120
def Ty.sl_api_Do : Nat := 121
def Ty.sl_api_Do_bool : Nat := 122
def Ty.func_sl_api_Word_sl_api_Do_bool : Nat := 123
def Ty.struct_Kind_int_N_int_Text_string : Nat := 124
def Ty.api_Do : Nat := 125
def Ty.api_Do_bool : Nat := 126
def Ty.func_sl_api_Word_api_Do_bool : Nat := 127
def Ty.func_sl_api_Do_bool : Nat := 128
def Ty.func_sl_string : Nat := 129
def Ty.func_string_int_int_bool : Nat := 130
def Ty.func_string : Nat := 131
def Ty.struct_interface_p_abi_Type_concrete_p_abi_Type_asserted_p_abi_Type_missingMethod_string : Nat := 132
def Ty.runtime_TypeAssertionError : Nat := 133
def Ty.a0_p_runtime_PanicNilError : Nat := 134
def Ty.struct_0_p_runtime_PanicNilError : Nat := 135
def Ty.runtime_PanicNilError : Nat := 136
def Ty.func_int : Nat := 137
def Ty.uint32 : Nat := 138
def Ty.abi_TFlag : Nat := 139
def Ty.abi_Kind : Nat := 140
def Ty.func_unsafe_Pointer_unsafe_Pointer_bool : Nat := 141
def Ty.p_uint8 : Nat := 142
def Ty.abi_NameOff : Nat := 143
def Ty.abi_TypeOff : Nat := 144
def Ty.struct_Size_uintptr_PtrBytes_uintptr_Hash_uint32_TFlag_abi_TFlag_Align_uint8_FieldAlign_uint8_Kind_abi_Kind_Equal_func_unsafe_Pointer_unsafe_Pointer_bool_GCData_p_uint8_Str_abi_NameOff_PtrToThis_abi_TypeOff : Nat := 145
def Ty.abi_Type : Nat := 146
def Ty.unsafe_Pointer : Nat := 147
theorem U.func_t : Try.prog.underlying Ty.func_t = some (.func #[] #[] false) := by kernel_rfl
theorem U.int64 : Try.prog.underlying Ty.int64 = some (.int .i64) := by kernel_rfl
theorem U.int : Try.prog.underlying Ty.int = some (.int .i64) := by kernel_rfl
theorem U.bool : Try.prog.underlying Ty.bool = some .bool := by kernel_rfl
theorem U.uint8 : Try.prog.underlying Ty.uint8 = some (.int .u8) := by kernel_rfl
theorem U.abi_BoundsErrorCode : Try.prog.underlying Ty.abi_BoundsErrorCode = some (.int .u8) := by kernel_rfl
theorem U.string : Try.prog.underlying Ty.string = some .string := by kernel_rfl
theorem U.runtime_errorString : Try.prog.underlying Ty.runtime_errorString = some .string := by kernel_rfl
theorem U.runtime_plainError : Try.prog.underlying Ty.runtime_plainError = some .string := by kernel_rfl
theorem U.uintptr : Try.prog.underlying Ty.uintptr = some (.int .u64) := by kernel_rfl
theorem U.p_runtime_TypeAssertionError : Try.prog.underlying Ty.p_runtime_TypeAssertionError = some (.pointer Ty.runtime_TypeAssertionError) := by kernel_rfl
theorem U.p_runtime_PanicNilError : Try.prog.underlying Ty.p_runtime_PanicNilError = some (.pointer Ty.runtime_PanicNilError) := by kernel_rfl
theorem U.p_abi_Type : Try.prog.underlying Ty.p_abi_Type = some (.pointer Ty.abi_Type) := by kernel_rfl
theorem U.int32 : Try.prog.underlying Ty.int32 = some (.int .i32) := by kernel_rfl
theorem U.sl_string : Try.prog.underlying Ty.sl_string = some (.slice Ty.string) := by kernel_rfl
theorem U.func_int_string : Try.prog.underlying Ty.func_int_string = some (.func #[3] #[9] false) := by kernel_rfl
theorem U.func_sl_string_func_string_sl_string_sl_string_bool : Try.prog.underlying Ty.func_sl_string_func_string_sl_string_sl_string_bool = some (.func #[22, 26] #[22, 4] false) := by kernel_rfl
theorem U.func_string_sl_string : Try.prog.underlying Ty.func_string_sl_string = some (.func #[9] #[22] false) := by kernel_rfl
theorem U.sl_int : Try.prog.underlying Ty.sl_int = some (.slice Ty.int) := by kernel_rfl
theorem U.func_sl_int_func_int_sl_int_sl_int_bool : Try.prog.underlying Ty.func_sl_int_func_int_sl_int_sl_int_bool = some (.func #[27, 30] #[27, 4] false) := by kernel_rfl
theorem U.func_int_sl_int : Try.prog.underlying Ty.func_int_sl_int = some (.func #[3] #[27] false) := by kernel_rfl
theorem U.func_func_int_bool : Try.prog.underlying Ty.func_func_int_bool = some (.func #[75] #[] false) := by kernel_rfl
theorem U.iter_Seq_int : Try.prog.underlying Ty.iter_Seq_int = some (.func #[75] #[] false) := by kernel_rfl
theorem U.func_sl_int_func_int_sl_int_iter_Seq_int : Try.prog.underlying Ty.func_sl_int_func_int_sl_int_iter_Seq_int = some (.func #[27, 30] #[32] false) := by kernel_rfl
theorem U.func_sl_string_sl_string_bool : Try.prog.underlying Ty.func_sl_string_sl_string_bool = some (.func #[22, 22] #[4] false) := by kernel_rfl
theorem U.func_bool : Try.prog.underlying Ty.func_bool = some (.func #[] #[4] false) := by kernel_rfl
theorem U.func_sl_string_int_bool : Try.prog.underlying Ty.func_sl_string_int_bool = some (.func #[22, 3] #[4] false) := by kernel_rfl
theorem U.sl_api_Rule : Try.prog.underlying Ty.sl_api_Rule = some (.slice Ty.api_Rule) := by kernel_rfl
theorem U.func_sl_uint8_api_Manifest_api_Fault : Try.prog.underlying Ty.func_sl_uint8_api_Manifest_api_Fault = some (.func #[44] #[39, 41] false) := by kernel_rfl
theorem U.sl_uint8 : Try.prog.underlying Ty.sl_uint8 = some (.slice Ty.uint8) := by kernel_rfl
theorem U.func_sl_int_sl_uint8 : Try.prog.underlying Ty.func_sl_int_sl_uint8 = some (.func #[27] #[44] false) := by kernel_rfl
theorem U.func_api_Manifest_sl_string_sl_int : Try.prog.underlying Ty.func_api_Manifest_sl_string_sl_int = some (.func #[39, 22] #[27] false) := by kernel_rfl
theorem U.func_api_Manifest_int_sl_int : Try.prog.underlying Ty.func_api_Manifest_int_sl_int = some (.func #[39, 3] #[27] false) := by kernel_rfl
theorem U.sl_sl_api_Do : Try.prog.underlying Ty.sl_sl_api_Do = some (.slice Ty.sl_api_Do) := by kernel_rfl
theorem U.func_sl_int_sl_int_bool : Try.prog.underlying Ty.func_sl_int_sl_int_bool = some (.func #[27, 27] #[4] false) := by kernel_rfl
theorem U.func_sl_int_bool_16_sl_int : Try.prog.underlying Ty.func_sl_int_bool_16_sl_int = some (.func #[27, 4] #[55] false) := by kernel_rfl
theorem U.func_sl_int_sl_int_int_bool : Try.prog.underlying Ty.func_sl_int_sl_int_int_bool = some (.func #[27, 27, 3] #[4] false) := by kernel_rfl
theorem U.func_api_Manifest_sl_int_bool : Try.prog.underlying Ty.func_api_Manifest_sl_int_bool = some (.func #[39] #[27, 4] false) := by kernel_rfl
theorem U.func_api_Manifest_sl_string_api_Plan : Try.prog.underlying Ty.func_api_Manifest_sl_string_api_Plan = some (.func #[39, 22] #[60] false) := by kernel_rfl
theorem U.func_api_Manifest_api_Plan_int_int_api_Plan : Try.prog.underlying Ty.func_api_Manifest_api_Plan_int_int_api_Plan = some (.func #[39, 60, 3, 3] #[60] false) := by kernel_rfl
theorem U.func_api_Manifest_api_Plan_sl_int : Try.prog.underlying Ty.func_api_Manifest_api_Plan_sl_int = some (.func #[39, 60] #[27] false) := by kernel_rfl
theorem U.func_api_Plan_api_Plan_bool : Try.prog.underlying Ty.func_api_Plan_api_Plan_bool = some (.func #[60, 60] #[4] false) := by kernel_rfl
theorem U.func_sl_int_int_int_bool : Try.prog.underlying Ty.func_sl_int_int_int_bool = some (.func #[27, 3, 3] #[4] false) := by kernel_rfl
theorem U.func_sl_int_int_bool : Try.prog.underlying Ty.func_sl_int_int_bool = some (.func #[27, 3] #[4] false) := by kernel_rfl
theorem U.func_api_Plan_bool : Try.prog.underlying Ty.func_api_Plan_bool = some (.func #[60] #[4] false) := by kernel_rfl
theorem U.uint : Try.prog.underlying Ty.uint = some (.int .u64) := by kernel_rfl
theorem U.func_sl_string_sl_string : Try.prog.underlying Ty.func_sl_string_sl_string = some (.func #[22] #[22] false) := by kernel_rfl
theorem U.sl_sl_int : Try.prog.underlying Ty.sl_sl_int = some (.slice Ty.sl_int) := by kernel_rfl
theorem U.sl_bool : Try.prog.underlying Ty.sl_bool = some (.slice Ty.bool) := by kernel_rfl
theorem U.func_sl_sl_int_sl_bool_int : Try.prog.underlying Ty.func_sl_sl_int_sl_bool_int = some (.func #[71, 72] #[3] false) := by kernel_rfl
theorem U.func_sl_int_sl_int : Try.prog.underlying Ty.func_sl_int_sl_int = some (.func #[27] #[27] false) := by kernel_rfl
theorem U.func_int_bool : Try.prog.underlying Ty.func_int_bool = some (.func #[3] #[4] false) := by kernel_rfl
theorem U.sl_sl_api_Word : Try.prog.underlying Ty.sl_sl_api_Word = some (.slice Ty.sl_api_Word) := by kernel_rfl
theorem U.func_sl_uint8_sl_sl_api_Word_api_Fault : Try.prog.underlying Ty.func_sl_uint8_sl_sl_api_Word_api_Fault = some (.func #[44] #[76, 41] false) := by kernel_rfl
theorem U.p_fettleref4_parser : Try.prog.underlying Ty.p_fettleref4_parser = some (.pointer Ty.fettleref4_parser) := by kernel_rfl
theorem U.sl_fettleref4_let : Try.prog.underlying Ty.sl_fettleref4_let = some (.slice Ty.fettleref4_let) := by kernel_rfl
theorem U.sl_api_Word : Try.prog.underlying Ty.sl_api_Word = some (.slice Ty.api_Word) := by kernel_rfl
theorem U.func_sl_api_Word : Try.prog.underlying Ty.func_sl_api_Word = some (.func #[81] #[] false) := by kernel_rfl
theorem U.func_string_bool : Try.prog.underlying Ty.func_string_bool = some (.func #[9] #[4] false) := by kernel_rfl
theorem U.func_int_api_Word : Try.prog.underlying Ty.func_int_api_Word = some (.func #[3, 87] #[] false) := by kernel_rfl
theorem U.func_int_int_int_api_Fault : Try.prog.underlying Ty.func_int_int_int_api_Fault = some (.func #[3, 3, 3] #[41] false) := by kernel_rfl
theorem U.func_api_Manifest_func_int_sl_int : Try.prog.underlying Ty.func_api_Manifest_func_int_sl_int = some (.func #[39] #[30] false) := by kernel_rfl
theorem U.func_sl_string_string_bool : Try.prog.underlying Ty.func_sl_string_string_bool = some (.func #[22, 9] #[4] false) := by kernel_rfl
theorem U.func_sl_int_int_int : Try.prog.underlying Ty.func_sl_int_int_int = some (.func #[27, 3] #[3] false) := by kernel_rfl
theorem U.func_api_Manifest_api_Plan_bool : Try.prog.underlying Ty.func_api_Manifest_api_Plan_bool = some (.func #[39, 60] #[4] false) := by kernel_rfl
theorem U.func_api_Plan_int_int : Try.prog.underlying Ty.func_api_Plan_int_int = some (.func #[60, 3] #[3] false) := by kernel_rfl
theorem U.func_sl_int_func_int_bool_bool : Try.prog.underlying Ty.func_sl_int_func_int_bool_bool = some (.func #[27, 75] #[4] false) := by kernel_rfl
theorem U.func_api_Manifest_api_Plan_int_sl_int : Try.prog.underlying Ty.func_api_Manifest_api_Plan_int_sl_int = some (.func #[39, 60, 3] #[27] false) := by kernel_rfl
theorem U.func_uint8_bool : Try.prog.underlying Ty.func_uint8_bool = some (.func #[5] #[4] false) := by kernel_rfl
theorem U.func_sl_uint8_int_api_Word_api_Word_int_int_int : Try.prog.underlying Ty.func_sl_uint8_int_api_Word_api_Word_int_int_int = some (.func #[44, 3, 87] #[87, 3, 3, 3] false) := by kernel_rfl
theorem U.func_sl_api_Word_sl_api_Word : Try.prog.underlying Ty.func_sl_api_Word_sl_api_Word = some (.func #[81] #[81] false) := by kernel_rfl
theorem U.func_api_Word_string_bool : Try.prog.underlying Ty.func_api_Word_string_bool = some (.func #[87, 9] #[4] false) := by kernel_rfl
theorem U.func_sl_api_Word_bool : Try.prog.underlying Ty.func_sl_api_Word_bool = some (.func #[81, 4] #[] false) := by kernel_rfl
theorem U.func_sl_api_Word_int_int_bool_string_string_sl_string_int : Try.prog.underlying Ty.func_sl_api_Word_int_int_bool_string_string_sl_string_int = some (.func #[81, 3, 3, 4, 9, 9] #[22, 3] false) := by kernel_rfl
theorem U.func_sl_string_func_string_bool_bool : Try.prog.underlying Ty.func_sl_string_func_string_bool_bool = some (.func #[22, 85] #[4] false) := by kernel_rfl
theorem U.func_api_Manifest_map_string_sl_int : Try.prog.underlying Ty.func_api_Manifest_map_string_sl_int = some (.func #[39] #[106] false) := by kernel_rfl
theorem U.func_sl_string_sl_string_x : Try.prog.underlying Ty.func_sl_string_sl_string_x = some (.func #[119] #[22] true) := by kernel_rfl
theorem U.func_sl_int_func_int_bool_int : Try.prog.underlying Ty.func_sl_int_func_int_bool_int = some (.func #[27, 75] #[3] false) := by kernel_rfl
theorem U.func_api_Manifest_int_sl_string : Try.prog.underlying Ty.func_api_Manifest_int_sl_string = some (.func #[39, 3] #[22] false) := by kernel_rfl
theorem U.func_api_Word_bool : Try.prog.underlying Ty.func_api_Word_bool = some (.func #[87] #[4] false) := by kernel_rfl
theorem U.func_sl_api_Word_int_string_int : Try.prog.underlying Ty.func_sl_api_Word_int_string_int = some (.func #[81, 3, 9] #[3] false) := by kernel_rfl
theorem U.func_sl_api_Word_int_sl_string_int : Try.prog.underlying Ty.func_sl_api_Word_int_sl_string_int = some (.func #[81, 3] #[22, 3] false) := by kernel_rfl
theorem U.func_sl_api_Word_int_int_sl_sl_api_Do : Try.prog.underlying Ty.func_sl_api_Word_int_int_sl_sl_api_Do = some (.func #[81, 3, 3] #[51] false) := by kernel_rfl
theorem U.func_sl_string_func_string_bool_int : Try.prog.underlying Ty.func_sl_string_func_string_bool_int = some (.func #[22, 85] #[3] false) := by kernel_rfl
theorem U.func_sl_string_string_int : Try.prog.underlying Ty.func_sl_string_string_int = some (.func #[22, 9] #[3] false) := by kernel_rfl
theorem U.sl_sl_string : Try.prog.underlying Ty.sl_sl_string = some (.slice Ty.sl_string) := by kernel_rfl
theorem U.func_sl_string_int_sl_string : Try.prog.underlying Ty.func_sl_string_int_sl_string = some (.func #[22, 3] #[22] false) := by kernel_rfl
theorem U.sl_api_Do : Try.prog.underlying Ty.sl_api_Do = some (.slice Ty.api_Do) := by kernel_rfl
theorem U.func_sl_api_Word_sl_api_Do_bool : Try.prog.underlying Ty.func_sl_api_Word_sl_api_Do_bool = some (.func #[81] #[121, 4] false) := by kernel_rfl
theorem U.func_sl_api_Word_api_Do_bool : Try.prog.underlying Ty.func_sl_api_Word_api_Do_bool = some (.func #[81] #[125, 4] false) := by kernel_rfl
theorem U.func_sl_api_Do_bool : Try.prog.underlying Ty.func_sl_api_Do_bool = some (.func #[121] #[4] false) := by kernel_rfl
theorem U.func_sl_string : Try.prog.underlying Ty.func_sl_string = some (.func #[] #[22] false) := by kernel_rfl
theorem U.func_string_int_int_bool : Try.prog.underlying Ty.func_string_int_int_bool = some (.func #[9, 3] #[3, 4] false) := by kernel_rfl
theorem U.func_string : Try.prog.underlying Ty.func_string = some (.func #[] #[9] false) := by kernel_rfl
theorem U.func_int : Try.prog.underlying Ty.func_int = some (.func #[] #[3] false) := by kernel_rfl
theorem U.uint32 : Try.prog.underlying Ty.uint32 = some (.int .u32) := by kernel_rfl
theorem U.abi_TFlag : Try.prog.underlying Ty.abi_TFlag = some (.int .u8) := by kernel_rfl
theorem U.abi_Kind : Try.prog.underlying Ty.abi_Kind = some (.int .u8) := by kernel_rfl
theorem U.func_unsafe_Pointer_unsafe_Pointer_bool : Try.prog.underlying Ty.func_unsafe_Pointer_unsafe_Pointer_bool = some (.func #[147, 147] #[4] false) := by kernel_rfl
theorem U.p_uint8 : Try.prog.underlying Ty.p_uint8 = some (.pointer Ty.uint8) := by kernel_rfl
theorem U.abi_NameOff : Try.prog.underlying Ty.abi_NameOff = some (.int .i32) := by kernel_rfl
theorem U.abi_TypeOff : Try.prog.underlying Ty.abi_TypeOff = some (.int .i32) := by kernel_rfl
def Ex : Ext := fun f => bif Nat.beq f F.fettlelaw8_awake then some yes0 else bif Nat.beq f F.fettlelaw18_awake then some yes0 else none
abbrev R (f : FuncId) (args : Array Value) (M : Store) (Q : Value → Store → Prop) : Prop := Runs Try.prog Ex f args M Q
abbrev KC (f : Value) (args : List Value) (M : Store) (Q : Value → Store → Prop) : Prop := kcall Try.prog Ex f args M Q
end Go.G
