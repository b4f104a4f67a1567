/- Names of the program's functions and types; what a call comes to. -/
import Derived.Test.YtjchjhkhopcalaaDoorProg
import Derived.Test.YtjchjhkhopcalaaDoorPKD
import Derived.Test.YtjchjhkhopcalaaDoorPKE
import Derived.Test.YtjchjhkhopcalaaDoorPXS
import Derived.KernelRfl
namespace Go.G
open Go.Ab Go.Proofs
def F.main_main : Nat := 0
def F.gosem_cut : Nat := 1
def F.gosem_cut_init : Nat := 2
def F.fettlelaw6_ActsBack : Nat := 3
def F.fettlelaw6_ActsApart : Nat := 4
def F.fettlelaw6_ActsOwn : Nat := 5
def F.fettlelaw6_ActsForms : Nat := 6
def F.fettlelaw6_ActsGrow : Nat := 7
def F.fettlelaw6_Act : Nat := 8
def F.fettleref4_Dec : Nat := 9
def F.acts_Parse : Nat := 10
def F.fettleref4_ParseAct : Nat := 11
def F.fettleref4_SameAct : Nat := 12
def F.acts_Ok : Nat := 13
def F.fettlelaw6_awake : Nat := 14
def F.acts_Bytes : Nat := 15
def F.acts_Run : Nat := 16
def F.slices_IndexFunc_sl_api_Word_api_Word : Nat := 17
def F.acts_Parse_c1 : Nat := 18
def F.acts_one : Nat := 19
def F.slices_Clip_sl_api_Do_api_Do : Nat := 20
def F.fettleref4_is : Nat := 21
def F.fettleref4_one : Nat := 22
def F.fettleref4_OkAct : Nat := 23
def F.acts_right : Nat := 24
def F.acts_begins : Nat := 25
def F.code_Num : Nat := 26
def F.code_Bytes : Nat := 27
def F.acts_step : Nat := 28
def F.slices_Clip_sl_byte_byte : Nat := 29
def F.slices_Clone_sl_byte_byte : Nat := 30
def F.slices_Index_sl_string_string : Nat := 31
def F.acts_words : Nat := 32
def F.acts_text : Nat := 33
def F.acts_top : Nat := 34
def F.acts_num : Nat := 35
def F.fettleref4_words : Nat := 36
def F.fettleref4_Number : Nat := 37
def F.fettleref4_plain : Nat := 38
def F.acts_fits : Nat := 39
def F.bytes_Join : Nat := 40
def F.acts_turned : Nat := 41
def F.slices_Reverse_sl_byte_byte : Nat := 42
def F.slices_Concat_sl_byte_byte : Nat := 43
def F.acts_joined : Nat := 44
def F.strconv_Atoi : Nat := 45
def F.strconv_Itoa : Nat := 46
def F.internal_bytealg_MakeNoZero : Nat := 47
def F.slices_Grow_sl_byte_byte : Nat := 48
def F.internal_strconv_Atoi : Nat := 49
def F.strconv_toError : Nat := 50
def F.internal_strconv_Itoa : Nat := 51
def F.internal_strconv_ParseInt : Nat := 52
def F.strconv_syntaxError : Nat := 53
def F.strconv_rangeError : Nat := 54
def F.strconv_baseError : Nat := 55
def F.strconv_bitSizeError : Nat := 56
def F.internal_strconv_FormatInt : Nat := 57
def F.internal_strconv_ParseUint : Nat := 58
def F.internal_stringslite_Clone : Nat := 59
def F.errors_New : Nat := 60
def F.internal_strconv_small : Nat := 61
def F.internal_strconv_numDigits : Nat := 62
def F.internal_strconv_formatBase10 : Nat := 63
def F.internal_strconv_formatBits : Nat := 64
def F.internal_strconv_lower : Nat := 65
def F.internal_strconv_underscoreOK : Nat := 66
def F.internal_strconv_log10Pow2 : Nat := 67
def F.math_bits_Len64 : Nat := 68
def F.internal_strconv_bool2_int : Nat := 69
def F.internal_strconv_isPowerOfTwo : Nat := 70
def F.math_bits_TrailingZeros : Nat := 71
def F.math_bits_TrailingZeros32 : Nat := 72
def F.math_bits_TrailingZeros64 : Nat := 73
def F.runtime_boundsError_Error : Nat := 74
def F.runtime_boundsError_RuntimeError : Nat := 75
def F.runtime_errorString_Error : Nat := 76
def F.runtime_errorString_RuntimeError : Nat := 77
def F.runtime_plainError_Error : Nat := 78
def F.runtime_plainError_RuntimeError : Nat := 79
def F.runtime_errorAddressString_Error : Nat := 80
def F.runtime_errorAddressString_RuntimeError : Nat := 81
def F.runtime_TypeAssertionError_Error : Nat := 82
def F.runtime_TypeAssertionError_RuntimeError : Nat := 83
def F.runtime_PanicNilError_Error : Nat := 84
def F.runtime_PanicNilError_RuntimeError : Nat := 85
def F.internal_abi_Type_Align : Nat := 86
def F.internal_runtime_maps_unhashableTypeError_Error : Nat := 87
def F.internal_runtime_maps_unhashableTypeError_RuntimeError : Nat := 88
def F.internal_strconv_Error_Error : Nat := 89
def F.strconv_NumError_Error : Nat := 90
def F.errors_errorString_Error : Nat := 91
def F.internal_abi_Kind_String : Nat := 92
def F.var_s_door_gosem_cut_vars_holds_initialisers_alone_see_the_manifest_s_row_cutvarsword_look_11_test_files_too : Nat := 93
def F.var_s_door_internal_strconv_uint64pow10_is_laid_by_its_own_initialiser_plain_data_look_11 : Nat := 94
def F.var_s_door_math_bits_deBruijn32tab_is_laid_by_its_own_initialiser_plain_data_look_11 : Nat := 95
def F.var_s_door_math_bits_deBruijn64tab_is_laid_by_its_own_initialiser_plain_data_look_11 : Nat := 96
def F.var_s_door_strconv_ErrRange_is_laid_by_its_own_call_of_errors_New_on_one_literal_look_11 : Nat := 97
def F.var_s_door_strconv_ErrSyntax_is_laid_by_its_own_call_of_errors_New_on_one_literal_look_11 : Nat := 98
def F.var_s_door_the_look_of_gosem_cut_vars_went_over_the_folder_that_the_caller_named_as_the_repository_s_root_look_11 : Nat := 99
def F.gosem_cut_vars : Nat := 100
def Ty.anon : Nat := 0
def Ty.func_t : Nat := 1
def Ty.int64 : Nat := 2
def Ty.int : Nat := 3
def Ty.bool : Nat := 4
def Ty.uint8 : Nat := 5
def Ty.abi_BoundsErrorCode : Nat := 6
def Ty.struct_x_int64_y_int_signed_bool_code_abi_BoundsErrorCode : Nat := 7
def Ty.runtime_boundsError : Nat := 8
def Ty.string : Nat := 9
def Ty.runtime_errorString : Nat := 10
def Ty.runtime_plainError : Nat := 11
def Ty.uintptr : Nat := 12
def Ty.struct_msg_string_addr_uintptr : Nat := 13
def Ty.runtime_errorAddressString : Nat := 14
def Ty.p_runtime_TypeAssertionError : Nat := 15
def Ty.p_runtime_PanicNilError : Nat := 16
def Ty.p_abi_Type : Nat := 17
def Ty.struct_typ_p_abi_Type : Nat := 18
def Ty.maps_unhashableTypeError : Nat := 19
def Ty.interface : Nat := 20
def Ty.int32 : Nat := 21
def Ty.sl_int : Nat := 22
def Ty.sl_api_Do : Nat := 23
def Ty.func_sl_int_sl_api_Do : Nat := 24
def Ty.sl_api_Word : Nat := 25
def Ty.sl_string : Nat := 26
def Ty.struct_Kind_int_N_int_Text_string : Nat := 27
def Ty.api_Do : Nat := 28
def Ty.struct_Text_string_Line_int_Col_int_Quoted_bool : Nat := 29
def Ty.api_Word : Nat := 30
def Ty.func_int_string : Nat := 31
def Ty.sl_api_Do_bool : Nat := 32
def Ty.func_sl_api_Word_sl_api_Do_bool : Nat := 33
def Ty.uint : Nat := 34
def Ty.func_sl_api_Do_sl_api_Do_bool : Nat := 35
def Ty.func_sl_api_Do_bool : Nat := 36
def Ty.func_bool : Nat := 37
def Ty.func_sl_int_int_int_bool : Nat := 38
def Ty.sl_uint8 : Nat := 39
def Ty.func_sl_api_Do_sl_uint8 : Nat := 40
def Ty.func_sl_int_sl_int_int_bool_bool : Nat := 41
def Ty.sl_sl_uint8 : Nat := 42
def Ty.sl_sl_api_Do : Nat := 43
def Ty.sl_uint8_bool : Nat := 44
def Ty.func_sl_api_Do_sl_sl_uint8_sl_uint8_bool : Nat := 45
def Ty.func_sl_int_sl_sl_uint8_bool : Nat := 46
def Ty.struct_l_sl_api_Do_want_string_ok_bool : Nat := 47
def Ty.sl_struct_l_sl_api_Do_want_string_ok_bool : Nat := 48
def Ty.func_int_bool : Nat := 49
def Ty.func_int_int_bool : Nat := 50
def Ty.func_sl_api_Word_func_api_Word_bool_int : Nat := 51
def Ty.func_api_Word_bool : Nat := 52
def Ty.api_Do_bool : Nat := 53
def Ty.func_sl_api_Word_api_Do_bool : Nat := 54
def Ty.func_sl_api_Do_sl_api_Do : Nat := 55
def Ty.func_api_Word_string_bool : Nat := 56
def Ty.func_api_Do_bool : Nat := 57
def Ty.func_sl_uint8_int_sl_uint8 : Nat := 58
def Ty.func_sl_uint8_sl_uint8_sl_uint8 : Nat := 59
def Ty.func_api_Do_sl_sl_uint8_sl_uint8_sl_uint8_bool : Nat := 60
def Ty.func_sl_uint8_sl_uint8 : Nat := 61
def Ty.func_sl_string_string_int : Nat := 62
def Ty.func_sl_string : Nat := 63
def Ty.func_int_int : Nat := 64
def Ty.func_string_int : Nat := 65
def Ty.int_bool : Nat := 66
def Ty.func_string_int_int_bool : Nat := 67
def Ty.func_string_bool : Nat := 68
def Ty.func_sl_sl_uint8_sl_uint8_sl_uint8 : Nat := 69
def Ty.func_sl_uint8_uint8_uint8_int_sl_uint8 : Nat := 70
def Ty.func_sl_uint8 : Nat := 71
def Ty.func_sl_uint8_sl_uint8_x : Nat := 72
def Ty.func_sl_uint8_string_sl_uint8 : Nat := 73
def Ty.interface_Error_string : Nat := 74
def Ty.error_t : Nat := 75
def Ty.int_error : Nat := 76
def Ty.func_string_int_error : Nat := 77
def Ty.func_int_sl_uint8 : Nat := 78
def Ty.func_string_string_int_int_error_error : Nat := 79
def Ty.strconv_Error : Nat := 80
def Ty.int64_error : Nat := 81
def Ty.func_string_int_int_int64_error : Nat := 82
def Ty.p_strconv_NumError : Nat := 83
def Ty.func_string_string_p_strconv_NumError : Nat := 84
def Ty.func_string_string_int_p_strconv_NumError : Nat := 85
def Ty.func_int64_int_string : Nat := 86
def Ty.uint64 : Nat := 87
def Ty.uint64_error : Nat := 88
def Ty.func_string_int_int_uint64_error : Nat := 89
def Ty.func_string_string : Nat := 90
def Ty.struct_Func_string_Num_string_Err_error : Nat := 91
def Ty.strconv_NumError : Nat := 92
def Ty.func_string_error : Nat := 93
def Ty.a24_uint8 : Nat := 94
def Ty.func_uint64_int : Nat := 95
def Ty.func_sl_uint8_uint64 : Nat := 96
def Ty.sl_uint8_string : Nat := 97
def Ty.func_sl_uint8_uint64_int_bool_bool_sl_uint8_string : Nat := 98
def Ty.func_uint8_uint8 : Nat := 99
def Ty.p_uint8 : Nat := 100
def Ty.p_errors_errorString : Nat := 101
def Ty.struct_s_string : Nat := 102
def Ty.errors_errorString : Nat := 103
def Ty.func_bool_int : Nat := 104
def Ty.a20_uint64 : Nat := 105
def Ty.uint32 : Nat := 106
def Ty.a65_uint8 : Nat := 107
def Ty.func_uint_int : Nat := 108
def Ty.func_uint32_int : Nat := 109
def Ty.a32_uint8 : Nat := 110
def Ty.a64_uint8 : Nat := 111
def Ty.func_string : Nat := 112
def Ty.struct_interface_p_abi_Type_concrete_p_abi_Type_asserted_p_abi_Type_missingMethod_string : Nat := 113
def Ty.runtime_TypeAssertionError : Nat := 114
def Ty.a0_p_runtime_PanicNilError : Nat := 115
def Ty.struct_0_p_runtime_PanicNilError : Nat := 116
def Ty.runtime_PanicNilError : Nat := 117
def Ty.func_int : Nat := 118
def Ty.abi_TFlag : Nat := 119
def Ty.abi_Kind : Nat := 120
def Ty.func_unsafe_Pointer_unsafe_Pointer_bool : Nat := 121
def Ty.abi_NameOff : Nat := 122
def Ty.abi_TypeOff : Nat := 123
def Ty.struct_Size_uintptr_PtrBytes_uintptr_Hash_uint32_TFlag_abi_TFlag_Align_uint8_FieldAlign_uint8_Kind_abi_Kind_Equal_func_unsafe_Pointer_unsafe_Pointer_bool_GCData_p_uint8_Str_abi_NameOff_PtrToThis_abi_TypeOff : Nat := 124
def Ty.abi_Type : Nat := 125
def Ty.unsafe_Pointer : Nat := 126
theorem U.func_t : Tryd.prog.underlying Ty.func_t = some (.func #[] #[] false) := by kernel_rfl
theorem U.int64 : Tryd.prog.underlying Ty.int64 = some (.int .i64) := by kernel_rfl
theorem U.int : Tryd.prog.underlying Ty.int = some (.int .i64) := by kernel_rfl
theorem U.bool : Tryd.prog.underlying Ty.bool = some .bool := by kernel_rfl
theorem U.uint8 : Tryd.prog.underlying Ty.uint8 = some (.int .u8) := by kernel_rfl
theorem U.abi_BoundsErrorCode : Tryd.prog.underlying Ty.abi_BoundsErrorCode = some (.int .u8) := by kernel_rfl
theorem U.string : Tryd.prog.underlying Ty.string = some .string := by kernel_rfl
theorem U.runtime_errorString : Tryd.prog.underlying Ty.runtime_errorString = some .string := by kernel_rfl
theorem U.runtime_plainError : Tryd.prog.underlying Ty.runtime_plainError = some .string := by kernel_rfl
theorem U.uintptr : Tryd.prog.underlying Ty.uintptr = some (.int .u64) := by kernel_rfl
theorem U.p_runtime_TypeAssertionError : Tryd.prog.underlying Ty.p_runtime_TypeAssertionError = some (.pointer Ty.runtime_TypeAssertionError) := by kernel_rfl
theorem U.p_runtime_PanicNilError : Tryd.prog.underlying Ty.p_runtime_PanicNilError = some (.pointer Ty.runtime_PanicNilError) := by kernel_rfl
theorem U.p_abi_Type : Tryd.prog.underlying Ty.p_abi_Type = some (.pointer Ty.abi_Type) := by kernel_rfl
theorem U.int32 : Tryd.prog.underlying Ty.int32 = some (.int .i32) := by kernel_rfl
theorem U.sl_int : Tryd.prog.underlying Ty.sl_int = some (.slice Ty.int) := by kernel_rfl
theorem U.sl_api_Do : Tryd.prog.underlying Ty.sl_api_Do = some (.slice Ty.api_Do) := by kernel_rfl
theorem U.func_sl_int_sl_api_Do : Tryd.prog.underlying Ty.func_sl_int_sl_api_Do = some (.func #[22] #[23] false) := by kernel_rfl
theorem U.sl_api_Word : Tryd.prog.underlying Ty.sl_api_Word = some (.slice Ty.api_Word) := by kernel_rfl
theorem U.sl_string : Tryd.prog.underlying Ty.sl_string = some (.slice Ty.string) := by kernel_rfl
theorem U.func_int_string : Tryd.prog.underlying Ty.func_int_string = some (.func #[3] #[9] false) := by kernel_rfl
theorem U.func_sl_api_Word_sl_api_Do_bool : Tryd.prog.underlying Ty.func_sl_api_Word_sl_api_Do_bool = some (.func #[25] #[23, 4] false) := by kernel_rfl
theorem U.uint : Tryd.prog.underlying Ty.uint = some (.int .u64) := by kernel_rfl
theorem U.func_sl_api_Do_sl_api_Do_bool : Tryd.prog.underlying Ty.func_sl_api_Do_sl_api_Do_bool = some (.func #[23, 23] #[4] false) := by kernel_rfl
theorem U.func_sl_api_Do_bool : Tryd.prog.underlying Ty.func_sl_api_Do_bool = some (.func #[23] #[4] false) := by kernel_rfl
theorem U.func_bool : Tryd.prog.underlying Ty.func_bool = some (.func #[] #[4] false) := by kernel_rfl
theorem U.func_sl_int_int_int_bool : Tryd.prog.underlying Ty.func_sl_int_int_int_bool = some (.func #[22, 3, 3] #[4] false) := by kernel_rfl
theorem U.sl_uint8 : Tryd.prog.underlying Ty.sl_uint8 = some (.slice Ty.uint8) := by kernel_rfl
theorem U.func_sl_api_Do_sl_uint8 : Tryd.prog.underlying Ty.func_sl_api_Do_sl_uint8 = some (.func #[23] #[39] false) := by kernel_rfl
theorem U.func_sl_int_sl_int_int_bool_bool : Tryd.prog.underlying Ty.func_sl_int_sl_int_int_bool_bool = some (.func #[22, 22, 3, 4] #[4] false) := by kernel_rfl
theorem U.sl_sl_uint8 : Tryd.prog.underlying Ty.sl_sl_uint8 = some (.slice Ty.sl_uint8) := by kernel_rfl
theorem U.sl_sl_api_Do : Tryd.prog.underlying Ty.sl_sl_api_Do = some (.slice Ty.sl_api_Do) := by kernel_rfl
theorem U.func_sl_api_Do_sl_sl_uint8_sl_uint8_bool : Tryd.prog.underlying Ty.func_sl_api_Do_sl_sl_uint8_sl_uint8_bool = some (.func #[23, 42] #[39, 4] false) := by kernel_rfl
theorem U.func_sl_int_sl_sl_uint8_bool : Tryd.prog.underlying Ty.func_sl_int_sl_sl_uint8_bool = some (.func #[22, 42] #[4] false) := by kernel_rfl
theorem U.sl_struct_l_sl_api_Do_want_string_ok_bool : Tryd.prog.underlying Ty.sl_struct_l_sl_api_Do_want_string_ok_bool = some (.slice Ty.struct_l_sl_api_Do_want_string_ok_bool) := by kernel_rfl
theorem U.func_int_bool : Tryd.prog.underlying Ty.func_int_bool = some (.func #[3] #[4] false) := by kernel_rfl
theorem U.func_int_int_bool : Tryd.prog.underlying Ty.func_int_int_bool = some (.func #[3, 3] #[4] false) := by kernel_rfl
theorem U.func_sl_api_Word_func_api_Word_bool_int : Tryd.prog.underlying Ty.func_sl_api_Word_func_api_Word_bool_int = some (.func #[25, 52] #[3] false) := by kernel_rfl
theorem U.func_api_Word_bool : Tryd.prog.underlying Ty.func_api_Word_bool = some (.func #[30] #[4] false) := by kernel_rfl
theorem U.func_sl_api_Word_api_Do_bool : Tryd.prog.underlying Ty.func_sl_api_Word_api_Do_bool = some (.func #[25] #[28, 4] false) := by kernel_rfl
theorem U.func_sl_api_Do_sl_api_Do : Tryd.prog.underlying Ty.func_sl_api_Do_sl_api_Do = some (.func #[23] #[23] false) := by kernel_rfl
theorem U.func_api_Word_string_bool : Tryd.prog.underlying Ty.func_api_Word_string_bool = some (.func #[30, 9] #[4] false) := by kernel_rfl
theorem U.func_api_Do_bool : Tryd.prog.underlying Ty.func_api_Do_bool = some (.func #[28] #[4] false) := by kernel_rfl
theorem U.func_sl_uint8_int_sl_uint8 : Tryd.prog.underlying Ty.func_sl_uint8_int_sl_uint8 = some (.func #[39, 3] #[39] false) := by kernel_rfl
theorem U.func_sl_uint8_sl_uint8_sl_uint8 : Tryd.prog.underlying Ty.func_sl_uint8_sl_uint8_sl_uint8 = some (.func #[39, 39] #[39] false) := by kernel_rfl
theorem U.func_api_Do_sl_sl_uint8_sl_uint8_sl_uint8_bool : Tryd.prog.underlying Ty.func_api_Do_sl_sl_uint8_sl_uint8_sl_uint8_bool = some (.func #[28, 42, 39] #[39, 4] false) := by kernel_rfl
theorem U.func_sl_uint8_sl_uint8 : Tryd.prog.underlying Ty.func_sl_uint8_sl_uint8 = some (.func #[39] #[39] false) := by kernel_rfl
theorem U.func_sl_string_string_int : Tryd.prog.underlying Ty.func_sl_string_string_int = some (.func #[26, 9] #[3] false) := by kernel_rfl
theorem U.func_sl_string : Tryd.prog.underlying Ty.func_sl_string = some (.func #[] #[26] false) := by kernel_rfl
theorem U.func_int_int : Tryd.prog.underlying Ty.func_int_int = some (.func #[3] #[3] false) := by kernel_rfl
theorem U.func_string_int : Tryd.prog.underlying Ty.func_string_int = some (.func #[9] #[3] false) := by kernel_rfl
theorem U.func_string_int_int_bool : Tryd.prog.underlying Ty.func_string_int_int_bool = some (.func #[9, 3] #[3, 4] false) := by kernel_rfl
theorem U.func_string_bool : Tryd.prog.underlying Ty.func_string_bool = some (.func #[9] #[4] false) := by kernel_rfl
theorem U.func_sl_sl_uint8_sl_uint8_sl_uint8 : Tryd.prog.underlying Ty.func_sl_sl_uint8_sl_uint8_sl_uint8 = some (.func #[42, 39] #[39] false) := by kernel_rfl
theorem U.func_sl_uint8_uint8_uint8_int_sl_uint8 : Tryd.prog.underlying Ty.func_sl_uint8_uint8_uint8_int_sl_uint8 = some (.func #[39, 5, 5, 3] #[39] false) := by kernel_rfl
theorem U.func_sl_uint8 : Tryd.prog.underlying Ty.func_sl_uint8 = some (.func #[39] #[] false) := by kernel_rfl
theorem U.func_sl_uint8_sl_uint8_x : Tryd.prog.underlying Ty.func_sl_uint8_sl_uint8_x = some (.func #[42] #[39] true) := by kernel_rfl
theorem U.func_sl_uint8_string_sl_uint8 : Tryd.prog.underlying Ty.func_sl_uint8_string_sl_uint8 = some (.func #[39, 9] #[39] false) := by kernel_rfl
theorem U.func_string_int_error : Tryd.prog.underlying Ty.func_string_int_error = some (.func #[9] #[3, 75] false) := by kernel_rfl
theorem U.func_int_sl_uint8 : Tryd.prog.underlying Ty.func_int_sl_uint8 = some (.func #[3] #[39] false) := by kernel_rfl
theorem U.func_string_string_int_int_error_error : Tryd.prog.underlying Ty.func_string_string_int_int_error_error = some (.func #[9, 9, 3, 3, 75] #[75] false) := by kernel_rfl
theorem U.strconv_Error : Tryd.prog.underlying Ty.strconv_Error = some (.int .i64) := by kernel_rfl
theorem U.func_string_int_int_int64_error : Tryd.prog.underlying Ty.func_string_int_int_int64_error = some (.func #[9, 3, 3] #[2, 75] false) := by kernel_rfl
theorem U.p_strconv_NumError : Tryd.prog.underlying Ty.p_strconv_NumError = some (.pointer Ty.strconv_NumError) := by kernel_rfl
theorem U.func_string_string_p_strconv_NumError : Tryd.prog.underlying Ty.func_string_string_p_strconv_NumError = some (.func #[9, 9] #[83] false) := by kernel_rfl
theorem U.func_string_string_int_p_strconv_NumError : Tryd.prog.underlying Ty.func_string_string_int_p_strconv_NumError = some (.func #[9, 9, 3] #[83] false) := by kernel_rfl
theorem U.func_int64_int_string : Tryd.prog.underlying Ty.func_int64_int_string = some (.func #[2, 3] #[9] false) := by kernel_rfl
theorem U.uint64 : Tryd.prog.underlying Ty.uint64 = some (.int .u64) := by kernel_rfl
theorem U.func_string_int_int_uint64_error : Tryd.prog.underlying Ty.func_string_int_int_uint64_error = some (.func #[9, 3, 3] #[87, 75] false) := by kernel_rfl
theorem U.func_string_string : Tryd.prog.underlying Ty.func_string_string = some (.func #[9] #[9] false) := by kernel_rfl
theorem U.func_string_error : Tryd.prog.underlying Ty.func_string_error = some (.func #[9] #[75] false) := by kernel_rfl
theorem U.func_uint64_int : Tryd.prog.underlying Ty.func_uint64_int = some (.func #[87] #[3] false) := by kernel_rfl
theorem U.func_sl_uint8_uint64 : Tryd.prog.underlying Ty.func_sl_uint8_uint64 = some (.func #[39, 87] #[] false) := by kernel_rfl
theorem U.func_sl_uint8_uint64_int_bool_bool_sl_uint8_string : Tryd.prog.underlying Ty.func_sl_uint8_uint64_int_bool_bool_sl_uint8_string = some (.func #[39, 87, 3, 4, 4] #[39, 9] false) := by kernel_rfl
theorem U.func_uint8_uint8 : Tryd.prog.underlying Ty.func_uint8_uint8 = some (.func #[5] #[5] false) := by kernel_rfl
theorem U.p_uint8 : Tryd.prog.underlying Ty.p_uint8 = some (.pointer Ty.uint8) := by kernel_rfl
theorem U.p_errors_errorString : Tryd.prog.underlying Ty.p_errors_errorString = some (.pointer Ty.errors_errorString) := by kernel_rfl
theorem U.func_bool_int : Tryd.prog.underlying Ty.func_bool_int = some (.func #[4] #[3] false) := by kernel_rfl
theorem U.uint32 : Tryd.prog.underlying Ty.uint32 = some (.int .u32) := by kernel_rfl
theorem U.func_uint_int : Tryd.prog.underlying Ty.func_uint_int = some (.func #[34] #[3] false) := by kernel_rfl
theorem U.func_uint32_int : Tryd.prog.underlying Ty.func_uint32_int = some (.func #[106] #[3] false) := by kernel_rfl
theorem U.func_string : Tryd.prog.underlying Ty.func_string = some (.func #[] #[9] false) := by kernel_rfl
theorem U.func_int : Tryd.prog.underlying Ty.func_int = some (.func #[] #[3] false) := by kernel_rfl
theorem U.abi_TFlag : Tryd.prog.underlying Ty.abi_TFlag = some (.int .u8) := by kernel_rfl
theorem U.abi_Kind : Tryd.prog.underlying Ty.abi_Kind = some (.int .u8) := by kernel_rfl
theorem U.func_unsafe_Pointer_unsafe_Pointer_bool : Tryd.prog.underlying Ty.func_unsafe_Pointer_unsafe_Pointer_bool = some (.func #[126, 126] #[4] false) := by kernel_rfl
theorem U.abi_NameOff : Tryd.prog.underlying Ty.abi_NameOff = some (.int .i32) := by kernel_rfl
theorem U.abi_TypeOff : Tryd.prog.underlying Ty.abi_TypeOff = some (.int .i32) := by kernel_rfl
def Ex : Ext := fun f => bif Nat.beq f F.fettlelaw6_awake then some yes0 else bif Nat.beq f F.strconv_Itoa then some itoaB else bif Nat.beq f F.strconv_Atoi then some atoiB else bif Nat.beq f F.bytes_Join then some bjoinB else none
abbrev R (f : FuncId) (args : Array Value) (M : Store) (Q : Value → Store → Prop) : Prop := Runs Tryd.prog Ex f args M Q
abbrev KC (f : Value) (args : List Value) (M : Store) (Q : Value → Store → Prop) : Prop := kcall Tryd.prog Ex f args M Q
end Go.G
