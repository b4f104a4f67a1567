/- Names of the program's functions and types; what a call comes to. -/
import Derived.Test.YtnonfejhkbaikaaDoorProg
import Derived.Test.YtnonfejhkbaikaaDoorPKD
import Derived.Test.YtnonfejhkbaikaaDoorPKE
import Derived.Test.YtnonfejhkbaikaaDoorPXS
import Derived.KernelRfl
namespace Go.G
open Go.Ab Go.Proofs
def F.main_main : Nat := 0
def F.gosem_cut : Nat := 1
def F.gosem_cut_init : Nat := 2
def F.fettlelaw21_OptnBack : Nat := 3
def F.fettlelaw21_OptnTells : Nat := 4
def F.fettlelaw6_ActsBack : Nat := 5
def F.fettlelaw21_OptnBack_c1 : Nat := 6
def F.optn_Print : Nat := 7
def F.optn_Parse : Nat := 8
def F.fettlelaw21_same : Nat := 9
def F.fettlelaw21_awake : Nat := 10
def F.fettleref10_Options : Nat := 11
def F.fettlelaw6_Act : Nat := 12
def F.fettleref4_Dec : Nat := 13
def F.acts_Parse : Nat := 14
def F.fettleref4_ParseAct : Nat := 15
def F.fettleref4_SameAct : Nat := 16
def F.acts_Ok : Nat := 17
def F.fettlelaw6_awake : Nat := 18
def F.slices_ContainsFunc_sl_string_string : Nat := 19
def F.optn_Print_c1 : Nat := 20
def F.name_Ok : Nat := 21
def F.strings_Join : Nat := 22
def F.strings_Split : Nat := 23
def F.slices_Clone_sl_string_string : Nat := 24
def F.fettleref1_SameTexts : Nat := 25
def F.fettleref4_Ok : Nat := 26
def F.slices_IndexFunc_sl_api_Word_api_Word : Nat := 27
def F.acts_Parse_c1 : Nat := 28
def F.acts_one : Nat := 29
def F.slices_Clip_sl_api_Do_api_Do : Nat := 30
def F.fettleref4_is : Nat := 31
def F.fettleref4_one : Nat := 32
def F.fettleref4_OkAct : Nat := 33
def F.acts_right : Nat := 34
def F.acts_begins : Nat := 35
def F.acts_Run : Nat := 36
def F.acts_Bytes : Nat := 37
def F.slices_IndexFunc_sl_string_string : Nat := 38
def F.name_letter : Nat := 39
def F.strings_Builder_Grow : Nat := 40
def F.strings_Builder_WriteString : Nat := 41
def F.strings_Builder_String : Nat := 42
def F.strings_genSplit : Nat := 43
def F.slices_Index_sl_string_string : Nat := 44
def F.acts_words : Nat := 45
def F.acts_text : Nat := 46
def F.acts_top : Nat := 47
def F.acts_num : Nat := 48
def F.fettleref4_words : Nat := 49
def F.fettleref4_Number : Nat := 50
def F.fettleref4_plain : Nat := 51
def F.acts_fits : Nat := 52
def F.acts_step : Nat := 53
def F.slices_Clip_sl_byte_byte : Nat := 54
def F.slices_Clone_sl_byte_byte : Nat := 55
def F.code_Num : Nat := 56
def F.code_Bytes : Nat := 57
def F.strings_Builder_copyCheck : Nat := 58
def F.strings_Builder_grow : Nat := 59
def F.strings_explode : Nat := 60
def F.strings_Count : Nat := 61
def F.strings_Index : Nat := 62
def F.strconv_Atoi : Nat := 63
def F.strconv_Itoa : Nat := 64
def F.bytes_Join : Nat := 65
def F.acts_turned : Nat := 66
def F.slices_Reverse_sl_byte_byte : Nat := 67
def F.slices_Concat_sl_byte_byte : Nat := 68
def F.acts_joined : Nat := 69
def F.internal_abi_NoEscape : Nat := 70
def F.internal_bytealg_MakeNoZero : Nat := 71
def F.unicode_utf8_RuneCountInString : Nat := 72
def F.unicode_utf8_DecodeRuneInString : Nat := 73
def F.internal_bytealg_CountString : Nat := 74
def F.internal_stringslite_Index : Nat := 75
def F.internal_strconv_Atoi : Nat := 76
def F.strconv_toError : Nat := 77
def F.internal_strconv_Itoa : Nat := 78
def F.slices_Grow_sl_byte_byte : Nat := 79
def F.unicode_utf8_decodeRuneInStringSlow : Nat := 80
def F.internal_stringslite_IndexByte : Nat := 81
def F.internal_bytealg_IndexString : Nat := 82
def F.internal_bytealg_Cutover : Nat := 83
def F.internal_bytealg_IndexRabinKarp_string : Nat := 84
def F.internal_strconv_ParseInt : Nat := 85
def F.strconv_syntaxError : Nat := 86
def F.strconv_rangeError : Nat := 87
def F.strconv_baseError : Nat := 88
def F.strconv_bitSizeError : Nat := 89
def F.internal_strconv_FormatInt : Nat := 90
def F.internal_bytealg_IndexByteString : Nat := 91
def F.internal_bytealg_hashStr_string : Nat := 92
def F.internal_strconv_ParseUint : Nat := 93
def F.internal_stringslite_Clone : Nat := 94
def F.errors_New : Nat := 95
def F.internal_strconv_small : Nat := 96
def F.internal_strconv_numDigits : Nat := 97
def F.internal_strconv_formatBase10 : Nat := 98
def F.internal_strconv_formatBits : Nat := 99
def F.internal_strconv_lower : Nat := 100
def F.internal_strconv_underscoreOK : Nat := 101
def F.internal_strconv_log10Pow2 : Nat := 102
def F.math_bits_Len64 : Nat := 103
def F.internal_strconv_bool2_int : Nat := 104
def F.internal_strconv_isPowerOfTwo : Nat := 105
def F.math_bits_TrailingZeros : Nat := 106
def F.math_bits_TrailingZeros32 : Nat := 107
def F.math_bits_TrailingZeros64 : Nat := 108
def F.runtime_boundsError_Error : Nat := 109
def F.runtime_boundsError_RuntimeError : Nat := 110
def F.runtime_errorString_Error : Nat := 111
def F.runtime_errorString_RuntimeError : Nat := 112
def F.runtime_plainError_Error : Nat := 113
def F.runtime_plainError_RuntimeError : Nat := 114
def F.runtime_errorAddressString_Error : Nat := 115
def F.runtime_errorAddressString_RuntimeError : Nat := 116
def F.runtime_TypeAssertionError_Error : Nat := 117
def F.runtime_TypeAssertionError_RuntimeError : Nat := 118
def F.runtime_PanicNilError_Error : Nat := 119
def F.runtime_PanicNilError_RuntimeError : Nat := 120
def F.internal_abi_Type_Align : Nat := 121
def F.internal_runtime_maps_unhashableTypeError_Error : Nat := 122
def F.internal_runtime_maps_unhashableTypeError_RuntimeError : Nat := 123
def F.strings_Builder_Reset : Nat := 124
def F.internal_strconv_Error_Error : Nat := 125
def F.strconv_NumError_Error : Nat := 126
def F.errors_errorString_Error : Nat := 127
def F.internal_abi_Kind_String : Nat := 128
def F.var_s_door_gosem_cut_vars_holds_initialisers_alone_see_the_manifest_s_row_cutvarsword_look_11_test_files_too : Nat := 129
def F.var_s_door_internal_strconv_uint64pow10_is_laid_by_its_own_initialiser_plain_data_look_11 : Nat := 130
def F.var_s_door_math_bits_deBruijn32tab_is_laid_by_its_own_initialiser_plain_data_look_11 : Nat := 131
def F.var_s_door_math_bits_deBruijn64tab_is_laid_by_its_own_initialiser_plain_data_look_11 : Nat := 132
def F.var_s_door_strconv_ErrRange_is_laid_by_its_own_call_of_errors_New_on_one_literal_look_11 : Nat := 133
def F.var_s_door_strconv_ErrSyntax_is_laid_by_its_own_call_of_errors_New_on_one_literal_look_11 : Nat := 134
def F.var_s_door_the_look_of_gosem_cut_vars_went_over_the_folder_that_the_caller_named_as_the_repository_s_root_look_11 : Nat := 135
def F.var_s_door_unicode_utf8_acceptRanges_is_laid_by_its_own_initialiser_plain_data_look_11 : Nat := 136
def F.var_s_door_unicode_utf8_first_is_laid_by_its_text_alone_pinned_1 : Nat := 137
def F.gosem_cut_vars : Nat := 138
def Ty.anon : Nat := 0
def Ty.func_t : Nat := 1
def Ty.int64 : Nat := 2
def Ty.int : Nat := 3
def Ty.bool : Nat := 4
def Ty.uint8 : Nat := 5
def Ty.abi_BoundsErrorCode : Nat := 6
def Ty.struct_x_int64_y_int_signed_bool_code_abi_BoundsErrorCode : Nat := 7
def Ty.runtime_boundsError : Nat := 8
def Ty.string : Nat := 9
def Ty.runtime_errorString : Nat := 10
def Ty.runtime_plainError : Nat := 11
def Ty.uintptr : Nat := 12
def Ty.struct_msg_string_addr_uintptr : Nat := 13
def Ty.runtime_errorAddressString : Nat := 14
def Ty.p_runtime_TypeAssertionError : Nat := 15
def Ty.p_runtime_PanicNilError : Nat := 16
def Ty.p_abi_Type : Nat := 17
def Ty.struct_typ_p_abi_Type : Nat := 18
def Ty.maps_unhashableTypeError : Nat := 19
def Ty.interface : Nat := 20
def Ty.int32 : Nat := 21
def Ty.sl_string : Nat := 22
def Ty.struct_Dry_bool_Fast_bool_Clean_bool_Names_sl_string : Nat := 23
def Ty.api_Options : Nat := 24
def Ty.uint : Nat := 25
def Ty.func_int_api_Options : Nat := 26
def Ty.func_api_Options_string : Nat := 27
def Ty.api_Options_bool : Nat := 28
def Ty.func_string_api_Options_bool : Nat := 29
def Ty.func_api_Options_api_Options_bool : Nat := 30
def Ty.func_bool : Nat := 31
def Ty.func_int_int_bool : Nat := 32
def Ty.sl_uint8 : Nat := 33
def Ty.sl_int : Nat := 34
def Ty.func_api_Options_sl_uint8_sl_int_bool : Nat := 35
def Ty.sl_api_Do : Nat := 36
def Ty.func_sl_int_sl_api_Do : Nat := 37
def Ty.sl_api_Word : Nat := 38
def Ty.struct_Kind_int_N_int_Text_string : Nat := 39
def Ty.api_Do : Nat := 40
def Ty.struct_Text_string_Line_int_Col_int_Quoted_bool : Nat := 41
def Ty.api_Word : Nat := 42
def Ty.func_int_string : Nat := 43
def Ty.sl_api_Do_bool : Nat := 44
def Ty.func_sl_api_Word_sl_api_Do_bool : Nat := 45
def Ty.func_sl_api_Do_sl_api_Do_bool : Nat := 46
def Ty.func_sl_api_Do_bool : Nat := 47
def Ty.func_sl_int_int_int_bool : Nat := 48
def Ty.func_sl_string_func_string_bool_bool : Nat := 49
def Ty.func_string_bool : Nat := 50
def Ty.func_sl_string_string_string : Nat := 51
def Ty.func_string_string_sl_string : Nat := 52
def Ty.func_sl_string_sl_string : Nat := 53
def Ty.func_sl_string_sl_string_bool : Nat := 54
def Ty.func_sl_api_Word_func_api_Word_bool_int : Nat := 55
def Ty.func_api_Word_bool : Nat := 56
def Ty.api_Do_bool : Nat := 57
def Ty.func_sl_api_Word_api_Do_bool : Nat := 58
def Ty.func_sl_api_Do_sl_api_Do : Nat := 59
def Ty.func_api_Word_string_bool : Nat := 60
def Ty.func_api_Do_bool : Nat := 61
def Ty.func_int_bool : Nat := 62
def Ty.sl_uint8_bool : Nat := 63
def Ty.func_sl_api_Do_sl_sl_uint8_sl_uint8_bool : Nat := 64
def Ty.sl_sl_uint8 : Nat := 65
def Ty.func_sl_api_Do_sl_uint8 : Nat := 66
def Ty.func_sl_string_func_string_bool_int : Nat := 67
def Ty.func_uint8_bool : Nat := 68
def Ty.p_strings_Builder : Nat := 69
def Ty.struct_addr_p_strings_Builder_buf_sl_uint8 : Nat := 70
def Ty.strings_Builder : Nat := 71
def Ty.func_int : Nat := 72
def Ty.interface_Error_string : Nat := 73
def Ty.error_t : Nat := 74
def Ty.int_error : Nat := 75
def Ty.func_string_int_error : Nat := 76
def Ty.func_string : Nat := 77
def Ty.func_string_string_int_int_sl_string : Nat := 78
def Ty.func_sl_string_string_int : Nat := 79
def Ty.func_sl_string : Nat := 80
def Ty.func_int_int : Nat := 81
def Ty.func_string_int : Nat := 82
def Ty.int_bool : Nat := 83
def Ty.func_string_int_int_bool : Nat := 84
def Ty.func_api_Do_sl_sl_uint8_sl_uint8_sl_uint8_bool : Nat := 85
def Ty.func_sl_uint8_sl_uint8 : Nat := 86
def Ty.func_sl_uint8_int_sl_uint8 : Nat := 87
def Ty.func_sl_uint8_sl_uint8_sl_uint8 : Nat := 88
def Ty.p_uint8 : Nat := 89
def Ty.func_string_int_sl_string : Nat := 90
def Ty.func_string_string_int : Nat := 91
def Ty.func_sl_sl_uint8_sl_uint8_sl_uint8 : Nat := 92
def Ty.func_sl_uint8_uint8_uint8_int_sl_uint8 : Nat := 93
def Ty.func_sl_uint8 : Nat := 94
def Ty.func_sl_uint8_sl_uint8_x : Nat := 95
def Ty.func_sl_uint8_string_sl_uint8 : Nat := 96
def Ty.unsafe_Pointer : Nat := 97
def Ty.func_unsafe_Pointer_unsafe_Pointer : Nat := 98
def Ty.func_int_sl_uint8 : Nat := 99
def Ty.int32_int : Nat := 100
def Ty.func_string_int32_int : Nat := 101
def Ty.func_string_uint8_int : Nat := 102
def Ty.func_string_string_int_int_error_error : Nat := 103
def Ty.strconv_Error : Nat := 104
def Ty.int64_error : Nat := 105
def Ty.func_string_int_int_int64_error : Nat := 106
def Ty.p_strconv_NumError : Nat := 107
def Ty.func_string_string_p_strconv_NumError : Nat := 108
def Ty.func_string_string_int_p_strconv_NumError : Nat := 109
def Ty.func_int64_int_string : Nat := 110
def Ty.a256_uint8 : Nat := 111
def Ty.struct_lo_uint8_hi_uint8 : Nat := 112
def Ty.utf8_acceptRange : Nat := 113
def Ty.a16_utf8_acceptRange : Nat := 114
def Ty.uint32 : Nat := 115
def Ty.uint32_uint32 : Nat := 116
def Ty.func_string_uint32_uint32 : Nat := 117
def Ty.uint64 : Nat := 118
def Ty.uint64_error : Nat := 119
def Ty.func_string_int_int_uint64_error : Nat := 120
def Ty.func_string_string : Nat := 121
def Ty.struct_Func_string_Num_string_Err_error : Nat := 122
def Ty.strconv_NumError : Nat := 123
def Ty.func_string_error : Nat := 124
def Ty.a24_uint8 : Nat := 125
def Ty.func_uint64_int : Nat := 126
def Ty.func_sl_uint8_uint64 : Nat := 127
def Ty.sl_uint8_string : Nat := 128
def Ty.func_sl_uint8_uint64_int_bool_bool_sl_uint8_string : Nat := 129
def Ty.func_uint8_uint8 : Nat := 130
def Ty.p_errors_errorString : Nat := 131
def Ty.struct_s_string : Nat := 132
def Ty.errors_errorString : Nat := 133
def Ty.func_bool_int : Nat := 134
def Ty.a20_uint64 : Nat := 135
def Ty.a65_uint8 : Nat := 136
def Ty.func_uint_int : Nat := 137
def Ty.func_uint32_int : Nat := 138
def Ty.a32_uint8 : Nat := 139
def Ty.a64_uint8 : Nat := 140
def Ty.struct_interface_p_abi_Type_concrete_p_abi_Type_asserted_p_abi_Type_missingMethod_string : Nat := 141
def Ty.runtime_TypeAssertionError : Nat := 142
def Ty.a0_p_runtime_PanicNilError : Nat := 143
def Ty.struct_0_p_runtime_PanicNilError : Nat := 144
def Ty.runtime_PanicNilError : Nat := 145
def Ty.func_int_x : Nat := 146
def Ty.abi_TFlag : Nat := 147
def Ty.abi_Kind : Nat := 148
def Ty.func_unsafe_Pointer_unsafe_Pointer_bool : Nat := 149
def Ty.abi_NameOff : Nat := 150
def Ty.abi_TypeOff : Nat := 151
def Ty.struct_Size_uintptr_PtrBytes_uintptr_Hash_uint32_TFlag_abi_TFlag_Align_uint8_FieldAlign_uint8_Kind_abi_Kind_Equal_func_unsafe_Pointer_unsafe_Pointer_bool_GCData_p_uint8_Str_abi_NameOff_PtrToThis_abi_TypeOff : Nat := 152
def Ty.abi_Type : Nat := 153
theorem U.func_t : Tryd.prog.underlying Ty.func_t = some (.func #[] #[] false) := by kernel_rfl
theorem U.int64 : Tryd.prog.underlying Ty.int64 = some (.int .i64) := by kernel_rfl
theorem U.int : Tryd.prog.underlying Ty.int = some (.int .i64) := by kernel_rfl
theorem U.bool : Tryd.prog.underlying Ty.bool = some .bool := by kernel_rfl
theorem U.uint8 : Tryd.prog.underlying Ty.uint8 = some (.int .u8) := by kernel_rfl
theorem U.abi_BoundsErrorCode : Tryd.prog.underlying Ty.abi_BoundsErrorCode = some (.int .u8) := by kernel_rfl
theorem U.string : Tryd.prog.underlying Ty.string = some .string := by kernel_rfl
theorem U.runtime_errorString : Tryd.prog.underlying Ty.runtime_errorString = some .string := by kernel_rfl
theorem U.runtime_plainError : Tryd.prog.underlying Ty.runtime_plainError = some .string := by kernel_rfl
theorem U.uintptr : Tryd.prog.underlying Ty.uintptr = some (.int .u64) := by kernel_rfl
theorem U.p_runtime_TypeAssertionError : Tryd.prog.underlying Ty.p_runtime_TypeAssertionError = some (.pointer Ty.runtime_TypeAssertionError) := by kernel_rfl
theorem U.p_runtime_PanicNilError : Tryd.prog.underlying Ty.p_runtime_PanicNilError = some (.pointer Ty.runtime_PanicNilError) := by kernel_rfl
theorem U.p_abi_Type : Tryd.prog.underlying Ty.p_abi_Type = some (.pointer Ty.abi_Type) := by kernel_rfl
theorem U.int32 : Tryd.prog.underlying Ty.int32 = some (.int .i32) := by kernel_rfl
theorem U.sl_string : Tryd.prog.underlying Ty.sl_string = some (.slice Ty.string) := by kernel_rfl
theorem U.uint : Tryd.prog.underlying Ty.uint = some (.int .u64) := by kernel_rfl
theorem U.func_int_api_Options : Tryd.prog.underlying Ty.func_int_api_Options = some (.func #[3] #[24] false) := by kernel_rfl
theorem U.func_api_Options_string : Tryd.prog.underlying Ty.func_api_Options_string = some (.func #[24] #[9] false) := by kernel_rfl
theorem U.func_string_api_Options_bool : Tryd.prog.underlying Ty.func_string_api_Options_bool = some (.func #[9] #[24, 4] false) := by kernel_rfl
theorem U.func_api_Options_api_Options_bool : Tryd.prog.underlying Ty.func_api_Options_api_Options_bool = some (.func #[24, 24] #[4] false) := by kernel_rfl
theorem U.func_bool : Tryd.prog.underlying Ty.func_bool = some (.func #[] #[4] false) := by kernel_rfl
theorem U.func_int_int_bool : Tryd.prog.underlying Ty.func_int_int_bool = some (.func #[3, 3] #[4] false) := by kernel_rfl
theorem U.sl_uint8 : Tryd.prog.underlying Ty.sl_uint8 = some (.slice Ty.uint8) := by kernel_rfl
theorem U.sl_int : Tryd.prog.underlying Ty.sl_int = some (.slice Ty.int) := by kernel_rfl
theorem U.func_api_Options_sl_uint8_sl_int_bool : Tryd.prog.underlying Ty.func_api_Options_sl_uint8_sl_int_bool = some (.func #[24, 33, 34] #[4] false) := by kernel_rfl
theorem U.sl_api_Do : Tryd.prog.underlying Ty.sl_api_Do = some (.slice Ty.api_Do) := by kernel_rfl
theorem U.func_sl_int_sl_api_Do : Tryd.prog.underlying Ty.func_sl_int_sl_api_Do = some (.func #[34] #[36] false) := by kernel_rfl
theorem U.sl_api_Word : Tryd.prog.underlying Ty.sl_api_Word = some (.slice Ty.api_Word) := by kernel_rfl
theorem U.func_int_string : Tryd.prog.underlying Ty.func_int_string = some (.func #[3] #[9] false) := by kernel_rfl
theorem U.func_sl_api_Word_sl_api_Do_bool : Tryd.prog.underlying Ty.func_sl_api_Word_sl_api_Do_bool = some (.func #[38] #[36, 4] false) := by kernel_rfl
theorem U.func_sl_api_Do_sl_api_Do_bool : Tryd.prog.underlying Ty.func_sl_api_Do_sl_api_Do_bool = some (.func #[36, 36] #[4] false) := by kernel_rfl
theorem U.func_sl_api_Do_bool : Tryd.prog.underlying Ty.func_sl_api_Do_bool = some (.func #[36] #[4] false) := by kernel_rfl
theorem U.func_sl_int_int_int_bool : Tryd.prog.underlying Ty.func_sl_int_int_int_bool = some (.func #[34, 3, 3] #[4] false) := by kernel_rfl
theorem U.func_sl_string_func_string_bool_bool : Tryd.prog.underlying Ty.func_sl_string_func_string_bool_bool = some (.func #[22, 50] #[4] false) := by kernel_rfl
theorem U.func_string_bool : Tryd.prog.underlying Ty.func_string_bool = some (.func #[9] #[4] false) := by kernel_rfl
theorem U.func_sl_string_string_string : Tryd.prog.underlying Ty.func_sl_string_string_string = some (.func #[22, 9] #[9] false) := by kernel_rfl
theorem U.func_string_string_sl_string : Tryd.prog.underlying Ty.func_string_string_sl_string = some (.func #[9, 9] #[22] false) := by kernel_rfl
theorem U.func_sl_string_sl_string : Tryd.prog.underlying Ty.func_sl_string_sl_string = some (.func #[22] #[22] false) := by kernel_rfl
theorem U.func_sl_string_sl_string_bool : Tryd.prog.underlying Ty.func_sl_string_sl_string_bool = some (.func #[22, 22] #[4] false) := by kernel_rfl
theorem U.func_sl_api_Word_func_api_Word_bool_int : Tryd.prog.underlying Ty.func_sl_api_Word_func_api_Word_bool_int = some (.func #[38, 56] #[3] false) := by kernel_rfl
theorem U.func_api_Word_bool : Tryd.prog.underlying Ty.func_api_Word_bool = some (.func #[42] #[4] false) := by kernel_rfl
theorem U.func_sl_api_Word_api_Do_bool : Tryd.prog.underlying Ty.func_sl_api_Word_api_Do_bool = some (.func #[38] #[40, 4] false) := by kernel_rfl
theorem U.func_sl_api_Do_sl_api_Do : Tryd.prog.underlying Ty.func_sl_api_Do_sl_api_Do = some (.func #[36] #[36] false) := by kernel_rfl
theorem U.func_api_Word_string_bool : Tryd.prog.underlying Ty.func_api_Word_string_bool = some (.func #[42, 9] #[4] false) := by kernel_rfl
theorem U.func_api_Do_bool : Tryd.prog.underlying Ty.func_api_Do_bool = some (.func #[40] #[4] false) := by kernel_rfl
theorem U.func_int_bool : Tryd.prog.underlying Ty.func_int_bool = some (.func #[3] #[4] false) := by kernel_rfl
theorem U.func_sl_api_Do_sl_sl_uint8_sl_uint8_bool : Tryd.prog.underlying Ty.func_sl_api_Do_sl_sl_uint8_sl_uint8_bool = some (.func #[36, 65] #[33, 4] false) := by kernel_rfl
theorem U.sl_sl_uint8 : Tryd.prog.underlying Ty.sl_sl_uint8 = some (.slice Ty.sl_uint8) := by kernel_rfl
theorem U.func_sl_api_Do_sl_uint8 : Tryd.prog.underlying Ty.func_sl_api_Do_sl_uint8 = some (.func #[36] #[33] false) := by kernel_rfl
theorem U.func_sl_string_func_string_bool_int : Tryd.prog.underlying Ty.func_sl_string_func_string_bool_int = some (.func #[22, 50] #[3] false) := by kernel_rfl
theorem U.func_uint8_bool : Tryd.prog.underlying Ty.func_uint8_bool = some (.func #[5] #[4] false) := by kernel_rfl
theorem U.p_strings_Builder : Tryd.prog.underlying Ty.p_strings_Builder = some (.pointer Ty.strings_Builder) := by kernel_rfl
theorem U.func_int : Tryd.prog.underlying Ty.func_int = some (.func #[3] #[] false) := by kernel_rfl
theorem U.func_string_int_error : Tryd.prog.underlying Ty.func_string_int_error = some (.func #[9] #[3, 74] false) := by kernel_rfl
theorem U.func_string : Tryd.prog.underlying Ty.func_string = some (.func #[] #[9] false) := by kernel_rfl
theorem U.func_string_string_int_int_sl_string : Tryd.prog.underlying Ty.func_string_string_int_int_sl_string = some (.func #[9, 9, 3, 3] #[22] false) := by kernel_rfl
theorem U.func_sl_string_string_int : Tryd.prog.underlying Ty.func_sl_string_string_int = some (.func #[22, 9] #[3] false) := by kernel_rfl
theorem U.func_sl_string : Tryd.prog.underlying Ty.func_sl_string = some (.func #[] #[22] false) := by kernel_rfl
theorem U.func_int_int : Tryd.prog.underlying Ty.func_int_int = some (.func #[3] #[3] false) := by kernel_rfl
theorem U.func_string_int : Tryd.prog.underlying Ty.func_string_int = some (.func #[9] #[3] false) := by kernel_rfl
theorem U.func_string_int_int_bool : Tryd.prog.underlying Ty.func_string_int_int_bool = some (.func #[9, 3] #[3, 4] false) := by kernel_rfl
theorem U.func_api_Do_sl_sl_uint8_sl_uint8_sl_uint8_bool : Tryd.prog.underlying Ty.func_api_Do_sl_sl_uint8_sl_uint8_sl_uint8_bool = some (.func #[40, 65, 33] #[33, 4] false) := by kernel_rfl
theorem U.func_sl_uint8_sl_uint8 : Tryd.prog.underlying Ty.func_sl_uint8_sl_uint8 = some (.func #[33] #[33] false) := by kernel_rfl
theorem U.func_sl_uint8_int_sl_uint8 : Tryd.prog.underlying Ty.func_sl_uint8_int_sl_uint8 = some (.func #[33, 3] #[33] false) := by kernel_rfl
theorem U.func_sl_uint8_sl_uint8_sl_uint8 : Tryd.prog.underlying Ty.func_sl_uint8_sl_uint8_sl_uint8 = some (.func #[33, 33] #[33] false) := by kernel_rfl
theorem U.p_uint8 : Tryd.prog.underlying Ty.p_uint8 = some (.pointer Ty.uint8) := by kernel_rfl
theorem U.func_string_int_sl_string : Tryd.prog.underlying Ty.func_string_int_sl_string = some (.func #[9, 3] #[22] false) := by kernel_rfl
theorem U.func_string_string_int : Tryd.prog.underlying Ty.func_string_string_int = some (.func #[9, 9] #[3] false) := by kernel_rfl
theorem U.func_sl_sl_uint8_sl_uint8_sl_uint8 : Tryd.prog.underlying Ty.func_sl_sl_uint8_sl_uint8_sl_uint8 = some (.func #[65, 33] #[33] false) := by kernel_rfl
theorem U.func_sl_uint8_uint8_uint8_int_sl_uint8 : Tryd.prog.underlying Ty.func_sl_uint8_uint8_uint8_int_sl_uint8 = some (.func #[33, 5, 5, 3] #[33] false) := by kernel_rfl
theorem U.func_sl_uint8 : Tryd.prog.underlying Ty.func_sl_uint8 = some (.func #[33] #[] false) := by kernel_rfl
theorem U.func_sl_uint8_sl_uint8_x : Tryd.prog.underlying Ty.func_sl_uint8_sl_uint8_x = some (.func #[65] #[33] true) := by kernel_rfl
theorem U.func_sl_uint8_string_sl_uint8 : Tryd.prog.underlying Ty.func_sl_uint8_string_sl_uint8 = some (.func #[33, 9] #[33] false) := by kernel_rfl
theorem U.func_unsafe_Pointer_unsafe_Pointer : Tryd.prog.underlying Ty.func_unsafe_Pointer_unsafe_Pointer = some (.func #[97] #[97] false) := by kernel_rfl
theorem U.func_int_sl_uint8 : Tryd.prog.underlying Ty.func_int_sl_uint8 = some (.func #[3] #[33] false) := by kernel_rfl
theorem U.func_string_int32_int : Tryd.prog.underlying Ty.func_string_int32_int = some (.func #[9] #[21, 3] false) := by kernel_rfl
theorem U.func_string_uint8_int : Tryd.prog.underlying Ty.func_string_uint8_int = some (.func #[9, 5] #[3] false) := by kernel_rfl
theorem U.func_string_string_int_int_error_error : Tryd.prog.underlying Ty.func_string_string_int_int_error_error = some (.func #[9, 9, 3, 3, 74] #[74] false) := by kernel_rfl
theorem U.strconv_Error : Tryd.prog.underlying Ty.strconv_Error = some (.int .i64) := by kernel_rfl
theorem U.func_string_int_int_int64_error : Tryd.prog.underlying Ty.func_string_int_int_int64_error = some (.func #[9, 3, 3] #[2, 74] false) := by kernel_rfl
theorem U.p_strconv_NumError : Tryd.prog.underlying Ty.p_strconv_NumError = some (.pointer Ty.strconv_NumError) := by kernel_rfl
theorem U.func_string_string_p_strconv_NumError : Tryd.prog.underlying Ty.func_string_string_p_strconv_NumError = some (.func #[9, 9] #[107] false) := by kernel_rfl
theorem U.func_string_string_int_p_strconv_NumError : Tryd.prog.underlying Ty.func_string_string_int_p_strconv_NumError = some (.func #[9, 9, 3] #[107] false) := by kernel_rfl
theorem U.func_int64_int_string : Tryd.prog.underlying Ty.func_int64_int_string = some (.func #[2, 3] #[9] false) := by kernel_rfl
theorem U.uint32 : Tryd.prog.underlying Ty.uint32 = some (.int .u32) := by kernel_rfl
theorem U.func_string_uint32_uint32 : Tryd.prog.underlying Ty.func_string_uint32_uint32 = some (.func #[9] #[115, 115] false) := by kernel_rfl
theorem U.uint64 : Tryd.prog.underlying Ty.uint64 = some (.int .u64) := by kernel_rfl
theorem U.func_string_int_int_uint64_error : Tryd.prog.underlying Ty.func_string_int_int_uint64_error = some (.func #[9, 3, 3] #[118, 74] false) := by kernel_rfl
theorem U.func_string_string : Tryd.prog.underlying Ty.func_string_string = some (.func #[9] #[9] false) := by kernel_rfl
theorem U.func_string_error : Tryd.prog.underlying Ty.func_string_error = some (.func #[9] #[74] false) := by kernel_rfl
theorem U.func_uint64_int : Tryd.prog.underlying Ty.func_uint64_int = some (.func #[118] #[3] false) := by kernel_rfl
theorem U.func_sl_uint8_uint64 : Tryd.prog.underlying Ty.func_sl_uint8_uint64 = some (.func #[33, 118] #[] false) := by kernel_rfl
theorem U.func_sl_uint8_uint64_int_bool_bool_sl_uint8_string : Tryd.prog.underlying Ty.func_sl_uint8_uint64_int_bool_bool_sl_uint8_string = some (.func #[33, 118, 3, 4, 4] #[33, 9] false) := by kernel_rfl
theorem U.func_uint8_uint8 : Tryd.prog.underlying Ty.func_uint8_uint8 = some (.func #[5] #[5] false) := by kernel_rfl
theorem U.p_errors_errorString : Tryd.prog.underlying Ty.p_errors_errorString = some (.pointer Ty.errors_errorString) := by kernel_rfl
theorem U.func_bool_int : Tryd.prog.underlying Ty.func_bool_int = some (.func #[4] #[3] false) := by kernel_rfl
theorem U.func_uint_int : Tryd.prog.underlying Ty.func_uint_int = some (.func #[25] #[3] false) := by kernel_rfl
theorem U.func_uint32_int : Tryd.prog.underlying Ty.func_uint32_int = some (.func #[115] #[3] false) := by kernel_rfl
theorem U.func_int_x : Tryd.prog.underlying Ty.func_int_x = some (.func #[] #[3] false) := by kernel_rfl
theorem U.abi_TFlag : Tryd.prog.underlying Ty.abi_TFlag = some (.int .u8) := by kernel_rfl
theorem U.abi_Kind : Tryd.prog.underlying Ty.abi_Kind = some (.int .u8) := by kernel_rfl
theorem U.func_unsafe_Pointer_unsafe_Pointer_bool : Tryd.prog.underlying Ty.func_unsafe_Pointer_unsafe_Pointer_bool = some (.func #[97, 97] #[4] false) := by kernel_rfl
theorem U.abi_NameOff : Tryd.prog.underlying Ty.abi_NameOff = some (.int .i32) := by kernel_rfl
theorem U.abi_TypeOff : Tryd.prog.underlying Ty.abi_TypeOff = some (.int .i32) := by kernel_rfl
def Ex : Ext := fun f => bif Nat.beq f F.fettlelaw6_awake then some yes0 else bif Nat.beq f F.fettlelaw21_awake then some yes0 else bif Nat.beq f F.internal_bytealg_IndexByteString then some ixbX else bif Nat.beq f F.internal_bytealg_CountString then some cntX else bif Nat.beq f F.strconv_Itoa then some itoaB else bif Nat.beq f F.strconv_Atoi then some atoiB else bif Nat.beq f F.strings_Join then some joinB else bif Nat.beq f F.bytes_Join then some bjoinB else none
abbrev R (f : FuncId) (args : Array Value) (M : Store) (Q : Value → Store → Prop) : Prop := Runs Tryd.prog Ex f args M Q
abbrev KC (f : Value) (args : List Value) (M : Store) (Q : Value → Store → Prop) : Prop := kcall Tryd.prog Ex f args M Q
end Go.G
