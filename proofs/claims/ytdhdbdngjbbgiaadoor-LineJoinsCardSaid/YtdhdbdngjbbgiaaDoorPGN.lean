/- Names of the program's functions and types; what a call comes to. -/
import Derived.Test.YtdhdbdngjbbgiaaDoorProg
import Derived.Test.YtdhdbdngjbbgiaaDoorPKD
import Derived.Test.YtdhdbdngjbbgiaaDoorPKE
import Derived.Test.YtdhdbdngjbbgiaaDoorPXS
import Derived.KernelRfl
namespace Go.G
open Go.Ab Go.Proofs
def F.main_main : Nat := 0
def F.gosem_cut : Nat := 1
def F.gosem_cut_init : Nat := 2
def F.fettlelaw5_LinePlaces : Nat := 3
def F.fettlelaw5_LineJoins : Nat := 4
def F.fettlelaw5_LineTells : Nat := 5
def F.fettlelaw5_LineForms : Nat := 6
def F.fettlelaw5_LineLong : Nat := 7
def F.fettlelaw21_OptnBack : Nat := 8
def F.fettlelaw21_OptnTells : Nat := 9
def F.fettlelaw21_OptnForms : Nat := 10
def F.fettlelaw4_NameForms : Nat := 11
def F.fettlelaw4_NameBack : Nat := 12
def F.fettlelaw4_NameTells : Nat := 13
def F.fettlelaw5_awake : Nat := 14
def F.fettlelaw5_Text : Nat := 15
def F.line_Split : Nat := 16
def F.fettleref4_SameLines : Nat := 17
def F.fettleref4_Split : Nat := 18
def F.fettlelaw21_OptnBack_c1 : Nat := 19
def F.optn_Print : Nat := 20
def F.optn_Parse : Nat := 21
def F.fettlelaw21_same : Nat := 22
def F.fettlelaw21_awake : Nat := 23
def F.fettleref10_Options : Nat := 24
def F.name_Of : Nat := 25
def F.name_Ok : Nat := 26
def F.name_File : Nat := 27
def F.fettlelaw4_awake : Nat := 28
def F.name_Temp : Nat := 29
def F.fettleref4_Temp : Nat := 30
def F.fettleref4_Of : Nat := 31
def F.fettleref4_Ok : Nat := 32
def F.fettleref4_File : Nat := 33
def F.name_Claim : Nat := 34
def F.strings_Split : Nat := 35
def F.line_words : Nat := 36
def F.fettleref4_sign : Nat := 37
def F.fettleref4_quoted : Nat := 38
def F.fettleref4_fault : Nat := 39
def F.slices_ContainsFunc_sl_string_string : Nat := 40
def F.optn_Print_c1 : Nat := 41
def F.strings_Join : Nat := 42
def F.slices_Clone_sl_string_string : Nat := 43
def F.fettleref1_SameTexts : Nat := 44
def F.strings_CutPrefix : Nat := 45
def F.strconv_Atoi : Nat := 46
def F.name_letter : Nat := 47
def F.strings_Cut : Nat := 48
def F.name_Temp_c1 : Nat := 49
def F.strconv_Itoa : Nat := 50
def F.fettleref4_Dec : Nat := 51
def F.fettleref4_Number : Nat := 52
def F.strings_genSplit : Nat := 53
def F.line_blank : Nat := 54
def F.line_scan_next : Nat := 55
def F.slices_IndexFunc_sl_string_string : Nat := 56
def F.strings_Builder_Grow : Nat := 57
def F.strings_Builder_WriteString : Nat := 58
def F.strings_Builder_String : Nat := 59
def F.internal_stringslite_CutPrefix : Nat := 60
def F.internal_strconv_Atoi : Nat := 61
def F.strconv_toError : Nat := 62
def F.internal_stringslite_Cut : Nat := 63
def F.internal_strconv_Itoa : Nat := 64
def F.strings_explode : Nat := 65
def F.strings_Count : Nat := 66
def F.strings_Index : Nat := 67
def F.line_scan_quote : Nat := 68
def F.line_sign : Nat := 69
def F.line_scan_word : Nat := 70
def F.line_scan_run : Nat := 71
def F.strings_Builder_copyCheck : Nat := 72
def F.strings_Builder_grow : Nat := 73
def F.internal_stringslite_HasPrefix : Nat := 74
def F.internal_strconv_ParseInt : Nat := 75
def F.strconv_syntaxError : Nat := 76
def F.strconv_rangeError : Nat := 77
def F.strconv_baseError : Nat := 78
def F.strconv_bitSizeError : Nat := 79
def F.internal_stringslite_Index : Nat := 80
def F.internal_strconv_FormatInt : Nat := 81
def F.unicode_utf8_RuneCountInString : Nat := 82
def F.unicode_utf8_DecodeRuneInString : Nat := 83
def F.internal_bytealg_CountString : Nat := 84
def F.strings_IndexByte : Nat := 85
def F.line_scan_fault : Nat := 86
def F.line_plain : Nat := 87
def F.line_loose : Nat := 88
def F.internal_abi_NoEscape : Nat := 89
def F.internal_bytealg_MakeNoZero : Nat := 90
def F.internal_strconv_ParseUint : Nat := 91
def F.internal_stringslite_Clone : Nat := 92
def F.errors_New : Nat := 93
def F.internal_stringslite_IndexByte : Nat := 94
def F.internal_bytealg_IndexString : Nat := 95
def F.internal_bytealg_Cutover : Nat := 96
def F.internal_bytealg_IndexRabinKarp_string : Nat := 97
def F.internal_strconv_small : Nat := 98
def F.internal_strconv_numDigits : Nat := 99
def F.internal_strconv_formatBase10 : Nat := 100
def F.internal_strconv_formatBits : Nat := 101
def F.unicode_utf8_decodeRuneInStringSlow : Nat := 102
def F.internal_strconv_lower : Nat := 103
def F.internal_strconv_underscoreOK : Nat := 104
def F.internal_bytealg_IndexByteString : Nat := 105
def F.internal_bytealg_hashStr_string : Nat := 106
def F.internal_strconv_log10Pow2 : Nat := 107
def F.math_bits_Len64 : Nat := 108
def F.internal_strconv_bool2_int : Nat := 109
def F.internal_strconv_isPowerOfTwo : Nat := 110
def F.math_bits_TrailingZeros : Nat := 111
def F.math_bits_TrailingZeros32 : Nat := 112
def F.math_bits_TrailingZeros64 : Nat := 113
def F.runtime_boundsError_Error : Nat := 114
def F.runtime_boundsError_RuntimeError : Nat := 115
def F.runtime_errorString_Error : Nat := 116
def F.runtime_errorString_RuntimeError : Nat := 117
def F.runtime_plainError_Error : Nat := 118
def F.runtime_plainError_RuntimeError : Nat := 119
def F.runtime_errorAddressString_Error : Nat := 120
def F.runtime_errorAddressString_RuntimeError : Nat := 121
def F.runtime_TypeAssertionError_Error : Nat := 122
def F.runtime_TypeAssertionError_RuntimeError : Nat := 123
def F.runtime_PanicNilError_Error : Nat := 124
def F.runtime_PanicNilError_RuntimeError : Nat := 125
def F.internal_abi_Type_Align : Nat := 126
def F.internal_runtime_maps_unhashableTypeError_Error : Nat := 127
def F.internal_runtime_maps_unhashableTypeError_RuntimeError : Nat := 128
def F.strings_Builder_Reset : Nat := 129
def F.internal_strconv_Error_Error : Nat := 130
def F.strconv_NumError_Error : Nat := 131
def F.errors_errorString_Error : Nat := 132
def F.internal_abi_Kind_String : Nat := 133
def F.var_s_door_gosem_cut_vars_holds_initialisers_alone_see_the_manifest_s_row_cutvarsword_look_11_test_files_too : Nat := 134
def F.var_s_door_internal_strconv_uint64pow10_is_laid_by_its_own_initialiser_plain_data_look_11 : Nat := 135
def F.var_s_door_math_bits_deBruijn32tab_is_laid_by_its_own_initialiser_plain_data_look_11 : Nat := 136
def F.var_s_door_math_bits_deBruijn64tab_is_laid_by_its_own_initialiser_plain_data_look_11 : Nat := 137
def F.var_s_door_strconv_ErrRange_is_laid_by_its_own_call_of_errors_New_on_one_literal_look_11 : Nat := 138
def F.var_s_door_strconv_ErrSyntax_is_laid_by_its_own_call_of_errors_New_on_one_literal_look_11 : Nat := 139
def F.var_s_door_the_look_of_gosem_cut_vars_went_over_the_folder_that_the_caller_named_as_the_repository_s_root_look_11 : Nat := 140
def F.var_s_door_unicode_utf8_acceptRanges_is_laid_by_its_own_initialiser_plain_data_look_11 : Nat := 141
def F.var_s_door_unicode_utf8_first_is_laid_by_its_text_alone_pinned_1 : Nat := 142
def F.gosem_cut_vars : Nat := 143
def Ty.anon : Nat := 0
def Ty.func_t : Nat := 1
def Ty.int64 : Nat := 2
def Ty.int : Nat := 3
def Ty.bool : Nat := 4
def Ty.uint8 : Nat := 5
def Ty.abi_BoundsErrorCode : Nat := 6
def Ty.struct_x_int64_y_int_signed_bool_code_abi_BoundsErrorCode : Nat := 7
def Ty.runtime_boundsError : Nat := 8
def Ty.string : Nat := 9
def Ty.runtime_errorString : Nat := 10
def Ty.runtime_plainError : Nat := 11
def Ty.uintptr : Nat := 12
def Ty.struct_msg_string_addr_uintptr : Nat := 13
def Ty.runtime_errorAddressString : Nat := 14
def Ty.p_runtime_TypeAssertionError : Nat := 15
def Ty.p_runtime_PanicNilError : Nat := 16
def Ty.p_abi_Type : Nat := 17
def Ty.struct_typ_p_abi_Type : Nat := 18
def Ty.maps_unhashableTypeError : Nat := 19
def Ty.interface : Nat := 20
def Ty.int32 : Nat := 21
def Ty.sl_uint8 : Nat := 22
def Ty.sl_int : Nat := 23
def Ty.func_bool : Nat := 24
def Ty.func_sl_int_sl_uint8 : Nat := 25
def Ty.sl_sl_uint8 : Nat := 26
def Ty.sl_sl_api_Word : Nat := 27
def Ty.struct_Kind_int_Line_int_Col_int : Nat := 28
def Ty.api_Fault : Nat := 29
def Ty.sl_sl_api_Word_api_Fault : Nat := 30
def Ty.func_sl_uint8_sl_sl_api_Word_api_Fault : Nat := 31
def Ty.sl_api_Word : Nat := 32
def Ty.struct_Text_string_Line_int_Col_int_Quoted_bool : Nat := 33
def Ty.api_Word : Nat := 34
def Ty.func_sl_uint8_sl_int_bool : Nat := 35
def Ty.func_sl_sl_api_Word_sl_sl_api_Word_bool : Nat := 36
def Ty.struct_s_string_lines_int_n_int_e_api_Fault : Nat := 37
def Ty.sl_struct_s_string_lines_int_n_int_e_api_Fault : Nat := 38
def Ty.func_int_bool : Nat := 39
def Ty.func_int_bool_int_bool : Nat := 40
def Ty.sl_string : Nat := 41
def Ty.struct_Dry_bool_Fast_bool_Clean_bool_Names_sl_string : Nat := 42
def Ty.api_Options : Nat := 43
def Ty.uint : Nat := 44
def Ty.func_int_api_Options : Nat := 45
def Ty.func_api_Options_string : Nat := 46
def Ty.api_Options_bool : Nat := 47
def Ty.func_string_api_Options_bool : Nat := 48
def Ty.func_api_Options_api_Options_bool : Nat := 49
def Ty.func_int_int_bool : Nat := 50
def Ty.func_api_Options_sl_uint8_sl_int_bool : Nat := 51
def Ty.struct_s_string_ok_bool : Nat := 52
def Ty.sl_struct_s_string_ok_bool : Nat := 53
def Ty.struct_s_string_ok_bool_file_bool_temp_bool : Nat := 54
def Ty.sl_struct_s_string_ok_bool_file_bool_temp_bool : Nat := 55
def Ty.int_int_bool : Nat := 56
def Ty.func_string_int_int_bool : Nat := 57
def Ty.func_string_bool : Nat := 58
def Ty.func_int_int_int_string : Nat := 59
def Ty.func_int_int_int_int_bool : Nat := 60
def Ty.func_string_string : Nat := 61
def Ty.func_sl_uint8_sl_int_int_int_int_bool : Nat := 62
def Ty.func_string_string_sl_string : Nat := 63
def Ty.sl_api_Word_api_Fault : Nat := 64
def Ty.func_string_int_sl_api_Word_api_Fault : Nat := 65
def Ty.func_uint8_bool : Nat := 66
def Ty.api_Word_int_int_int : Nat := 67
def Ty.func_sl_uint8_int_api_Word_api_Word_int_int_int : Nat := 68
def Ty.func_int_int_int_api_Fault : Nat := 69
def Ty.func_sl_string_func_string_bool_bool : Nat := 70
def Ty.func_sl_string_string_string : Nat := 71
def Ty.func_sl_string_sl_string : Nat := 72
def Ty.func_sl_string_sl_string_bool : Nat := 73
def Ty.string_bool : Nat := 74
def Ty.func_string_string_string_bool : Nat := 75
def Ty.a3_int : Nat := 76
def Ty.interface_Error_string : Nat := 77
def Ty.error_t : Nat := 78
def Ty.int_error : Nat := 79
def Ty.func_string_int_error : Nat := 80
def Ty.string_string_bool : Nat := 81
def Ty.func_string_string_string_string_bool : Nat := 82
def Ty.func_int_string : Nat := 83
def Ty.func_int_int_string : Nat := 84
def Ty.int_bool : Nat := 85
def Ty.func_string_int_int_bool_x : Nat := 86
def Ty.func_string_string_int_int_sl_string : Nat := 87
def Ty.p_line_scan : Nat := 88
def Ty.struct_s_string_line_int_at_int : Nat := 89
def Ty.line_scan : Nat := 90
def Ty.api_Word_api_Fault : Nat := 91
def Ty.func_api_Word_api_Fault : Nat := 92
def Ty.func_sl_string_func_string_bool_int : Nat := 93
def Ty.p_strings_Builder : Nat := 94
def Ty.struct_addr_p_strings_Builder_buf_sl_uint8 : Nat := 95
def Ty.strings_Builder : Nat := 96
def Ty.func_int : Nat := 97
def Ty.func_string : Nat := 98
def Ty.func_string_string_int_int_error_error : Nat := 99
def Ty.func_string_int_sl_string : Nat := 100
def Ty.func_string_string_int : Nat := 101
def Ty.func_string_int_bool_api_Word : Nat := 102
def Ty.p_uint8 : Nat := 103
def Ty.func_string_string_bool : Nat := 104
def Ty.strconv_Error : Nat := 105
def Ty.int64_error : Nat := 106
def Ty.func_string_int_int_int64_error : Nat := 107
def Ty.p_strconv_NumError : Nat := 108
def Ty.func_string_string_p_strconv_NumError : Nat := 109
def Ty.func_string_string_int_p_strconv_NumError : Nat := 110
def Ty.func_int64_int_string : Nat := 111
def Ty.func_string_int : Nat := 112
def Ty.int32_int : Nat := 113
def Ty.func_string_int32_int : Nat := 114
def Ty.func_string_uint8_int : Nat := 115
def Ty.func_int_int_api_Fault : Nat := 116
def Ty.unsafe_Pointer : Nat := 117
def Ty.func_unsafe_Pointer_unsafe_Pointer : Nat := 118
def Ty.func_int_sl_uint8 : Nat := 119
def Ty.uint64 : Nat := 120
def Ty.uint64_error : Nat := 121
def Ty.func_string_int_int_uint64_error : Nat := 122
def Ty.struct_Func_string_Num_string_Err_error : Nat := 123
def Ty.strconv_NumError : Nat := 124
def Ty.func_string_error : Nat := 125
def Ty.func_int_int : Nat := 126
def Ty.a24_uint8 : Nat := 127
def Ty.func_uint64_int : Nat := 128
def Ty.func_sl_uint8_uint64 : Nat := 129
def Ty.sl_uint8_string : Nat := 130
def Ty.func_sl_uint8_uint64_int_bool_bool_sl_uint8_string : Nat := 131
def Ty.func_uint8_uint8 : Nat := 132
def Ty.p_errors_errorString : Nat := 133
def Ty.struct_s_string : Nat := 134
def Ty.errors_errorString : Nat := 135
def Ty.uint32 : Nat := 136
def Ty.uint32_uint32 : Nat := 137
def Ty.func_string_uint32_uint32 : Nat := 138
def Ty.func_bool_int : Nat := 139
def Ty.a20_uint64 : Nat := 140
def Ty.a65_uint8 : Nat := 141
def Ty.func_uint_int : Nat := 142
def Ty.a256_uint8 : Nat := 143
def Ty.struct_lo_uint8_hi_uint8 : Nat := 144
def Ty.utf8_acceptRange : Nat := 145
def Ty.a16_utf8_acceptRange : Nat := 146
def Ty.func_uint32_int : Nat := 147
def Ty.a32_uint8 : Nat := 148
def Ty.a64_uint8 : Nat := 149
def Ty.struct_interface_p_abi_Type_concrete_p_abi_Type_asserted_p_abi_Type_missingMethod_string : Nat := 150
def Ty.runtime_TypeAssertionError : Nat := 151
def Ty.a0_p_runtime_PanicNilError : Nat := 152
def Ty.struct_0_p_runtime_PanicNilError : Nat := 153
def Ty.runtime_PanicNilError : Nat := 154
def Ty.func_int_x : Nat := 155
def Ty.abi_TFlag : Nat := 156
def Ty.abi_Kind : Nat := 157
def Ty.func_unsafe_Pointer_unsafe_Pointer_bool : Nat := 158
def Ty.abi_NameOff : Nat := 159
def Ty.abi_TypeOff : Nat := 160
def Ty.struct_Size_uintptr_PtrBytes_uintptr_Hash_uint32_TFlag_abi_TFlag_Align_uint8_FieldAlign_uint8_Kind_abi_Kind_Equal_func_unsafe_Pointer_unsafe_Pointer_bool_GCData_p_uint8_Str_abi_NameOff_PtrToThis_abi_TypeOff : Nat := 161
def Ty.abi_Type : Nat := 162
theorem U.func_t : Tryd.prog.underlying Ty.func_t = some (.func #[] #[] false) := by kernel_rfl
theorem U.int64 : Tryd.prog.underlying Ty.int64 = some (.int .i64) := by kernel_rfl
theorem U.int : Tryd.prog.underlying Ty.int = some (.int .i64) := by kernel_rfl
theorem U.bool : Tryd.prog.underlying Ty.bool = some .bool := by kernel_rfl
theorem U.uint8 : Tryd.prog.underlying Ty.uint8 = some (.int .u8) := by kernel_rfl
theorem U.abi_BoundsErrorCode : Tryd.prog.underlying Ty.abi_BoundsErrorCode = some (.int .u8) := by kernel_rfl
theorem U.string : Tryd.prog.underlying Ty.string = some .string := by kernel_rfl
theorem U.runtime_errorString : Tryd.prog.underlying Ty.runtime_errorString = some .string := by kernel_rfl
theorem U.runtime_plainError : Tryd.prog.underlying Ty.runtime_plainError = some .string := by kernel_rfl
theorem U.uintptr : Tryd.prog.underlying Ty.uintptr = some (.int .u64) := by kernel_rfl
theorem U.p_runtime_TypeAssertionError : Tryd.prog.underlying Ty.p_runtime_TypeAssertionError = some (.pointer Ty.runtime_TypeAssertionError) := by kernel_rfl
theorem U.p_runtime_PanicNilError : Tryd.prog.underlying Ty.p_runtime_PanicNilError = some (.pointer Ty.runtime_PanicNilError) := by kernel_rfl
theorem U.p_abi_Type : Tryd.prog.underlying Ty.p_abi_Type = some (.pointer Ty.abi_Type) := by kernel_rfl
theorem U.int32 : Tryd.prog.underlying Ty.int32 = some (.int .i32) := by kernel_rfl
theorem U.sl_uint8 : Tryd.prog.underlying Ty.sl_uint8 = some (.slice Ty.uint8) := by kernel_rfl
theorem U.sl_int : Tryd.prog.underlying Ty.sl_int = some (.slice Ty.int) := by kernel_rfl
theorem U.func_bool : Tryd.prog.underlying Ty.func_bool = some (.func #[] #[4] false) := by kernel_rfl
theorem U.func_sl_int_sl_uint8 : Tryd.prog.underlying Ty.func_sl_int_sl_uint8 = some (.func #[23] #[22] false) := by kernel_rfl
theorem U.sl_sl_uint8 : Tryd.prog.underlying Ty.sl_sl_uint8 = some (.slice Ty.sl_uint8) := by kernel_rfl
theorem U.sl_sl_api_Word : Tryd.prog.underlying Ty.sl_sl_api_Word = some (.slice Ty.sl_api_Word) := by kernel_rfl
theorem U.func_sl_uint8_sl_sl_api_Word_api_Fault : Tryd.prog.underlying Ty.func_sl_uint8_sl_sl_api_Word_api_Fault = some (.func #[22] #[27, 29] false) := by kernel_rfl
theorem U.sl_api_Word : Tryd.prog.underlying Ty.sl_api_Word = some (.slice Ty.api_Word) := by kernel_rfl
theorem U.func_sl_uint8_sl_int_bool : Tryd.prog.underlying Ty.func_sl_uint8_sl_int_bool = some (.func #[22, 23] #[4] false) := by kernel_rfl
theorem U.func_sl_sl_api_Word_sl_sl_api_Word_bool : Tryd.prog.underlying Ty.func_sl_sl_api_Word_sl_sl_api_Word_bool = some (.func #[27, 27] #[4] false) := by kernel_rfl
theorem U.sl_struct_s_string_lines_int_n_int_e_api_Fault : Tryd.prog.underlying Ty.sl_struct_s_string_lines_int_n_int_e_api_Fault = some (.slice Ty.struct_s_string_lines_int_n_int_e_api_Fault) := by kernel_rfl
theorem U.func_int_bool : Tryd.prog.underlying Ty.func_int_bool = some (.func #[3] #[4] false) := by kernel_rfl
theorem U.func_int_bool_int_bool : Tryd.prog.underlying Ty.func_int_bool_int_bool = some (.func #[3, 4, 3] #[4] false) := by kernel_rfl
theorem U.sl_string : Tryd.prog.underlying Ty.sl_string = some (.slice Ty.string) := by kernel_rfl
theorem U.uint : Tryd.prog.underlying Ty.uint = some (.int .u64) := by kernel_rfl
theorem U.func_int_api_Options : Tryd.prog.underlying Ty.func_int_api_Options = some (.func #[3] #[43] false) := by kernel_rfl
theorem U.func_api_Options_string : Tryd.prog.underlying Ty.func_api_Options_string = some (.func #[43] #[9] false) := by kernel_rfl
theorem U.func_string_api_Options_bool : Tryd.prog.underlying Ty.func_string_api_Options_bool = some (.func #[9] #[43, 4] false) := by kernel_rfl
theorem U.func_api_Options_api_Options_bool : Tryd.prog.underlying Ty.func_api_Options_api_Options_bool = some (.func #[43, 43] #[4] false) := by kernel_rfl
theorem U.func_int_int_bool : Tryd.prog.underlying Ty.func_int_int_bool = some (.func #[3, 3] #[4] false) := by kernel_rfl
theorem U.func_api_Options_sl_uint8_sl_int_bool : Tryd.prog.underlying Ty.func_api_Options_sl_uint8_sl_int_bool = some (.func #[43, 22, 23] #[4] false) := by kernel_rfl
theorem U.sl_struct_s_string_ok_bool : Tryd.prog.underlying Ty.sl_struct_s_string_ok_bool = some (.slice Ty.struct_s_string_ok_bool) := by kernel_rfl
theorem U.sl_struct_s_string_ok_bool_file_bool_temp_bool : Tryd.prog.underlying Ty.sl_struct_s_string_ok_bool_file_bool_temp_bool = some (.slice Ty.struct_s_string_ok_bool_file_bool_temp_bool) := by kernel_rfl
theorem U.func_string_int_int_bool : Tryd.prog.underlying Ty.func_string_int_int_bool = some (.func #[9] #[3, 3, 4] false) := by kernel_rfl
theorem U.func_string_bool : Tryd.prog.underlying Ty.func_string_bool = some (.func #[9] #[4] false) := by kernel_rfl
theorem U.func_int_int_int_string : Tryd.prog.underlying Ty.func_int_int_int_string = some (.func #[3, 3, 3] #[9] false) := by kernel_rfl
theorem U.func_int_int_int_int_bool : Tryd.prog.underlying Ty.func_int_int_int_int_bool = some (.func #[3, 3, 3, 3] #[4] false) := by kernel_rfl
theorem U.func_string_string : Tryd.prog.underlying Ty.func_string_string = some (.func #[9] #[9] false) := by kernel_rfl
theorem U.func_sl_uint8_sl_int_int_int_int_bool : Tryd.prog.underlying Ty.func_sl_uint8_sl_int_int_int_int_bool = some (.func #[22, 23, 3, 3, 3] #[4] false) := by kernel_rfl
theorem U.func_string_string_sl_string : Tryd.prog.underlying Ty.func_string_string_sl_string = some (.func #[9, 9] #[41] false) := by kernel_rfl
theorem U.func_string_int_sl_api_Word_api_Fault : Tryd.prog.underlying Ty.func_string_int_sl_api_Word_api_Fault = some (.func #[9, 3] #[32, 29] false) := by kernel_rfl
theorem U.func_uint8_bool : Tryd.prog.underlying Ty.func_uint8_bool = some (.func #[5] #[4] false) := by kernel_rfl
theorem U.func_sl_uint8_int_api_Word_api_Word_int_int_int : Tryd.prog.underlying Ty.func_sl_uint8_int_api_Word_api_Word_int_int_int = some (.func #[22, 3, 34] #[34, 3, 3, 3] false) := by kernel_rfl
theorem U.func_int_int_int_api_Fault : Tryd.prog.underlying Ty.func_int_int_int_api_Fault = some (.func #[3, 3, 3] #[29] false) := by kernel_rfl
theorem U.func_sl_string_func_string_bool_bool : Tryd.prog.underlying Ty.func_sl_string_func_string_bool_bool = some (.func #[41, 58] #[4] false) := by kernel_rfl
theorem U.func_sl_string_string_string : Tryd.prog.underlying Ty.func_sl_string_string_string = some (.func #[41, 9] #[9] false) := by kernel_rfl
theorem U.func_sl_string_sl_string : Tryd.prog.underlying Ty.func_sl_string_sl_string = some (.func #[41] #[41] false) := by kernel_rfl
theorem U.func_sl_string_sl_string_bool : Tryd.prog.underlying Ty.func_sl_string_sl_string_bool = some (.func #[41, 41] #[4] false) := by kernel_rfl
theorem U.func_string_string_string_bool : Tryd.prog.underlying Ty.func_string_string_string_bool = some (.func #[9, 9] #[9, 4] false) := by kernel_rfl
theorem U.func_string_int_error : Tryd.prog.underlying Ty.func_string_int_error = some (.func #[9] #[3, 78] false) := by kernel_rfl
theorem U.func_string_string_string_string_bool : Tryd.prog.underlying Ty.func_string_string_string_string_bool = some (.func #[9, 9] #[9, 9, 4] false) := by kernel_rfl
theorem U.func_int_string : Tryd.prog.underlying Ty.func_int_string = some (.func #[3] #[9] false) := by kernel_rfl
theorem U.func_int_int_string : Tryd.prog.underlying Ty.func_int_int_string = some (.func #[3, 3] #[9] false) := by kernel_rfl
theorem U.func_string_int_int_bool_x : Tryd.prog.underlying Ty.func_string_int_int_bool_x = some (.func #[9, 3] #[3, 4] false) := by kernel_rfl
theorem U.func_string_string_int_int_sl_string : Tryd.prog.underlying Ty.func_string_string_int_int_sl_string = some (.func #[9, 9, 3, 3] #[41] false) := by kernel_rfl
theorem U.p_line_scan : Tryd.prog.underlying Ty.p_line_scan = some (.pointer Ty.line_scan) := by kernel_rfl
theorem U.func_api_Word_api_Fault : Tryd.prog.underlying Ty.func_api_Word_api_Fault = some (.func #[] #[34, 29] false) := by kernel_rfl
theorem U.func_sl_string_func_string_bool_int : Tryd.prog.underlying Ty.func_sl_string_func_string_bool_int = some (.func #[41, 58] #[3] false) := by kernel_rfl
theorem U.p_strings_Builder : Tryd.prog.underlying Ty.p_strings_Builder = some (.pointer Ty.strings_Builder) := by kernel_rfl
theorem U.func_int : Tryd.prog.underlying Ty.func_int = some (.func #[3] #[] false) := by kernel_rfl
theorem U.func_string : Tryd.prog.underlying Ty.func_string = some (.func #[] #[9] false) := by kernel_rfl
theorem U.func_string_string_int_int_error_error : Tryd.prog.underlying Ty.func_string_string_int_int_error_error = some (.func #[9, 9, 3, 3, 78] #[78] false) := by kernel_rfl
theorem U.func_string_int_sl_string : Tryd.prog.underlying Ty.func_string_int_sl_string = some (.func #[9, 3] #[41] false) := by kernel_rfl
theorem U.func_string_string_int : Tryd.prog.underlying Ty.func_string_string_int = some (.func #[9, 9] #[3] false) := by kernel_rfl
theorem U.func_string_int_bool_api_Word : Tryd.prog.underlying Ty.func_string_int_bool_api_Word = some (.func #[9, 3, 4] #[34] false) := by kernel_rfl
theorem U.p_uint8 : Tryd.prog.underlying Ty.p_uint8 = some (.pointer Ty.uint8) := by kernel_rfl
theorem U.func_string_string_bool : Tryd.prog.underlying Ty.func_string_string_bool = some (.func #[9, 9] #[4] false) := by kernel_rfl
theorem U.strconv_Error : Tryd.prog.underlying Ty.strconv_Error = some (.int .i64) := by kernel_rfl
theorem U.func_string_int_int_int64_error : Tryd.prog.underlying Ty.func_string_int_int_int64_error = some (.func #[9, 3, 3] #[2, 78] false) := by kernel_rfl
theorem U.p_strconv_NumError : Tryd.prog.underlying Ty.p_strconv_NumError = some (.pointer Ty.strconv_NumError) := by kernel_rfl
theorem U.func_string_string_p_strconv_NumError : Tryd.prog.underlying Ty.func_string_string_p_strconv_NumError = some (.func #[9, 9] #[108] false) := by kernel_rfl
theorem U.func_string_string_int_p_strconv_NumError : Tryd.prog.underlying Ty.func_string_string_int_p_strconv_NumError = some (.func #[9, 9, 3] #[108] false) := by kernel_rfl
theorem U.func_int64_int_string : Tryd.prog.underlying Ty.func_int64_int_string = some (.func #[2, 3] #[9] false) := by kernel_rfl
theorem U.func_string_int : Tryd.prog.underlying Ty.func_string_int = some (.func #[9] #[3] false) := by kernel_rfl
theorem U.func_string_int32_int : Tryd.prog.underlying Ty.func_string_int32_int = some (.func #[9] #[21, 3] false) := by kernel_rfl
theorem U.func_string_uint8_int : Tryd.prog.underlying Ty.func_string_uint8_int = some (.func #[9, 5] #[3] false) := by kernel_rfl
theorem U.func_int_int_api_Fault : Tryd.prog.underlying Ty.func_int_int_api_Fault = some (.func #[3, 3] #[29] false) := by kernel_rfl
theorem U.func_unsafe_Pointer_unsafe_Pointer : Tryd.prog.underlying Ty.func_unsafe_Pointer_unsafe_Pointer = some (.func #[117] #[117] false) := by kernel_rfl
theorem U.func_int_sl_uint8 : Tryd.prog.underlying Ty.func_int_sl_uint8 = some (.func #[3] #[22] false) := by kernel_rfl
theorem U.uint64 : Tryd.prog.underlying Ty.uint64 = some (.int .u64) := by kernel_rfl
theorem U.func_string_int_int_uint64_error : Tryd.prog.underlying Ty.func_string_int_int_uint64_error = some (.func #[9, 3, 3] #[120, 78] false) := by kernel_rfl
theorem U.func_string_error : Tryd.prog.underlying Ty.func_string_error = some (.func #[9] #[78] false) := by kernel_rfl
theorem U.func_int_int : Tryd.prog.underlying Ty.func_int_int = some (.func #[3] #[3] false) := by kernel_rfl
theorem U.func_uint64_int : Tryd.prog.underlying Ty.func_uint64_int = some (.func #[120] #[3] false) := by kernel_rfl
theorem U.func_sl_uint8_uint64 : Tryd.prog.underlying Ty.func_sl_uint8_uint64 = some (.func #[22, 120] #[] false) := by kernel_rfl
theorem U.func_sl_uint8_uint64_int_bool_bool_sl_uint8_string : Tryd.prog.underlying Ty.func_sl_uint8_uint64_int_bool_bool_sl_uint8_string = some (.func #[22, 120, 3, 4, 4] #[22, 9] false) := by kernel_rfl
theorem U.func_uint8_uint8 : Tryd.prog.underlying Ty.func_uint8_uint8 = some (.func #[5] #[5] false) := by kernel_rfl
theorem U.p_errors_errorString : Tryd.prog.underlying Ty.p_errors_errorString = some (.pointer Ty.errors_errorString) := by kernel_rfl
theorem U.uint32 : Tryd.prog.underlying Ty.uint32 = some (.int .u32) := by kernel_rfl
theorem U.func_string_uint32_uint32 : Tryd.prog.underlying Ty.func_string_uint32_uint32 = some (.func #[9] #[136, 136] false) := by kernel_rfl
theorem U.func_bool_int : Tryd.prog.underlying Ty.func_bool_int = some (.func #[4] #[3] false) := by kernel_rfl
theorem U.func_uint_int : Tryd.prog.underlying Ty.func_uint_int = some (.func #[44] #[3] false) := by kernel_rfl
theorem U.func_uint32_int : Tryd.prog.underlying Ty.func_uint32_int = some (.func #[136] #[3] false) := by kernel_rfl
theorem U.func_int_x : Tryd.prog.underlying Ty.func_int_x = some (.func #[] #[3] false) := by kernel_rfl
theorem U.abi_TFlag : Tryd.prog.underlying Ty.abi_TFlag = some (.int .u8) := by kernel_rfl
theorem U.abi_Kind : Tryd.prog.underlying Ty.abi_Kind = some (.int .u8) := by kernel_rfl
theorem U.func_unsafe_Pointer_unsafe_Pointer_bool : Tryd.prog.underlying Ty.func_unsafe_Pointer_unsafe_Pointer_bool = some (.func #[117, 117] #[4] false) := by kernel_rfl
theorem U.abi_NameOff : Tryd.prog.underlying Ty.abi_NameOff = some (.int .i32) := by kernel_rfl
theorem U.abi_TypeOff : Tryd.prog.underlying Ty.abi_TypeOff = some (.int .i32) := by kernel_rfl
def Ex : Ext := fun f => bif Nat.beq f F.fettlelaw5_awake then some yes0 else bif Nat.beq f F.fettlelaw4_awake then some yes0 else bif Nat.beq f F.fettlelaw21_awake then some yes0 else bif Nat.beq f F.internal_bytealg_IndexByteString then some ixbX else bif Nat.beq f F.internal_bytealg_CountString then some cntX else bif Nat.beq f F.strconv_Itoa then some itoaB else bif Nat.beq f F.strconv_Atoi then some atoiB else bif Nat.beq f F.strings_Join then some joinB else none
abbrev R (f : FuncId) (args : Array Value) (M : Store) (Q : Value → Store → Prop) : Prop := Runs Tryd.prog Ex f args M Q
abbrev KC (f : Value) (args : List Value) (M : Store) (Q : Value → Store → Prop) : Prop := kcall Tryd.prog Ex f args M Q
end Go.G
