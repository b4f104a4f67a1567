/- Names of the program's functions and types; what a call comes to. -/
import Derived.Test.YtpacolplhcfamaaProg
import Derived.Test.YtpacolplhcfamaaPKD
import Derived.Test.YtpacolplhcfamaaPKE
import Derived.Test.YtpacolplhcfamaaPXS
import Derived.KernelRfl
namespace Go.G
open Go.Ab Go.Proofs
def F.main_main : Nat := 0
def F.gosem_cut : Nat := 1
def F.gosem_cut_init : Nat := 2
def F.fettlelaw10_PrntLong : Nat := 3
def F.fettlelaw10_PrntOwn : Nat := 4
def F.fettlelaw10_PrntTells : Nat := 5
def F.fettlelaw10_PrntApart : Nat := 6
def F.fettlelaw15_SourSteps : Nat := 7
def F.fettlelaw15_SourOwn : Nat := 8
def F.fettlelaw15_SourMoment : Nat := 9
def F.fettlelaw15_SourMisses : Nat := 10
def F.fettlelaw25_HistParts : Nat := 11
def F.fettlelaw25_HistLast : Nat := 12
def F.fettlelaw25_HistTells : Nat := 13
def F.fettlelaw16_NeedLater : Nat := 14
def F.fettlelaw16_NeedOwn : Nat := 15
def F.fettlelaw16_NeedPhony : Nat := 16
def F.fettlelaw16_NeedTells : Nat := 17
def F.prnt_Print : Nat := 18
def F.prnt_Parse : Nat := 19
def F.prnt_Value : Nat := 20
def F.fettleref1_SameRows : Nat := 21
def F.fettlelaw10_awake : Nat := 22
def F.fettlelaw6_Act : Nat := 23
def F.fettleref10_Print : Nat := 24
def F.fettleref10_Parse : Nat := 25
def F.fettleref10_Value : Nat := 26
def F.fettleref4_SameAct : Nat := 27
def F.fettleref4_Run : Nat := 28
def F.simf_New : Nat := 29
def F.simf_FS_Put : Nat := 30
def F.sour_New : Nat := 31
def F.fettlelaw15_made : Nat := 32
def F.sour_Read_Step : Nat := 33
def F.sour_Read_Values : Nat := 34
def F.sour_Read_Stamps : Nat := 35
def F.fettlelaw15_awake : Nat := 36
def F.fettleref1_SameInts : Nat := 37
def F.fettlelaw15_write : Nat := 38
def F.fettlelaw15_value : Nat := 39
def F.simf_FS_Stamp : Nat := 40
def F.fettleref10_Make : Nat := 41
def F.hist_Honest : Nat := 42
def F.hist_Within : Nat := 43
def F.fettlelaw25_Commit : Nat := 44
def F.fettlelaw25_awake : Nat := 45
def F.hist_Last : Nat := 46
def F.fettleref10_Open : Nat := 47
def F.fettleref10_Within : Nat := 48
def F.fettleref10_Last : Nat := 49
def F.fettleref10_Honest : Nat := 50
def F.fettlelaw16_awake : Nat := 51
def F.fettlelaw16_Rule : Nat := 52
def F.need_New : Nat := 53
def F.fettlelaw16_made : Nat := 54
def F.need_Ask_Step : Nat := 55
def F.need_Ask_Prints : Nat := 56
def F.need_Ask_Values : Nat := 57
def F.fettlelaw16_ask : Nat := 58
def F.need_Ask_Old : Nat := 59
def F.code_Num : Nat := 60
def F.code_Bytes : Nat := 61
def F.acts_Bytes : Nat := 62
def F.code_Read : Nat := 63
def F.prnt_action : Nat := 64
def F.code_Reader_Bytes : Nat := 65
def F.code_Reader_Num : Nat := 66
def F.code_Reader_End : Nat := 67
def F.bytes_Equal : Nat := 68
def F.acts_Run : Nat := 69
def F.fettleref1_Num : Nat := 70
def F.fettleref1_Bytes : Nat := 71
def F.fettleref4_ActBytes : Nat := 72
def F.fettleref10_act : Nat := 73
def F.fettleref1_Reader_Bytes : Nat := 74
def F.fettleref1_Reader_Num : Nat := 75
def F.fettleref1_Reader_End : Nat := 76
def F.fettleref4_OkAct : Nat := 77
def F.fettleref4_changed : Nat := 78
def F.simf_FS_Room : Nat := 79
def F.name_File : Nat := 80
def F.simf_FS_fits : Nat := 81
def F.simf_FS_write : Nat := 82
def F.slices_Clone_sl_byte_byte : Nat := 83
def F.slices_Clone_sl_string_string : Nat := 84
def F.sour_Read_end : Nat := 85
def F.sour_Read_look : Nat := 86
def F.sour_Read_read : Nat := 87
def F.sour_Read_all : Nat := 88
def F.slices_Clip_sl_sl_byte_sl_byte : Nat := 89
def F.slices_Clone_sl_int_int : Nat := 90
def F.simf_FS_Read : Nat := 91
def F.fettleref1_Put : Nat := 92
def F.arti_Open : Nat := 93
def F.hist_tells : Nat := 94
def F.fettleref10_whole : Nat := 95
def F.need_Still : Nat := 96
def F.need_Ask_end : Nat := 97
def F.need_Ask_inputs : Nat := 98
def F.need_Ask_output : Nat := 99
def F.need_Ask_tells : Nat := 100
def F.need_still : Nat := 101
def F.slices_Clone_sl_bool_bool : Nat := 102
def F.slices_Clip_sl_byte_byte : Nat := 103
def F.acts_Ok : Nat := 104
def F.code_Reader_fail : Nat := 105
def F.acts_step : Nat := 106
def F.fettleref4_plain : Nat := 107
def F.strings_Cut : Nat := 108
def F.name_Ok : Nat := 109
def F.sour_Read_begin : Nat := 110
def F.fettleref1_Sum : Nat := 111
def F.fram_Scan : Nat := 112
def F.fettleref1_Scan : Nat := 113
def F.slices_Clone_sl_api_Do_api_Do : Nat := 114
def F.need_Ask_settled : Nat := 115
def F.acts_right : Nat := 116
def F.acts_begins : Nat := 117
def F.bytes_Join : Nat := 118
def F.acts_turned : Nat := 119
def F.slices_Reverse_sl_byte_byte : Nat := 120
def F.slices_Concat_sl_byte_byte : Nat := 121
def F.acts_joined : Nat := 122
def F.internal_stringslite_Cut : Nat := 123
def F.name_letter : Nat := 124
def F.fram_All : Nat := 125
def F.fettleref1_frame : Nat := 126
def F.slices_Contains_sl_bool_bool : Nat := 127
def F.acts_text : Nat := 128
def F.acts_fits : Nat := 129
def F.acts_top : Nat := 130
def F.internal_bytealg_MakeNoZero : Nat := 131
def F.slices_Grow_sl_byte_byte : Nat := 132
def F.internal_stringslite_Index : Nat := 133
def F.fram_All_c1 : Nat := 134
def F.fram_one : Nat := 135
def F.slices_Index_sl_bool_bool : Nat := 136
def F.internal_stringslite_IndexByte : Nat := 137
def F.internal_bytealg_IndexString : Nat := 138
def F.internal_bytealg_Cutover : Nat := 139
def F.internal_bytealg_IndexRabinKarp_string : Nat := 140
def F.code_Reader_Ok : Nat := 141
def F.slices_Equal_sl_byte_byte : Nat := 142
def F.fram_sum : Nat := 143
def F.internal_bytealg_IndexByteString : Nat := 144
def F.internal_bytealg_hashStr_string : Nat := 145
def F.crcs_Sum : Nat := 146
def F.runtime_boundsError_Error : Nat := 147
def F.runtime_boundsError_RuntimeError : Nat := 148
def F.runtime_errorString_Error : Nat := 149
def F.runtime_errorString_RuntimeError : Nat := 150
def F.runtime_plainError_Error : Nat := 151
def F.runtime_plainError_RuntimeError : Nat := 152
def F.runtime_errorAddressString_Error : Nat := 153
def F.runtime_errorAddressString_RuntimeError : Nat := 154
def F.runtime_TypeAssertionError_Error : Nat := 155
def F.runtime_TypeAssertionError_RuntimeError : Nat := 156
def F.runtime_PanicNilError_Error : Nat := 157
def F.runtime_PanicNilError_RuntimeError : Nat := 158
def F.internal_abi_Type_Align : Nat := 159
def F.internal_runtime_maps_unhashableTypeError_Error : Nat := 160
def F.internal_runtime_maps_unhashableTypeError_RuntimeError : Nat := 161
def F.simf_FS_Cut : Nat := 162
def F.api_Errno_Error : Nat := 163
def F.internal_abi_Kind_String : Nat := 164
def Ty.anon : Nat := 0
def Ty.func_t : Nat := 1
def Ty.int64 : Nat := 2
def Ty.int : Nat := 3
def Ty.bool : Nat := 4
def Ty.uint8 : Nat := 5
def Ty.abi_BoundsErrorCode : Nat := 6
def Ty.struct_x_int64_y_int_signed_bool_code_abi_BoundsErrorCode : Nat := 7
def Ty.runtime_boundsError : Nat := 8
def Ty.string : Nat := 9
def Ty.runtime_errorString : Nat := 10
def Ty.runtime_plainError : Nat := 11
def Ty.uintptr : Nat := 12
def Ty.struct_msg_string_addr_uintptr : Nat := 13
def Ty.runtime_errorAddressString : Nat := 14
def Ty.p_runtime_TypeAssertionError : Nat := 15
def Ty.p_runtime_PanicNilError : Nat := 16
def Ty.p_abi_Type : Nat := 17
def Ty.struct_typ_p_abi_Type : Nat := 18
def Ty.maps_unhashableTypeError : Nat := 19
def Ty.interface : Nat := 20
def Ty.int32 : Nat := 21
def Ty.sl_sl_uint8 : Nat := 22
def Ty.sl_uint8 : Nat := 23
def Ty.func_sl_api_Do_sl_sl_uint8_sl_uint8 : Nat := 24
def Ty.struct_Kind_int_N_int_Text_string : Nat := 25
def Ty.api_Do : Nat := 26
def Ty.sl_api_Do : Nat := 27
def Ty.sl_api_Do_sl_sl_uint8_bool : Nat := 28
def Ty.func_sl_uint8_sl_api_Do_sl_sl_uint8_bool : Nat := 29
def Ty.sl_uint8_bool : Nat := 30
def Ty.func_sl_uint8_sl_uint8_bool : Nat := 31
def Ty.func_sl_sl_uint8_sl_sl_uint8_bool : Nat := 32
def Ty.func_bool : Nat := 33
def Ty.func_int_int_bool : Nat := 34
def Ty.sl_int : Nat := 35
def Ty.func_sl_int_sl_api_Do : Nat := 36
def Ty.func_sl_int_sl_sl_uint8_bool : Nat := 37
def Ty.func_sl_api_Do_sl_api_Do_bool : Nat := 38
def Ty.func_sl_api_Do_sl_int_sl_sl_uint8_sl_uint8_int_uint8_bool : Nat := 39
def Ty.uint : Nat := 40
def Ty.func_sl_api_Do_sl_sl_uint8_sl_uint8_bool : Nat := 41
def Ty.func_sl_int_sl_int_sl_sl_uint8_int_bool_bool : Nat := 42
def Ty.p_simf_FS : Nat := 43
def Ty.func_int_p_simf_FS : Nat := 44
def Ty.sl_string : Nat := 45
def Ty.api_Errno : Nat := 46
def Ty.int_api_Errno : Nat := 47
def Ty.func_string_sl_uint8_int_api_Errno : Nat := 48
def Ty.p_sour_Read : Nat := 49
def Ty.func_sl_string_func_string_bool_p_sour_Read : Nat := 50
def Ty.func_string_bool : Nat := 51
def Ty.func_p_simf_FS_int : Nat := 52
def Ty.sl_sl_uint8_bool : Nat := 53
def Ty.func_sl_sl_uint8_bool : Nat := 54
def Ty.func_sl_int : Nat := 55
def Ty.func_sl_int_sl_int_bool : Nat := 56
def Ty.func_sl_uint8_sl_uint8_bool_x : Nat := 57
def Ty.func_p_simf_FS_string_int : Nat := 58
def Ty.sl_sl_sl_uint8 : Nat := 59
def Ty.func_p_simf_FS_string_sl_uint8 : Nat := 60
def Ty.func_string_int : Nat := 61
def Ty.func_int_bool : Nat := 62
def Ty.sl_api_Commit : Nat := 63
def Ty.sl_api_Done : Nat := 64
def Ty.func_sl_uint8_sl_uint8_sl_uint8 : Nat := 65
def Ty.struct_Who_int_Target_string_Bytes_sl_uint8_Drop_bool : Nat := 66
def Ty.api_Commit : Nat := 67
def Ty.struct_Target_string_Who_int_Inc_int_Print_sl_uint8 : Nat := 68
def Ty.api_Done : Nat := 69
def Ty.func_sl_api_Commit_bool : Nat := 70
def Ty.func_sl_api_Done_sl_api_Commit_bool : Nat := 71
def Ty.func_int_api_Commit : Nat := 72
def Ty.func_sl_int_int_int_int_bool : Nat := 73
def Ty.func_sl_api_Commit_string_sl_uint8_bool : Nat := 74
def Ty.func_sl_int_int_bool : Nat := 75
def Ty.sl_uint8_sl_uint8_bool : Nat := 76
def Ty.func_sl_uint8_sl_uint8_sl_uint8_bool : Nat := 77
def Ty.sl_sl_api_Done : Nat := 78
def Ty.sl_sl_api_Commit : Nat := 79
def Ty.func_sl_int_sl_int_sl_uint8_bool : Nat := 80
def Ty.sl_sl_api_Do : Nat := 81
def Ty.struct_Outs_sl_string_Ins_sl_string_Order_sl_string_Acts_sl_sl_api_Do_Phony_bool : Nat := 82
def Ty.api_Rule : Nat := 83
def Ty.func_api_Rule : Nat := 84
def Ty.p_need_Ask : Nat := 85
def Ty.func_api_Rule_func_string_bool_p_need_Ask : Nat := 86
def Ty.func_sl_sl_uint8 : Nat := 87
def Ty.func_sl_uint8_sl_uint8_int_bool : Nat := 88
def Ty.func_p_simf_FS_p_need_Ask_int : Nat := 89
def Ty.sl_bool : Nat := 90
def Ty.func_sl_bool : Nat := 91
def Ty.func_sl_uint8_bool : Nat := 92
def Ty.func_sl_int_bool_bool : Nat := 93
def Ty.a2_bool : Nat := 94
def Ty.func_sl_uint8_int_bool : Nat := 95
def Ty.func_sl_uint8_int_sl_uint8 : Nat := 96
def Ty.func_sl_api_Do_sl_uint8 : Nat := 97
def Ty.p_code_Reader : Nat := 98
def Ty.func_sl_uint8_p_code_Reader : Nat := 99
def Ty.sl_api_Do_bool : Nat := 100
def Ty.func_sl_uint8_sl_api_Do_bool : Nat := 101
def Ty.func_int_sl_uint8 : Nat := 102
def Ty.func_int_int : Nat := 103
def Ty.p_fettleref1_Reader : Nat := 104
def Ty.struct_B_sl_uint8_Bad_bool : Nat := 105
def Ty.fettleref1_Reader : Nat := 106
def Ty.func_sl_api_Do_bool : Nat := 107
def Ty.func_api_Do_sl_uint8_sl_sl_uint8_sl_uint8_bool : Nat := 108
def Ty.map_string_simf_file : Nat := 109
def Ty.struct_room_int_used_int_last_int_cuts_bool_cut_int_l_map_string_simf_file : Nat := 110
def Ty.simf_FS : Nat := 111
def Ty.func_int : Nat := 112
def Ty.func_string_int_bool : Nat := 113
def Ty.func_string_sl_uint8_int : Nat := 114
def Ty.func_sl_uint8_sl_uint8 : Nat := 115
def Ty.func_sl_string_sl_string : Nat := 116
def Ty.struct_names_sl_string_made_func_string_bool_looks_bool_i_int_values_sl_sl_uint8_stamps_sl_int_over_bool_told_int : Nat := 117
def Ty.sour_Read : Nat := 118
def Ty.func_sl_sl_uint8_sl_sl_uint8 : Nat := 119
def Ty.func_sl_int_sl_int : Nat := 120
def Ty.sl_uint8_int_api_Errno : Nat := 121
def Ty.func_string_sl_uint8_int_api_Errno_x : Nat := 122
def Ty.struct_b_sl_uint8_stamp_int : Nat := 123
def Ty.simf_file : Nat := 124
def Ty.func_api_Done_api_Commit_bool : Nat := 125
def Ty.func_api_Rule_api_Rule : Nat := 126
def Ty.struct_r_api_Rule_s_p_sour_Read_known_bool_prints_sl_sl_uint8_values_sl_sl_uint8_old_sl_bool_over_bool_told_int : Nat := 127
def Ty.need_Ask : Nat := 128
def Ty.func_sl_bool_sl_bool : Nat := 129
def Ty.struct_b_sl_uint8_bad_bool : Nat := 130
def Ty.code_Reader : Nat := 131
def Ty.func_api_Do_sl_sl_uint8_sl_uint8_sl_uint8_bool : Nat := 132
def Ty.string_string_bool : Nat := 133
def Ty.func_string_string_string_string_bool : Nat := 134
def Ty.func_int_x : Nat := 135
def Ty.simf_file_bool : Nat := 136
def Ty.uint32 : Nat := 137
def Ty.func_sl_uint8_uint32 : Nat := 138
def Ty.sl_sl_uint8_int : Nat := 139
def Ty.func_sl_uint8_sl_sl_uint8_int : Nat := 140
def Ty.func_sl_api_Do_sl_api_Do : Nat := 141
def Ty.func_api_Do_bool : Nat := 142
def Ty.func_sl_sl_uint8_sl_uint8_sl_uint8 : Nat := 143
def Ty.func_sl_uint8_uint8_uint8_int_sl_uint8 : Nat := 144
def Ty.func_sl_uint8 : Nat := 145
def Ty.func_sl_uint8_sl_uint8_x : Nat := 146
def Ty.func_sl_uint8_string_sl_uint8 : Nat := 147
def Ty.func_uint8_bool : Nat := 148
def Ty.func_func_int_sl_uint8_bool : Nat := 149
def Ty.iter_Seq2_int_sl_uint8 : Nat := 150
def Ty.func_sl_uint8_iter_Seq2_int_sl_uint8 : Nat := 151
def Ty.sl_uint8_int_bool : Nat := 152
def Ty.func_sl_uint8_int_sl_uint8_int_bool : Nat := 153
def Ty.func_sl_bool_bool_bool : Nat := 154
def Ty.func_string_string_int : Nat := 155
def Ty.func_int_sl_uint8_bool : Nat := 156
def Ty.func_sl_uint8_sl_uint8_int_bool_x : Nat := 157
def Ty.func_sl_bool_bool_int : Nat := 158
def Ty.func_string_uint8_int : Nat := 159
def Ty.uint32_uint32 : Nat := 160
def Ty.func_string_uint32_uint32 : Nat := 161
def Ty.func_string : Nat := 162
def Ty.struct_interface_p_abi_Type_concrete_p_abi_Type_asserted_p_abi_Type_missingMethod_string : Nat := 163
def Ty.runtime_TypeAssertionError : Nat := 164
def Ty.a0_p_runtime_PanicNilError : Nat := 165
def Ty.struct_0_p_runtime_PanicNilError : Nat := 166
def Ty.runtime_PanicNilError : Nat := 167
def Ty.abi_TFlag : Nat := 168
def Ty.abi_Kind : Nat := 169
def Ty.func_unsafe_Pointer_unsafe_Pointer_bool : Nat := 170
def Ty.p_uint8 : Nat := 171
def Ty.abi_NameOff : Nat := 172
def Ty.abi_TypeOff : Nat := 173
def Ty.struct_Size_uintptr_PtrBytes_uintptr_Hash_uint32_TFlag_abi_TFlag_Align_uint8_FieldAlign_uint8_Kind_abi_Kind_Equal_func_unsafe_Pointer_unsafe_Pointer_bool_GCData_p_uint8_Str_abi_NameOff_PtrToThis_abi_TypeOff : Nat := 174
def Ty.abi_Type : Nat := 175
def Ty.unsafe_Pointer : Nat := 176
theorem U.func_t : Try.prog.underlying Ty.func_t = some (.func #[] #[] false) := by kernel_rfl
theorem U.int64 : Try.prog.underlying Ty.int64 = some (.int .i64) := by kernel_rfl
theorem U.int : Try.prog.underlying Ty.int = some (.int .i64) := by kernel_rfl
theorem U.bool : Try.prog.underlying Ty.bool = some .bool := by kernel_rfl
theorem U.uint8 : Try.prog.underlying Ty.uint8 = some (.int .u8) := by kernel_rfl
theorem U.abi_BoundsErrorCode : Try.prog.underlying Ty.abi_BoundsErrorCode = some (.int .u8) := by kernel_rfl
theorem U.string : Try.prog.underlying Ty.string = some .string := by kernel_rfl
theorem U.runtime_errorString : Try.prog.underlying Ty.runtime_errorString = some .string := by kernel_rfl
theorem U.runtime_plainError : Try.prog.underlying Ty.runtime_plainError = some .string := by kernel_rfl
theorem U.uintptr : Try.prog.underlying Ty.uintptr = some (.int .u64) := by kernel_rfl
theorem U.p_runtime_TypeAssertionError : Try.prog.underlying Ty.p_runtime_TypeAssertionError = some (.pointer Ty.runtime_TypeAssertionError) := by kernel_rfl
theorem U.p_runtime_PanicNilError : Try.prog.underlying Ty.p_runtime_PanicNilError = some (.pointer Ty.runtime_PanicNilError) := by kernel_rfl
theorem U.p_abi_Type : Try.prog.underlying Ty.p_abi_Type = some (.pointer Ty.abi_Type) := by kernel_rfl
theorem U.int32 : Try.prog.underlying Ty.int32 = some (.int .i32) := by kernel_rfl
theorem U.sl_sl_uint8 : Try.prog.underlying Ty.sl_sl_uint8 = some (.slice Ty.sl_uint8) := by kernel_rfl
theorem U.sl_uint8 : Try.prog.underlying Ty.sl_uint8 = some (.slice Ty.uint8) := by kernel_rfl
theorem U.func_sl_api_Do_sl_sl_uint8_sl_uint8 : Try.prog.underlying Ty.func_sl_api_Do_sl_sl_uint8_sl_uint8 = some (.func #[27, 22] #[23] false) := by kernel_rfl
theorem U.sl_api_Do : Try.prog.underlying Ty.sl_api_Do = some (.slice Ty.api_Do) := by kernel_rfl
theorem U.func_sl_uint8_sl_api_Do_sl_sl_uint8_bool : Try.prog.underlying Ty.func_sl_uint8_sl_api_Do_sl_sl_uint8_bool = some (.func #[23] #[27, 22, 4] false) := by kernel_rfl
theorem U.func_sl_uint8_sl_uint8_bool : Try.prog.underlying Ty.func_sl_uint8_sl_uint8_bool = some (.func #[23] #[23, 4] false) := by kernel_rfl
theorem U.func_sl_sl_uint8_sl_sl_uint8_bool : Try.prog.underlying Ty.func_sl_sl_uint8_sl_sl_uint8_bool = some (.func #[22, 22] #[4] false) := by kernel_rfl
theorem U.func_bool : Try.prog.underlying Ty.func_bool = some (.func #[] #[4] false) := by kernel_rfl
theorem U.func_int_int_bool : Try.prog.underlying Ty.func_int_int_bool = some (.func #[3, 3] #[4] false) := by kernel_rfl
theorem U.sl_int : Try.prog.underlying Ty.sl_int = some (.slice Ty.int) := by kernel_rfl
theorem U.func_sl_int_sl_api_Do : Try.prog.underlying Ty.func_sl_int_sl_api_Do = some (.func #[35] #[27] false) := by kernel_rfl
theorem U.func_sl_int_sl_sl_uint8_bool : Try.prog.underlying Ty.func_sl_int_sl_sl_uint8_bool = some (.func #[35, 22] #[4] false) := by kernel_rfl
theorem U.func_sl_api_Do_sl_api_Do_bool : Try.prog.underlying Ty.func_sl_api_Do_sl_api_Do_bool = some (.func #[27, 27] #[4] false) := by kernel_rfl
theorem U.func_sl_api_Do_sl_int_sl_sl_uint8_sl_uint8_int_uint8_bool : Try.prog.underlying Ty.func_sl_api_Do_sl_int_sl_sl_uint8_sl_uint8_int_uint8_bool = some (.func #[27, 35, 22, 23, 3, 5] #[4] false) := by kernel_rfl
theorem U.uint : Try.prog.underlying Ty.uint = some (.int .u64) := by kernel_rfl
theorem U.func_sl_api_Do_sl_sl_uint8_sl_uint8_bool : Try.prog.underlying Ty.func_sl_api_Do_sl_sl_uint8_sl_uint8_bool = some (.func #[27, 22] #[23, 4] false) := by kernel_rfl
theorem U.func_sl_int_sl_int_sl_sl_uint8_int_bool_bool : Try.prog.underlying Ty.func_sl_int_sl_int_sl_sl_uint8_int_bool_bool = some (.func #[35, 35, 22, 3, 4] #[4] false) := by kernel_rfl
theorem U.p_simf_FS : Try.prog.underlying Ty.p_simf_FS = some (.pointer Ty.simf_FS) := by kernel_rfl
theorem U.func_int_p_simf_FS : Try.prog.underlying Ty.func_int_p_simf_FS = some (.func #[3] #[43] false) := by kernel_rfl
theorem U.sl_string : Try.prog.underlying Ty.sl_string = some (.slice Ty.string) := by kernel_rfl
theorem U.api_Errno : Try.prog.underlying Ty.api_Errno = some (.int .i64) := by kernel_rfl
theorem U.func_string_sl_uint8_int_api_Errno : Try.prog.underlying Ty.func_string_sl_uint8_int_api_Errno = some (.func #[9, 23] #[3, 46] false) := by kernel_rfl
theorem U.p_sour_Read : Try.prog.underlying Ty.p_sour_Read = some (.pointer Ty.sour_Read) := by kernel_rfl
theorem U.func_sl_string_func_string_bool_p_sour_Read : Try.prog.underlying Ty.func_sl_string_func_string_bool_p_sour_Read = some (.func #[45, 51] #[49] false) := by kernel_rfl
theorem U.func_string_bool : Try.prog.underlying Ty.func_string_bool = some (.func #[9] #[4] false) := by kernel_rfl
theorem U.func_p_simf_FS_int : Try.prog.underlying Ty.func_p_simf_FS_int = some (.func #[43] #[3] false) := by kernel_rfl
theorem U.func_sl_sl_uint8_bool : Try.prog.underlying Ty.func_sl_sl_uint8_bool = some (.func #[] #[22, 4] false) := by kernel_rfl
theorem U.func_sl_int : Try.prog.underlying Ty.func_sl_int = some (.func #[] #[35] false) := by kernel_rfl
theorem U.func_sl_int_sl_int_bool : Try.prog.underlying Ty.func_sl_int_sl_int_bool = some (.func #[35, 35] #[4] false) := by kernel_rfl
theorem U.func_sl_uint8_sl_uint8_bool_x : Try.prog.underlying Ty.func_sl_uint8_sl_uint8_bool_x = some (.func #[23, 23] #[4] false) := by kernel_rfl
theorem U.func_p_simf_FS_string_int : Try.prog.underlying Ty.func_p_simf_FS_string_int = some (.func #[43, 9, 3] #[] false) := by kernel_rfl
theorem U.sl_sl_sl_uint8 : Try.prog.underlying Ty.sl_sl_sl_uint8 = some (.slice Ty.sl_sl_uint8) := by kernel_rfl
theorem U.func_p_simf_FS_string_sl_uint8 : Try.prog.underlying Ty.func_p_simf_FS_string_sl_uint8 = some (.func #[43, 9] #[23] false) := by kernel_rfl
theorem U.func_string_int : Try.prog.underlying Ty.func_string_int = some (.func #[9] #[3] false) := by kernel_rfl
theorem U.func_int_bool : Try.prog.underlying Ty.func_int_bool = some (.func #[3] #[4] false) := by kernel_rfl
theorem U.sl_api_Commit : Try.prog.underlying Ty.sl_api_Commit = some (.slice Ty.api_Commit) := by kernel_rfl
theorem U.sl_api_Done : Try.prog.underlying Ty.sl_api_Done = some (.slice Ty.api_Done) := by kernel_rfl
theorem U.func_sl_uint8_sl_uint8_sl_uint8 : Try.prog.underlying Ty.func_sl_uint8_sl_uint8_sl_uint8 = some (.func #[23, 23] #[23] false) := by kernel_rfl
theorem U.func_sl_api_Commit_bool : Try.prog.underlying Ty.func_sl_api_Commit_bool = some (.func #[63] #[4] false) := by kernel_rfl
theorem U.func_sl_api_Done_sl_api_Commit_bool : Try.prog.underlying Ty.func_sl_api_Done_sl_api_Commit_bool = some (.func #[64, 63] #[4] false) := by kernel_rfl
theorem U.func_int_api_Commit : Try.prog.underlying Ty.func_int_api_Commit = some (.func #[3] #[67] false) := by kernel_rfl
theorem U.func_sl_int_int_int_int_bool : Try.prog.underlying Ty.func_sl_int_int_int_int_bool = some (.func #[35, 3, 3, 3] #[4] false) := by kernel_rfl
theorem U.func_sl_api_Commit_string_sl_uint8_bool : Try.prog.underlying Ty.func_sl_api_Commit_string_sl_uint8_bool = some (.func #[63, 9] #[23, 4] false) := by kernel_rfl
theorem U.func_sl_int_int_bool : Try.prog.underlying Ty.func_sl_int_int_bool = some (.func #[35, 3] #[4] false) := by kernel_rfl
theorem U.func_sl_uint8_sl_uint8_sl_uint8_bool : Try.prog.underlying Ty.func_sl_uint8_sl_uint8_sl_uint8_bool = some (.func #[23] #[23, 23, 4] false) := by kernel_rfl
theorem U.sl_sl_api_Done : Try.prog.underlying Ty.sl_sl_api_Done = some (.slice Ty.sl_api_Done) := by kernel_rfl
theorem U.sl_sl_api_Commit : Try.prog.underlying Ty.sl_sl_api_Commit = some (.slice Ty.sl_api_Commit) := by kernel_rfl
theorem U.func_sl_int_sl_int_sl_uint8_bool : Try.prog.underlying Ty.func_sl_int_sl_int_sl_uint8_bool = some (.func #[35, 35, 23] #[4] false) := by kernel_rfl
theorem U.sl_sl_api_Do : Try.prog.underlying Ty.sl_sl_api_Do = some (.slice Ty.sl_api_Do) := by kernel_rfl
theorem U.func_api_Rule : Try.prog.underlying Ty.func_api_Rule = some (.func #[] #[83] false) := by kernel_rfl
theorem U.p_need_Ask : Try.prog.underlying Ty.p_need_Ask = some (.pointer Ty.need_Ask) := by kernel_rfl
theorem U.func_api_Rule_func_string_bool_p_need_Ask : Try.prog.underlying Ty.func_api_Rule_func_string_bool_p_need_Ask = some (.func #[83, 51] #[85] false) := by kernel_rfl
theorem U.func_sl_sl_uint8 : Try.prog.underlying Ty.func_sl_sl_uint8 = some (.func #[] #[22] false) := by kernel_rfl
theorem U.func_sl_uint8_sl_uint8_int_bool : Try.prog.underlying Ty.func_sl_uint8_sl_uint8_int_bool = some (.func #[23, 23, 3] #[4] false) := by kernel_rfl
theorem U.func_p_simf_FS_p_need_Ask_int : Try.prog.underlying Ty.func_p_simf_FS_p_need_Ask_int = some (.func #[43, 85] #[3] false) := by kernel_rfl
theorem U.sl_bool : Try.prog.underlying Ty.sl_bool = some (.slice Ty.bool) := by kernel_rfl
theorem U.func_sl_bool : Try.prog.underlying Ty.func_sl_bool = some (.func #[] #[90] false) := by kernel_rfl
theorem U.func_sl_uint8_bool : Try.prog.underlying Ty.func_sl_uint8_bool = some (.func #[23] #[4] false) := by kernel_rfl
theorem U.func_sl_int_bool_bool : Try.prog.underlying Ty.func_sl_int_bool_bool = some (.func #[35, 4] #[4] false) := by kernel_rfl
theorem U.func_sl_uint8_int_bool : Try.prog.underlying Ty.func_sl_uint8_int_bool = some (.func #[23, 3] #[4] false) := by kernel_rfl
theorem U.func_sl_uint8_int_sl_uint8 : Try.prog.underlying Ty.func_sl_uint8_int_sl_uint8 = some (.func #[23, 3] #[23] false) := by kernel_rfl
theorem U.func_sl_api_Do_sl_uint8 : Try.prog.underlying Ty.func_sl_api_Do_sl_uint8 = some (.func #[27] #[23] false) := by kernel_rfl
theorem U.p_code_Reader : Try.prog.underlying Ty.p_code_Reader = some (.pointer Ty.code_Reader) := by kernel_rfl
theorem U.func_sl_uint8_p_code_Reader : Try.prog.underlying Ty.func_sl_uint8_p_code_Reader = some (.func #[23] #[98] false) := by kernel_rfl
theorem U.func_sl_uint8_sl_api_Do_bool : Try.prog.underlying Ty.func_sl_uint8_sl_api_Do_bool = some (.func #[23] #[27, 4] false) := by kernel_rfl
theorem U.func_int_sl_uint8 : Try.prog.underlying Ty.func_int_sl_uint8 = some (.func #[3] #[23] false) := by kernel_rfl
theorem U.func_int_int : Try.prog.underlying Ty.func_int_int = some (.func #[3] #[3] false) := by kernel_rfl
theorem U.p_fettleref1_Reader : Try.prog.underlying Ty.p_fettleref1_Reader = some (.pointer Ty.fettleref1_Reader) := by kernel_rfl
theorem U.func_sl_api_Do_bool : Try.prog.underlying Ty.func_sl_api_Do_bool = some (.func #[27] #[4] false) := by kernel_rfl
theorem U.func_api_Do_sl_uint8_sl_sl_uint8_sl_uint8_bool : Try.prog.underlying Ty.func_api_Do_sl_uint8_sl_sl_uint8_sl_uint8_bool = some (.func #[26, 23, 22] #[23, 4] false) := by kernel_rfl
theorem U.func_int : Try.prog.underlying Ty.func_int = some (.func #[3] #[] false) := by kernel_rfl
theorem U.func_string_int_bool : Try.prog.underlying Ty.func_string_int_bool = some (.func #[9, 3] #[4] false) := by kernel_rfl
theorem U.func_string_sl_uint8_int : Try.prog.underlying Ty.func_string_sl_uint8_int = some (.func #[9, 23] #[3] false) := by kernel_rfl
theorem U.func_sl_uint8_sl_uint8 : Try.prog.underlying Ty.func_sl_uint8_sl_uint8 = some (.func #[23] #[23] false) := by kernel_rfl
theorem U.func_sl_string_sl_string : Try.prog.underlying Ty.func_sl_string_sl_string = some (.func #[45] #[45] false) := by kernel_rfl
theorem U.func_sl_sl_uint8_sl_sl_uint8 : Try.prog.underlying Ty.func_sl_sl_uint8_sl_sl_uint8 = some (.func #[22] #[22] false) := by kernel_rfl
theorem U.func_sl_int_sl_int : Try.prog.underlying Ty.func_sl_int_sl_int = some (.func #[35] #[35] false) := by kernel_rfl
theorem U.func_string_sl_uint8_int_api_Errno_x : Try.prog.underlying Ty.func_string_sl_uint8_int_api_Errno_x = some (.func #[9] #[23, 3, 46] false) := by kernel_rfl
theorem U.func_api_Done_api_Commit_bool : Try.prog.underlying Ty.func_api_Done_api_Commit_bool = some (.func #[69, 67] #[4] false) := by kernel_rfl
theorem U.func_api_Rule_api_Rule : Try.prog.underlying Ty.func_api_Rule_api_Rule = some (.func #[83] #[83] false) := by kernel_rfl
theorem U.func_sl_bool_sl_bool : Try.prog.underlying Ty.func_sl_bool_sl_bool = some (.func #[90] #[90] false) := by kernel_rfl
theorem U.func_api_Do_sl_sl_uint8_sl_uint8_sl_uint8_bool : Try.prog.underlying Ty.func_api_Do_sl_sl_uint8_sl_uint8_sl_uint8_bool = some (.func #[26, 22, 23] #[23, 4] false) := by kernel_rfl
theorem U.func_string_string_string_string_bool : Try.prog.underlying Ty.func_string_string_string_string_bool = some (.func #[9, 9] #[9, 9, 4] false) := by kernel_rfl
theorem U.func_int_x : Try.prog.underlying Ty.func_int_x = some (.func #[] #[3] false) := by kernel_rfl
theorem U.uint32 : Try.prog.underlying Ty.uint32 = some (.int .u32) := by kernel_rfl
theorem U.func_sl_uint8_uint32 : Try.prog.underlying Ty.func_sl_uint8_uint32 = some (.func #[23] #[137] false) := by kernel_rfl
theorem U.func_sl_uint8_sl_sl_uint8_int : Try.prog.underlying Ty.func_sl_uint8_sl_sl_uint8_int = some (.func #[23] #[22, 3] false) := by kernel_rfl
theorem U.func_sl_api_Do_sl_api_Do : Try.prog.underlying Ty.func_sl_api_Do_sl_api_Do = some (.func #[27] #[27] false) := by kernel_rfl
theorem U.func_api_Do_bool : Try.prog.underlying Ty.func_api_Do_bool = some (.func #[26] #[4] false) := by kernel_rfl
theorem U.func_sl_sl_uint8_sl_uint8_sl_uint8 : Try.prog.underlying Ty.func_sl_sl_uint8_sl_uint8_sl_uint8 = some (.func #[22, 23] #[23] false) := by kernel_rfl
theorem U.func_sl_uint8_uint8_uint8_int_sl_uint8 : Try.prog.underlying Ty.func_sl_uint8_uint8_uint8_int_sl_uint8 = some (.func #[23, 5, 5, 3] #[23] false) := by kernel_rfl
theorem U.func_sl_uint8 : Try.prog.underlying Ty.func_sl_uint8 = some (.func #[23] #[] false) := by kernel_rfl
theorem U.func_sl_uint8_sl_uint8_x : Try.prog.underlying Ty.func_sl_uint8_sl_uint8_x = some (.func #[22] #[23] true) := by kernel_rfl
theorem U.func_sl_uint8_string_sl_uint8 : Try.prog.underlying Ty.func_sl_uint8_string_sl_uint8 = some (.func #[23, 9] #[23] false) := by kernel_rfl
theorem U.func_uint8_bool : Try.prog.underlying Ty.func_uint8_bool = some (.func #[5] #[4] false) := by kernel_rfl
theorem U.func_func_int_sl_uint8_bool : Try.prog.underlying Ty.func_func_int_sl_uint8_bool = some (.func #[156] #[] false) := by kernel_rfl
theorem U.iter_Seq2_int_sl_uint8 : Try.prog.underlying Ty.iter_Seq2_int_sl_uint8 = some (.func #[156] #[] false) := by kernel_rfl
theorem U.func_sl_uint8_iter_Seq2_int_sl_uint8 : Try.prog.underlying Ty.func_sl_uint8_iter_Seq2_int_sl_uint8 = some (.func #[23] #[150] false) := by kernel_rfl
theorem U.func_sl_uint8_int_sl_uint8_int_bool : Try.prog.underlying Ty.func_sl_uint8_int_sl_uint8_int_bool = some (.func #[23, 3] #[23, 3, 4] false) := by kernel_rfl
theorem U.func_sl_bool_bool_bool : Try.prog.underlying Ty.func_sl_bool_bool_bool = some (.func #[90, 4] #[4] false) := by kernel_rfl
theorem U.func_string_string_int : Try.prog.underlying Ty.func_string_string_int = some (.func #[9, 9] #[3] false) := by kernel_rfl
theorem U.func_int_sl_uint8_bool : Try.prog.underlying Ty.func_int_sl_uint8_bool = some (.func #[3, 23] #[4] false) := by kernel_rfl
theorem U.func_sl_uint8_sl_uint8_int_bool_x : Try.prog.underlying Ty.func_sl_uint8_sl_uint8_int_bool_x = some (.func #[23] #[23, 3, 4] false) := by kernel_rfl
theorem U.func_sl_bool_bool_int : Try.prog.underlying Ty.func_sl_bool_bool_int = some (.func #[90, 4] #[3] false) := by kernel_rfl
theorem U.func_string_uint8_int : Try.prog.underlying Ty.func_string_uint8_int = some (.func #[9, 5] #[3] false) := by kernel_rfl
theorem U.func_string_uint32_uint32 : Try.prog.underlying Ty.func_string_uint32_uint32 = some (.func #[9] #[137, 137] false) := by kernel_rfl
theorem U.func_string : Try.prog.underlying Ty.func_string = some (.func #[] #[9] false) := by kernel_rfl
theorem U.abi_TFlag : Try.prog.underlying Ty.abi_TFlag = some (.int .u8) := by kernel_rfl
theorem U.abi_Kind : Try.prog.underlying Ty.abi_Kind = some (.int .u8) := by kernel_rfl
theorem U.func_unsafe_Pointer_unsafe_Pointer_bool : Try.prog.underlying Ty.func_unsafe_Pointer_unsafe_Pointer_bool = some (.func #[176, 176] #[4] false) := by kernel_rfl
theorem U.p_uint8 : Try.prog.underlying Ty.p_uint8 = some (.pointer Ty.uint8) := by kernel_rfl
theorem U.abi_NameOff : Try.prog.underlying Ty.abi_NameOff = some (.int .i32) := by kernel_rfl
theorem U.abi_TypeOff : Try.prog.underlying Ty.abi_TypeOff = some (.int .i32) := by kernel_rfl
def Ex : Ext := fun f => bif Nat.beq f F.fettlelaw10_awake then some yes0 else bif Nat.beq f F.fettlelaw15_awake then some yes0 else bif Nat.beq f F.fettlelaw25_awake then some yes0 else bif Nat.beq f F.fettlelaw16_awake then some yes0 else bif Nat.beq f F.bytes_Join then some bjoinB else bif Nat.beq f F.internal_bytealg_IndexByteString then some ixbX else none
abbrev R (f : FuncId) (args : Array Value) (M : Store) (Q : Value → Store → Prop) : Prop := Runs Try.prog Ex f args M Q
abbrev KC (f : Value) (args : List Value) (M : Store) (Q : Value → Store → Prop) : Prop := kcall Try.prog Ex f args M Q
end Go.G
