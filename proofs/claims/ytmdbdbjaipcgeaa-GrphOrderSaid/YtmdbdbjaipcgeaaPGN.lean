/- Names of the program's functions and types; what a call comes to. -/
import Derived.Test.YtmdbdbjaipcgeaaProg
import Derived.Test.YtmdbdbjaipcgeaaPKD
import Derived.Test.YtmdbdbjaipcgeaaPKE
import Derived.KernelRfl
namespace Go.G
open Go.Ab Go.Proofs
def F.main_main : Nat := 0
def F.gosem_cut : Nat := 1
def F.gosem_cut_init : Nat := 2
def F.fettlelaw3_FramTells : Nat := 3
def F.fettlelaw11_ArtiForms : Nat := 4
def F.fettlelaw11_ArtiOwn : Nat := 5
def F.fettlelaw11_ArtiTells : Nat := 6
def F.fettlelaw11_ArtiTurned : Nat := 7
def F.fettlelaw8_GrphKinds : Nat := 8
def F.fettlelaw8_GrphWanted : Nat := 9
def F.fettlelaw8_GrphStable : Nat := 10
def F.fettlelaw8_GrphOrder : Nat := 11
def F.fettlelaw8_GrphReach : Nat := 12
def F.fettlelaw8_GrphRules : Nat := 13
def F.fettlelaw12_RecoForms : Nat := 14
def F.fettlelaw12_RecoTurned : Nat := 15
def F.fettlelaw12_RecoTells : Nat := 16
def F.fettlelaw12_RecoTrace : Nat := 17
def F.fettlelaw3_awake : Nat := 18
def F.fettlelaw3_Frames : Nat := 19
def F.fram_Put : Nat := 20
def F.fettleref1_Put : Nat := 21
def F.fram_Scan : Nat := 22
def F.fettleref1_Scan : Nat := 23
def F.fettleref1_SameRows : Nat := 24
def F.fram_All : Nat := 25
def F.fettlelaw11_ArtiForms_c1 : Nat := 26
def F.fettleref1_Num : Nat := 27
def F.arti_Open : Nat := 28
def F.arti_Make : Nat := 29
def F.fettlelaw11_awake : Nat := 30
def F.fettleref10_Make : Nat := 31
def F.fettleref10_Open : Nat := 32
def F.fettleref4_Dec : Nat := 33
def F.grph_Order_string : Nat := 34
def F.fettlelaw8_GrphKinds_c1 : Nat := 35
def F.grph_Order_int : Nat := 36
def F.fettlelaw8_GrphKinds_c2 : Nat := 37
def F.grph_Reach_int : Nat := 38
def F.fettlelaw8_GrphKinds_c3 : Nat := 39
def F.fettleref1_SameTexts : Nat := 40
def F.fettlelaw8_awake : Nat := 41
def F.fettleref4_Parse : Nat := 42
def F.fettlelaw7_Manifest : Nat := 43
def F.grph_Wanted : Nat := 44
def F.fettleref4_Needs : Nat := 45
def F.fettlelaw8_edges : Nat := 46
def F.fettlelaw8_GrphStable_c1 : Nat := 47
def F.fettleref1_SameInts : Nat := 48
def F.fettlelaw8_GrphOrder_c1 : Nat := 49
def F.fettlelaw8_GrphOrder_c2 : Nat := 50
def F.fettlelaw8_GrphOrder_c3 : Nat := 51
def F.fettlelaw8_GrphReach_c1 : Nat := 52
def F.grph_Rules : Nat := 53
def F.fettleref4_Rules : Nat := 54
def F.fettleref4_Wanted : Nat := 55
def F.reco_Done : Nat := 56
def F.reco_OpenDone : Nat := 57
def F.reco_OpenLock : Nat := 58
def F.reco_Lock : Nat := 59
def F.fettleref10_SameDone : Nat := 60
def F.fettlelaw12_awake : Nat := 61
def F.fettleref10_Lock : Nat := 62
def F.fettleref10_Done : Nat := 63
def F.fettlelaw12_Done : Nat := 64
def F.fettleref10_OpenLock : Nat := 65
def F.fettleref10_OpenDone : Nat := 66
def F.reco_Trace : Nat := 67
def F.fettleref10_Trace : Nat := 68
def F.fettleref10_SameDones : Nat := 69
def F.code_Bytes : Nat := 70
def F.slices_Concat_sl_byte_byte : Nat := 71
def F.fram_sum : Nat := 72
def F.fettleref1_Bytes : Nat := 73
def F.fettleref1_Sum : Nat := 74
def F.slices_Clip_sl_sl_byte_sl_byte : Nat := 75
def F.fettleref1_frame : Nat := 76
def F.slices_Clone_sl_byte_byte : Nat := 77
def F.fram_All_c1 : Nat := 78
def F.fram_one : Nat := 79
def F.code_Read : Nat := 80
def F.code_Reader_Bytes : Nat := 81
def F.code_Reader_End : Nat := 82
def F.fettleref10_whole : Nat := 83
def F.fettleref1_Reader_Bytes : Nat := 84
def F.fettleref1_Reader_End : Nat := 85
def F.grph_unlike_string : Nat := 86
def F.grph_next : Nat := 87
def F.grph_unlike_int : Nat := 88
def F.slices_Clone_sl_int_int : Nat := 89
def F.grph_Reach_int_c1 : Nat := 90
def F.fettlelaw8_awake_c1 : Nat := 91
def F.fettlelaw8_awake_c2 : Nat := 92
def F.fettlelaw8_awake_c3 : Nat := 93
def F.fettleref4_Split : Nat := 94
def F.fettleref4_parser_line : Nat := 95
def F.fettleref4_parser_out : Nat := 96
def F.fettleref4_parser_at : Nat := 97
def F.fettleref4_fault : Nat := 98
def F.grph_begin : Nat := 99
def F.grph_Ahead : Nat := 100
def F.fettleref4_has : Nat := 101
def F.reco_right : Nat := 102
def F.code_Num : Nat := 103
def F.code_Reader_Num : Nat := 104
def F.reco_alone : Nat := 105
def F.fettleref4_Ok : Nat := 106
def F.fettleref1_Reader_Num : Nat := 107
def F.reco_begins : Nat := 108
def F.slices_Grow_sl_byte_byte : Nat := 109
def F.crcs_Sum : Nat := 110
def F.code_Reader_Ok : Nat := 111
def F.slices_Equal_sl_byte_byte : Nat := 112
def F.code_Reader_fail : Nat := 113
def F.slices_ContainsFunc_sl_int_int : Nat := 114
def F.grph_next_c1 : Nat := 115
def F.fettleref4_sign : Nat := 116
def F.fettleref4_quoted : Nat := 117
def F.fettleref4_parser_put : Nat := 118
def F.fettleref4_is : Nat := 119
def F.fettleref4_parser_let : Nat := 120
def F.fettleref4_parser_rule : Nat := 121
def F.fettleref4_parser_names : Nat := 122
def F.slices_ContainsFunc_sl_string_string : Nat := 123
def F.grph_begin_c1 : Nat := 124
def F.slices_Contains_sl_string_string : Nat := 125
def F.grph_outs : Nat := 126
def F.grph_Ahead_c1 : Nat := 127
def F.slices_Concat_sl_string_string : Nat := 128
def F.name_Ok : Nat := 129
def F.reco_num : Nat := 130
def F.slices_Clip_sl_byte_byte : Nat := 131
def F.slices_IndexFunc_sl_int_int : Nat := 132
def F.fettleref4_aSign : Nat := 133
def F.fettleref4_parser_sign : Nat := 134
def F.fettleref4_parser_outs : Nat := 135
def F.fettleref4_parser_acts : Nat := 136
def F.slices_IndexFunc_sl_string_string : Nat := 137
def F.slices_Index_sl_string_string : Nat := 138
def F.slices_Grow_sl_string_string : Nat := 139
def F.name_letter : Nat := 140
def F.fettleref4_ParseAct : Nat := 141
def F.fettleref4_one : Nat := 142
def F.fettleref4_OkAct : Nat := 143
def F.fettleref4_words : Nat := 144
def F.fettleref4_Number : Nat := 145
def F.fettleref4_plain : Nat := 146
def F.runtime_boundsError_Error : Nat := 147
def F.runtime_boundsError_RuntimeError : Nat := 148
def F.runtime_errorString_Error : Nat := 149
def F.runtime_errorString_RuntimeError : Nat := 150
def F.runtime_plainError_Error : Nat := 151
def F.runtime_plainError_RuntimeError : Nat := 152
def F.runtime_errorAddressString_Error : Nat := 153
def F.runtime_errorAddressString_RuntimeError : Nat := 154
def F.runtime_TypeAssertionError_Error : Nat := 155
def F.runtime_TypeAssertionError_RuntimeError : Nat := 156
def F.runtime_PanicNilError_Error : Nat := 157
def F.runtime_PanicNilError_RuntimeError : Nat := 158
def F.internal_abi_Type_Align : Nat := 159
def F.internal_runtime_maps_unhashableTypeError_Error : Nat := 160
def F.internal_runtime_maps_unhashableTypeError_RuntimeError : Nat := 161
def F.internal_abi_Kind_String : Nat := 162
def Ty.anon : Nat := 0
def Ty.func_t : Nat := 1
def Ty.int64 : Nat := 2
def Ty.int : Nat := 3
def Ty.bool : Nat := 4
def Ty.uint8 : Nat := 5
def Ty.abi_BoundsErrorCode : Nat := 6
def Ty.struct_x_int64_y_int_signed_bool_code_abi_BoundsErrorCode : Nat := 7
def Ty.runtime_boundsError : Nat := 8
def Ty.string : Nat := 9
def Ty.runtime_errorString : Nat := 10
def Ty.runtime_plainError : Nat := 11
def Ty.uintptr : Nat := 12
def Ty.struct_msg_string_addr_uintptr : Nat := 13
def Ty.runtime_errorAddressString : Nat := 14
def Ty.p_runtime_TypeAssertionError : Nat := 15
def Ty.p_runtime_PanicNilError : Nat := 16
def Ty.p_abi_Type : Nat := 17
def Ty.struct_typ_p_abi_Type : Nat := 18
def Ty.maps_unhashableTypeError : Nat := 19
def Ty.interface : Nat := 20
def Ty.int32 : Nat := 21
def Ty.sl_uint8 : Nat := 22
def Ty.sl_sl_uint8 : Nat := 23
def Ty.func_bool : Nat := 24
def Ty.func_sl_sl_uint8_sl_uint8 : Nat := 25
def Ty.func_sl_uint8_sl_uint8_sl_uint8 : Nat := 26
def Ty.sl_sl_uint8_int : Nat := 27
def Ty.func_sl_uint8_sl_sl_uint8_int : Nat := 28
def Ty.func_sl_sl_uint8_sl_sl_uint8_bool : Nat := 29
def Ty.func_func_int_sl_uint8_bool : Nat := 30
def Ty.iter_Seq2_int_sl_uint8 : Nat := 31
def Ty.func_sl_uint8_iter_Seq2_int_sl_uint8 : Nat := 32
def Ty.func_sl_uint8_sl_sl_uint8_int_uint8_bool : Nat := 33
def Ty.func_sl_uint8_int_sl_uint8 : Nat := 34
def Ty.func_int_sl_uint8 : Nat := 35
def Ty.struct_b_sl_uint8_ok_bool : Nat := 36
def Ty.sl_struct_b_sl_uint8_ok_bool : Nat := 37
def Ty.sl_uint8_sl_uint8_bool : Nat := 38
def Ty.func_sl_uint8_sl_uint8_sl_uint8_bool : Nat := 39
def Ty.func_int_bool : Nat := 40
def Ty.func_sl_uint8_sl_uint8_sl_uint8_sl_uint8_bool : Nat := 41
def Ty.func_sl_uint8_sl_uint8_sl_uint8_int_uint8_bool : Nat := 42
def Ty.uint : Nat := 43
def Ty.func_sl_uint8_sl_uint8_int_int_bool : Nat := 44
def Ty.sl_string : Nat := 45
def Ty.func_int_string : Nat := 46
def Ty.sl_string_bool : Nat := 47
def Ty.func_sl_string_func_string_sl_string_sl_string_bool : Nat := 48
def Ty.func_string_sl_string : Nat := 49
def Ty.sl_int : Nat := 50
def Ty.sl_int_bool : Nat := 51
def Ty.func_sl_int_func_int_sl_int_sl_int_bool : Nat := 52
def Ty.func_int_sl_int : Nat := 53
def Ty.func_func_int_bool : Nat := 54
def Ty.iter_Seq_int : Nat := 55
def Ty.func_sl_int_func_int_sl_int_iter_Seq_int : Nat := 56
def Ty.func_sl_string_sl_string_bool : Nat := 57
def Ty.func_sl_string_int_bool : Nat := 58
def Ty.sl_api_Rule : Nat := 59
def Ty.struct_Rules_sl_api_Rule_Default_sl_string : Nat := 60
def Ty.api_Manifest : Nat := 61
def Ty.struct_Kind_int_Line_int_Col_int : Nat := 62
def Ty.api_Fault : Nat := 63
def Ty.api_Manifest_api_Fault : Nat := 64
def Ty.func_sl_uint8_api_Manifest_api_Fault : Nat := 65
def Ty.func_sl_int_sl_uint8 : Nat := 66
def Ty.func_api_Manifest_sl_string_sl_int : Nat := 67
def Ty.map_int_int : Nat := 68
def Ty.int_bool : Nat := 69
def Ty.map_int_bool : Nat := 70
def Ty.func_api_Manifest_int_sl_int : Nat := 71
def Ty.sl_sl_api_Do : Nat := 72
def Ty.struct_Outs_sl_string_Ins_sl_string_Order_sl_string_Acts_sl_sl_api_Do_Phony_bool : Nat := 73
def Ty.api_Rule : Nat := 74
def Ty.func_sl_int_sl_int_bool : Nat := 75
def Ty.a16_sl_int : Nat := 76
def Ty.func_sl_int_bool_16_sl_int : Nat := 77
def Ty.func_int_sl_int_bool : Nat := 78
def Ty.func_sl_int_sl_string : Nat := 79
def Ty.func_sl_int_sl_int_bool_bool : Nat := 80
def Ty.func_sl_int_sl_int_int_bool : Nat := 81
def Ty.func_api_Manifest_sl_int_bool : Nat := 82
def Ty.struct_Target_string_Who_int_Inc_int_Print_sl_uint8 : Nat := 83
def Ty.api_Done : Nat := 84
def Ty.struct_d_api_Done_ok_bool : Nat := 85
def Ty.sl_struct_d_api_Done_ok_bool : Nat := 86
def Ty.func_api_Done_sl_uint8 : Nat := 87
def Ty.api_Done_bool : Nat := 88
def Ty.func_sl_uint8_api_Done_bool : Nat := 89
def Ty.struct_Who_int_Inc_int_Epoch_int_Until_int : Nat := 90
def Ty.api_Lock : Nat := 91
def Ty.api_Lock_bool : Nat := 92
def Ty.func_sl_uint8_api_Lock_bool : Nat := 93
def Ty.func_api_Lock_sl_uint8 : Nat := 94
def Ty.func_api_Done_api_Done_bool : Nat := 95
def Ty.func_int_int_int_int_bool : Nat := 96
def Ty.func_int_api_Done : Nat := 97
def Ty.sl_api_Done : Nat := 98
def Ty.sl_api_Done_int : Nat := 99
def Ty.func_sl_uint8_sl_api_Done_int : Nat := 100
def Ty.func_sl_api_Done_sl_api_Done_bool : Nat := 101
def Ty.func_api_Lock_api_Done_sl_int_sl_uint8_int_uint8_bool : Nat := 102
def Ty.func_sl_int_int_sl_int_bool : Nat := 103
def Ty.func_sl_uint8_sl_uint8 : Nat := 104
def Ty.func_sl_uint8_sl_uint8_x : Nat := 105
def Ty.uint32 : Nat := 106
def Ty.func_sl_uint8_uint32 : Nat := 107
def Ty.func_sl_sl_uint8_sl_sl_uint8 : Nat := 108
def Ty.sl_uint8_int_bool : Nat := 109
def Ty.func_sl_uint8_int_sl_uint8_int_bool : Nat := 110
def Ty.func_int_sl_uint8_bool : Nat := 111
def Ty.func_sl_uint8_sl_uint8_int_bool : Nat := 112
def Ty.p_code_Reader : Nat := 113
def Ty.func_sl_uint8_p_code_Reader : Nat := 114
def Ty.sl_uint8_bool : Nat := 115
def Ty.func_sl_uint8_sl_uint8_bool : Nat := 116
def Ty.p_fettleref1_Reader : Nat := 117
def Ty.struct_B_sl_uint8_Bad_bool : Nat := 118
def Ty.fettleref1_Reader : Nat := 119
def Ty.func_sl_string_sl_string : Nat := 120
def Ty.map_string_int : Nat := 121
def Ty.sl_sl_int : Nat := 122
def Ty.sl_bool : Nat := 123
def Ty.func_sl_sl_int_sl_bool_int : Nat := 124
def Ty.func_sl_int_sl_int : Nat := 125
def Ty.sl_sl_api_Word : Nat := 126
def Ty.sl_sl_api_Word_api_Fault : Nat := 127
def Ty.func_sl_uint8_sl_sl_api_Word_api_Fault : Nat := 128
def Ty.p_fettleref4_parser : Nat := 129
def Ty.sl_fettleref4_let : Nat := 130
def Ty.sl_api_Word : Nat := 131
def Ty.struct_m_api_Manifest_lets_sl_fettleref4_let_def_sl_api_Word_e_api_Fault : Nat := 132
def Ty.fettleref4_parser : Nat := 133
def Ty.func_sl_api_Word : Nat := 134
def Ty.func_string_bool : Nat := 135
def Ty.struct_Text_string_Line_int_Col_int_Quoted_bool : Nat := 136
def Ty.api_Word : Nat := 137
def Ty.func_int_api_Word : Nat := 138
def Ty.func_int_int_int_api_Fault : Nat := 139
def Ty.func_api_Manifest_func_int_sl_int : Nat := 140
def Ty.func_sl_string_string_bool : Nat := 141
def Ty.func_api_Done_bool : Nat := 142
def Ty.func_int_int : Nat := 143
def Ty.func_sl_uint8_int_int : Nat := 144
def Ty.func_sl_uint8_sl_uint8_bool_x : Nat := 145
def Ty.struct_b_sl_uint8_bad_bool : Nat := 146
def Ty.code_Reader : Nat := 147
def Ty.func_sl_int_func_int_bool_bool : Nat := 148
def Ty.func_uint8_bool : Nat := 149
def Ty.api_Word_int_int_int : Nat := 150
def Ty.func_sl_uint8_int_api_Word_api_Word_int_int_int : Nat := 151
def Ty.func_sl_api_Word_sl_api_Word : Nat := 152
def Ty.func_api_Word_string_bool : Nat := 153
def Ty.func_sl_api_Word_bool : Nat := 154
def Ty.sl_string_int : Nat := 155
def Ty.func_sl_api_Word_int_int_bool_string_string_sl_string_int : Nat := 156
def Ty.func_sl_string_func_string_bool_bool : Nat := 157
def Ty.map_string_sl_int : Nat := 158
def Ty.func_api_Manifest_map_string_sl_int : Nat := 159
def Ty.func_sl_string_sl_string_x : Nat := 160
def Ty.func_sl_int_func_int_bool_int : Nat := 161
def Ty.struct_name_string_l_sl_api_Word : Nat := 162
def Ty.fettleref4_let : Nat := 163
def Ty.func_api_Word_bool : Nat := 164
def Ty.func_sl_api_Word_int_string_int : Nat := 165
def Ty.func_sl_api_Word_int_sl_string_int : Nat := 166
def Ty.func_sl_api_Word_int_int_sl_sl_api_Do : Nat := 167
def Ty.func_sl_string_func_string_bool_int : Nat := 168
def Ty.func_sl_string_string_int : Nat := 169
def Ty.sl_sl_string : Nat := 170
def Ty.func_sl_string_int_sl_string : Nat := 171
def Ty.sl_api_Do : Nat := 172
def Ty.sl_api_Do_bool : Nat := 173
def Ty.func_sl_api_Word_sl_api_Do_bool : Nat := 174
def Ty.struct_Kind_int_N_int_Text_string : Nat := 175
def Ty.api_Do : Nat := 176
def Ty.api_Do_bool : Nat := 177
def Ty.func_sl_api_Word_api_Do_bool : Nat := 178
def Ty.func_sl_api_Do_bool : Nat := 179
def Ty.func_sl_string : Nat := 180
def Ty.func_string_int_int_bool : Nat := 181
def Ty.func_string : Nat := 182
def Ty.struct_interface_p_abi_Type_concrete_p_abi_Type_asserted_p_abi_Type_missingMethod_string : Nat := 183
def Ty.runtime_TypeAssertionError : Nat := 184
def Ty.a0_p_runtime_PanicNilError : Nat := 185
def Ty.struct_0_p_runtime_PanicNilError : Nat := 186
def Ty.runtime_PanicNilError : Nat := 187
def Ty.func_int : Nat := 188
def Ty.abi_TFlag : Nat := 189
def Ty.abi_Kind : Nat := 190
def Ty.func_unsafe_Pointer_unsafe_Pointer_bool : Nat := 191
def Ty.p_uint8 : Nat := 192
def Ty.abi_NameOff : Nat := 193
def Ty.abi_TypeOff : Nat := 194
def Ty.struct_Size_uintptr_PtrBytes_uintptr_Hash_uint32_TFlag_abi_TFlag_Align_uint8_FieldAlign_uint8_Kind_abi_Kind_Equal_func_unsafe_Pointer_unsafe_Pointer_bool_GCData_p_uint8_Str_abi_NameOff_PtrToThis_abi_TypeOff : Nat := 195
def Ty.abi_Type : Nat := 196
def Ty.unsafe_Pointer : Nat := 197
theorem U.func_t : Try.prog.underlying Ty.func_t = some (.func #[] #[] false) := by kernel_rfl
theorem U.int64 : Try.prog.underlying Ty.int64 = some (.int .i64) := by kernel_rfl
theorem U.int : Try.prog.underlying Ty.int = some (.int .i64) := by kernel_rfl
theorem U.bool : Try.prog.underlying Ty.bool = some .bool := by kernel_rfl
theorem U.uint8 : Try.prog.underlying Ty.uint8 = some (.int .u8) := by kernel_rfl
theorem U.abi_BoundsErrorCode : Try.prog.underlying Ty.abi_BoundsErrorCode = some (.int .u8) := by kernel_rfl
theorem U.string : Try.prog.underlying Ty.string = some .string := by kernel_rfl
theorem U.runtime_errorString : Try.prog.underlying Ty.runtime_errorString = some .string := by kernel_rfl
theorem U.runtime_plainError : Try.prog.underlying Ty.runtime_plainError = some .string := by kernel_rfl
theorem U.uintptr : Try.prog.underlying Ty.uintptr = some (.int .u64) := by kernel_rfl
theorem U.p_runtime_TypeAssertionError : Try.prog.underlying Ty.p_runtime_TypeAssertionError = some (.pointer Ty.runtime_TypeAssertionError) := by kernel_rfl
theorem U.p_runtime_PanicNilError : Try.prog.underlying Ty.p_runtime_PanicNilError = some (.pointer Ty.runtime_PanicNilError) := by kernel_rfl
theorem U.p_abi_Type : Try.prog.underlying Ty.p_abi_Type = some (.pointer Ty.abi_Type) := by kernel_rfl
theorem U.int32 : Try.prog.underlying Ty.int32 = some (.int .i32) := by kernel_rfl
theorem U.sl_uint8 : Try.prog.underlying Ty.sl_uint8 = some (.slice Ty.uint8) := by kernel_rfl
theorem U.sl_sl_uint8 : Try.prog.underlying Ty.sl_sl_uint8 = some (.slice Ty.sl_uint8) := by kernel_rfl
theorem U.func_bool : Try.prog.underlying Ty.func_bool = some (.func #[] #[4] false) := by kernel_rfl
theorem U.func_sl_sl_uint8_sl_uint8 : Try.prog.underlying Ty.func_sl_sl_uint8_sl_uint8 = some (.func #[23] #[22] false) := by kernel_rfl
theorem U.func_sl_uint8_sl_uint8_sl_uint8 : Try.prog.underlying Ty.func_sl_uint8_sl_uint8_sl_uint8 = some (.func #[22, 22] #[22] false) := by kernel_rfl
theorem U.func_sl_uint8_sl_sl_uint8_int : Try.prog.underlying Ty.func_sl_uint8_sl_sl_uint8_int = some (.func #[22] #[23, 3] false) := by kernel_rfl
theorem U.func_sl_sl_uint8_sl_sl_uint8_bool : Try.prog.underlying Ty.func_sl_sl_uint8_sl_sl_uint8_bool = some (.func #[23, 23] #[4] false) := by kernel_rfl
theorem U.func_func_int_sl_uint8_bool : Try.prog.underlying Ty.func_func_int_sl_uint8_bool = some (.func #[111] #[] false) := by kernel_rfl
theorem U.iter_Seq2_int_sl_uint8 : Try.prog.underlying Ty.iter_Seq2_int_sl_uint8 = some (.func #[111] #[] false) := by kernel_rfl
theorem U.func_sl_uint8_iter_Seq2_int_sl_uint8 : Try.prog.underlying Ty.func_sl_uint8_iter_Seq2_int_sl_uint8 = some (.func #[22] #[31] false) := by kernel_rfl
theorem U.func_sl_uint8_sl_sl_uint8_int_uint8_bool : Try.prog.underlying Ty.func_sl_uint8_sl_sl_uint8_int_uint8_bool = some (.func #[22, 23, 3, 5] #[4] false) := by kernel_rfl
theorem U.func_sl_uint8_int_sl_uint8 : Try.prog.underlying Ty.func_sl_uint8_int_sl_uint8 = some (.func #[22, 3] #[22] false) := by kernel_rfl
theorem U.func_int_sl_uint8 : Try.prog.underlying Ty.func_int_sl_uint8 = some (.func #[3] #[22] false) := by kernel_rfl
theorem U.sl_struct_b_sl_uint8_ok_bool : Try.prog.underlying Ty.sl_struct_b_sl_uint8_ok_bool = some (.slice Ty.struct_b_sl_uint8_ok_bool) := by kernel_rfl
theorem U.func_sl_uint8_sl_uint8_sl_uint8_bool : Try.prog.underlying Ty.func_sl_uint8_sl_uint8_sl_uint8_bool = some (.func #[22] #[22, 22, 4] false) := by kernel_rfl
theorem U.func_int_bool : Try.prog.underlying Ty.func_int_bool = some (.func #[3] #[4] false) := by kernel_rfl
theorem U.func_sl_uint8_sl_uint8_sl_uint8_sl_uint8_bool : Try.prog.underlying Ty.func_sl_uint8_sl_uint8_sl_uint8_sl_uint8_bool = some (.func #[22, 22, 22, 22] #[4] false) := by kernel_rfl
theorem U.func_sl_uint8_sl_uint8_sl_uint8_int_uint8_bool : Try.prog.underlying Ty.func_sl_uint8_sl_uint8_sl_uint8_int_uint8_bool = some (.func #[22, 22, 22, 3, 5] #[4] false) := by kernel_rfl
theorem U.uint : Try.prog.underlying Ty.uint = some (.int .u64) := by kernel_rfl
theorem U.func_sl_uint8_sl_uint8_int_int_bool : Try.prog.underlying Ty.func_sl_uint8_sl_uint8_int_int_bool = some (.func #[22, 22, 3, 3] #[4] false) := by kernel_rfl
theorem U.sl_string : Try.prog.underlying Ty.sl_string = some (.slice Ty.string) := by kernel_rfl
theorem U.func_int_string : Try.prog.underlying Ty.func_int_string = some (.func #[3] #[9] false) := by kernel_rfl
theorem U.func_sl_string_func_string_sl_string_sl_string_bool : Try.prog.underlying Ty.func_sl_string_func_string_sl_string_sl_string_bool = some (.func #[45, 49] #[45, 4] false) := by kernel_rfl
theorem U.func_string_sl_string : Try.prog.underlying Ty.func_string_sl_string = some (.func #[9] #[45] false) := by kernel_rfl
theorem U.sl_int : Try.prog.underlying Ty.sl_int = some (.slice Ty.int) := by kernel_rfl
theorem U.func_sl_int_func_int_sl_int_sl_int_bool : Try.prog.underlying Ty.func_sl_int_func_int_sl_int_sl_int_bool = some (.func #[50, 53] #[50, 4] false) := by kernel_rfl
theorem U.func_int_sl_int : Try.prog.underlying Ty.func_int_sl_int = some (.func #[3] #[50] false) := by kernel_rfl
theorem U.func_func_int_bool : Try.prog.underlying Ty.func_func_int_bool = some (.func #[40] #[] false) := by kernel_rfl
theorem U.iter_Seq_int : Try.prog.underlying Ty.iter_Seq_int = some (.func #[40] #[] false) := by kernel_rfl
theorem U.func_sl_int_func_int_sl_int_iter_Seq_int : Try.prog.underlying Ty.func_sl_int_func_int_sl_int_iter_Seq_int = some (.func #[50, 53] #[55] false) := by kernel_rfl
theorem U.func_sl_string_sl_string_bool : Try.prog.underlying Ty.func_sl_string_sl_string_bool = some (.func #[45, 45] #[4] false) := by kernel_rfl
theorem U.func_sl_string_int_bool : Try.prog.underlying Ty.func_sl_string_int_bool = some (.func #[45, 3] #[4] false) := by kernel_rfl
theorem U.sl_api_Rule : Try.prog.underlying Ty.sl_api_Rule = some (.slice Ty.api_Rule) := by kernel_rfl
theorem U.func_sl_uint8_api_Manifest_api_Fault : Try.prog.underlying Ty.func_sl_uint8_api_Manifest_api_Fault = some (.func #[22] #[61, 63] false) := by kernel_rfl
theorem U.func_sl_int_sl_uint8 : Try.prog.underlying Ty.func_sl_int_sl_uint8 = some (.func #[50] #[22] false) := by kernel_rfl
theorem U.func_api_Manifest_sl_string_sl_int : Try.prog.underlying Ty.func_api_Manifest_sl_string_sl_int = some (.func #[61, 45] #[50] false) := by kernel_rfl
theorem U.func_api_Manifest_int_sl_int : Try.prog.underlying Ty.func_api_Manifest_int_sl_int = some (.func #[61, 3] #[50] false) := by kernel_rfl
theorem U.sl_sl_api_Do : Try.prog.underlying Ty.sl_sl_api_Do = some (.slice Ty.sl_api_Do) := by kernel_rfl
theorem U.func_sl_int_sl_int_bool : Try.prog.underlying Ty.func_sl_int_sl_int_bool = some (.func #[50, 50] #[4] false) := by kernel_rfl
theorem U.func_sl_int_bool_16_sl_int : Try.prog.underlying Ty.func_sl_int_bool_16_sl_int = some (.func #[50, 4] #[76] false) := by kernel_rfl
theorem U.func_int_sl_int_bool : Try.prog.underlying Ty.func_int_sl_int_bool = some (.func #[3, 50] #[4] false) := by kernel_rfl
theorem U.func_sl_int_sl_string : Try.prog.underlying Ty.func_sl_int_sl_string = some (.func #[50] #[45] false) := by kernel_rfl
theorem U.func_sl_int_sl_int_bool_bool : Try.prog.underlying Ty.func_sl_int_sl_int_bool_bool = some (.func #[50, 50, 4] #[4] false) := by kernel_rfl
theorem U.func_sl_int_sl_int_int_bool : Try.prog.underlying Ty.func_sl_int_sl_int_int_bool = some (.func #[50, 50, 3] #[4] false) := by kernel_rfl
theorem U.func_api_Manifest_sl_int_bool : Try.prog.underlying Ty.func_api_Manifest_sl_int_bool = some (.func #[61] #[50, 4] false) := by kernel_rfl
theorem U.sl_struct_d_api_Done_ok_bool : Try.prog.underlying Ty.sl_struct_d_api_Done_ok_bool = some (.slice Ty.struct_d_api_Done_ok_bool) := by kernel_rfl
theorem U.func_api_Done_sl_uint8 : Try.prog.underlying Ty.func_api_Done_sl_uint8 = some (.func #[84] #[22] false) := by kernel_rfl
theorem U.func_sl_uint8_api_Done_bool : Try.prog.underlying Ty.func_sl_uint8_api_Done_bool = some (.func #[22] #[84, 4] false) := by kernel_rfl
theorem U.func_sl_uint8_api_Lock_bool : Try.prog.underlying Ty.func_sl_uint8_api_Lock_bool = some (.func #[22] #[91, 4] false) := by kernel_rfl
theorem U.func_api_Lock_sl_uint8 : Try.prog.underlying Ty.func_api_Lock_sl_uint8 = some (.func #[91] #[22] false) := by kernel_rfl
theorem U.func_api_Done_api_Done_bool : Try.prog.underlying Ty.func_api_Done_api_Done_bool = some (.func #[84, 84] #[4] false) := by kernel_rfl
theorem U.func_int_int_int_int_bool : Try.prog.underlying Ty.func_int_int_int_int_bool = some (.func #[3, 3, 3, 3] #[4] false) := by kernel_rfl
theorem U.func_int_api_Done : Try.prog.underlying Ty.func_int_api_Done = some (.func #[3] #[84] false) := by kernel_rfl
theorem U.sl_api_Done : Try.prog.underlying Ty.sl_api_Done = some (.slice Ty.api_Done) := by kernel_rfl
theorem U.func_sl_uint8_sl_api_Done_int : Try.prog.underlying Ty.func_sl_uint8_sl_api_Done_int = some (.func #[22] #[98, 3] false) := by kernel_rfl
theorem U.func_sl_api_Done_sl_api_Done_bool : Try.prog.underlying Ty.func_sl_api_Done_sl_api_Done_bool = some (.func #[98, 98] #[4] false) := by kernel_rfl
theorem U.func_api_Lock_api_Done_sl_int_sl_uint8_int_uint8_bool : Try.prog.underlying Ty.func_api_Lock_api_Done_sl_int_sl_uint8_int_uint8_bool = some (.func #[91, 84, 50, 22, 3, 5] #[4] false) := by kernel_rfl
theorem U.func_sl_int_int_sl_int_bool : Try.prog.underlying Ty.func_sl_int_int_sl_int_bool = some (.func #[50, 3, 50] #[4] false) := by kernel_rfl
theorem U.func_sl_uint8_sl_uint8 : Try.prog.underlying Ty.func_sl_uint8_sl_uint8 = some (.func #[23] #[22] true) := by kernel_rfl
theorem U.func_sl_uint8_sl_uint8_x : Try.prog.underlying Ty.func_sl_uint8_sl_uint8_x = some (.func #[22] #[22] false) := by kernel_rfl
theorem U.uint32 : Try.prog.underlying Ty.uint32 = some (.int .u32) := by kernel_rfl
theorem U.func_sl_uint8_uint32 : Try.prog.underlying Ty.func_sl_uint8_uint32 = some (.func #[22] #[106] false) := by kernel_rfl
theorem U.func_sl_sl_uint8_sl_sl_uint8 : Try.prog.underlying Ty.func_sl_sl_uint8_sl_sl_uint8 = some (.func #[23] #[23] false) := by kernel_rfl
theorem U.func_sl_uint8_int_sl_uint8_int_bool : Try.prog.underlying Ty.func_sl_uint8_int_sl_uint8_int_bool = some (.func #[22, 3] #[22, 3, 4] false) := by kernel_rfl
theorem U.func_int_sl_uint8_bool : Try.prog.underlying Ty.func_int_sl_uint8_bool = some (.func #[3, 22] #[4] false) := by kernel_rfl
theorem U.func_sl_uint8_sl_uint8_int_bool : Try.prog.underlying Ty.func_sl_uint8_sl_uint8_int_bool = some (.func #[22] #[22, 3, 4] false) := by kernel_rfl
theorem U.p_code_Reader : Try.prog.underlying Ty.p_code_Reader = some (.pointer Ty.code_Reader) := by kernel_rfl
theorem U.func_sl_uint8_p_code_Reader : Try.prog.underlying Ty.func_sl_uint8_p_code_Reader = some (.func #[22] #[113] false) := by kernel_rfl
theorem U.func_sl_uint8_sl_uint8_bool : Try.prog.underlying Ty.func_sl_uint8_sl_uint8_bool = some (.func #[22] #[22, 4] false) := by kernel_rfl
theorem U.p_fettleref1_Reader : Try.prog.underlying Ty.p_fettleref1_Reader = some (.pointer Ty.fettleref1_Reader) := by kernel_rfl
theorem U.func_sl_string_sl_string : Try.prog.underlying Ty.func_sl_string_sl_string = some (.func #[45] #[45] false) := by kernel_rfl
theorem U.sl_sl_int : Try.prog.underlying Ty.sl_sl_int = some (.slice Ty.sl_int) := by kernel_rfl
theorem U.sl_bool : Try.prog.underlying Ty.sl_bool = some (.slice Ty.bool) := by kernel_rfl
theorem U.func_sl_sl_int_sl_bool_int : Try.prog.underlying Ty.func_sl_sl_int_sl_bool_int = some (.func #[122, 123] #[3] false) := by kernel_rfl
theorem U.func_sl_int_sl_int : Try.prog.underlying Ty.func_sl_int_sl_int = some (.func #[50] #[50] false) := by kernel_rfl
theorem U.sl_sl_api_Word : Try.prog.underlying Ty.sl_sl_api_Word = some (.slice Ty.sl_api_Word) := by kernel_rfl
theorem U.func_sl_uint8_sl_sl_api_Word_api_Fault : Try.prog.underlying Ty.func_sl_uint8_sl_sl_api_Word_api_Fault = some (.func #[22] #[126, 63] false) := by kernel_rfl
theorem U.p_fettleref4_parser : Try.prog.underlying Ty.p_fettleref4_parser = some (.pointer Ty.fettleref4_parser) := by kernel_rfl
theorem U.sl_fettleref4_let : Try.prog.underlying Ty.sl_fettleref4_let = some (.slice Ty.fettleref4_let) := by kernel_rfl
theorem U.sl_api_Word : Try.prog.underlying Ty.sl_api_Word = some (.slice Ty.api_Word) := by kernel_rfl
theorem U.func_sl_api_Word : Try.prog.underlying Ty.func_sl_api_Word = some (.func #[131] #[] false) := by kernel_rfl
theorem U.func_string_bool : Try.prog.underlying Ty.func_string_bool = some (.func #[9] #[4] false) := by kernel_rfl
theorem U.func_int_api_Word : Try.prog.underlying Ty.func_int_api_Word = some (.func #[3, 137] #[] false) := by kernel_rfl
theorem U.func_int_int_int_api_Fault : Try.prog.underlying Ty.func_int_int_int_api_Fault = some (.func #[3, 3, 3] #[63] false) := by kernel_rfl
theorem U.func_api_Manifest_func_int_sl_int : Try.prog.underlying Ty.func_api_Manifest_func_int_sl_int = some (.func #[61] #[53] false) := by kernel_rfl
theorem U.func_sl_string_string_bool : Try.prog.underlying Ty.func_sl_string_string_bool = some (.func #[45, 9] #[4] false) := by kernel_rfl
theorem U.func_api_Done_bool : Try.prog.underlying Ty.func_api_Done_bool = some (.func #[84] #[4] false) := by kernel_rfl
theorem U.func_int_int : Try.prog.underlying Ty.func_int_int = some (.func #[3] #[3] false) := by kernel_rfl
theorem U.func_sl_uint8_int_int : Try.prog.underlying Ty.func_sl_uint8_int_int = some (.func #[22, 3] #[3] false) := by kernel_rfl
theorem U.func_sl_uint8_sl_uint8_bool_x : Try.prog.underlying Ty.func_sl_uint8_sl_uint8_bool_x = some (.func #[22, 22] #[4] false) := by kernel_rfl
theorem U.func_sl_int_func_int_bool_bool : Try.prog.underlying Ty.func_sl_int_func_int_bool_bool = some (.func #[50, 40] #[4] false) := by kernel_rfl
theorem U.func_uint8_bool : Try.prog.underlying Ty.func_uint8_bool = some (.func #[5] #[4] false) := by kernel_rfl
theorem U.func_sl_uint8_int_api_Word_api_Word_int_int_int : Try.prog.underlying Ty.func_sl_uint8_int_api_Word_api_Word_int_int_int = some (.func #[22, 3, 137] #[137, 3, 3, 3] false) := by kernel_rfl
theorem U.func_sl_api_Word_sl_api_Word : Try.prog.underlying Ty.func_sl_api_Word_sl_api_Word = some (.func #[131] #[131] false) := by kernel_rfl
theorem U.func_api_Word_string_bool : Try.prog.underlying Ty.func_api_Word_string_bool = some (.func #[137, 9] #[4] false) := by kernel_rfl
theorem U.func_sl_api_Word_bool : Try.prog.underlying Ty.func_sl_api_Word_bool = some (.func #[131, 4] #[] false) := by kernel_rfl
theorem U.func_sl_api_Word_int_int_bool_string_string_sl_string_int : Try.prog.underlying Ty.func_sl_api_Word_int_int_bool_string_string_sl_string_int = some (.func #[131, 3, 3, 4, 9, 9] #[45, 3] false) := by kernel_rfl
theorem U.func_sl_string_func_string_bool_bool : Try.prog.underlying Ty.func_sl_string_func_string_bool_bool = some (.func #[45, 135] #[4] false) := by kernel_rfl
theorem U.func_api_Manifest_map_string_sl_int : Try.prog.underlying Ty.func_api_Manifest_map_string_sl_int = some (.func #[61] #[158] false) := by kernel_rfl
theorem U.func_sl_string_sl_string_x : Try.prog.underlying Ty.func_sl_string_sl_string_x = some (.func #[170] #[45] true) := by kernel_rfl
theorem U.func_sl_int_func_int_bool_int : Try.prog.underlying Ty.func_sl_int_func_int_bool_int = some (.func #[50, 40] #[3] false) := by kernel_rfl
theorem U.func_api_Word_bool : Try.prog.underlying Ty.func_api_Word_bool = some (.func #[137] #[4] false) := by kernel_rfl
theorem U.func_sl_api_Word_int_string_int : Try.prog.underlying Ty.func_sl_api_Word_int_string_int = some (.func #[131, 3, 9] #[3] false) := by kernel_rfl
theorem U.func_sl_api_Word_int_sl_string_int : Try.prog.underlying Ty.func_sl_api_Word_int_sl_string_int = some (.func #[131, 3] #[45, 3] false) := by kernel_rfl
theorem U.func_sl_api_Word_int_int_sl_sl_api_Do : Try.prog.underlying Ty.func_sl_api_Word_int_int_sl_sl_api_Do = some (.func #[131, 3, 3] #[72] false) := by kernel_rfl
theorem U.func_sl_string_func_string_bool_int : Try.prog.underlying Ty.func_sl_string_func_string_bool_int = some (.func #[45, 135] #[3] false) := by kernel_rfl
theorem U.func_sl_string_string_int : Try.prog.underlying Ty.func_sl_string_string_int = some (.func #[45, 9] #[3] false) := by kernel_rfl
theorem U.sl_sl_string : Try.prog.underlying Ty.sl_sl_string = some (.slice Ty.sl_string) := by kernel_rfl
theorem U.func_sl_string_int_sl_string : Try.prog.underlying Ty.func_sl_string_int_sl_string = some (.func #[45, 3] #[45] false) := by kernel_rfl
theorem U.sl_api_Do : Try.prog.underlying Ty.sl_api_Do = some (.slice Ty.api_Do) := by kernel_rfl
theorem U.func_sl_api_Word_sl_api_Do_bool : Try.prog.underlying Ty.func_sl_api_Word_sl_api_Do_bool = some (.func #[131] #[172, 4] false) := by kernel_rfl
theorem U.func_sl_api_Word_api_Do_bool : Try.prog.underlying Ty.func_sl_api_Word_api_Do_bool = some (.func #[131] #[176, 4] false) := by kernel_rfl
theorem U.func_sl_api_Do_bool : Try.prog.underlying Ty.func_sl_api_Do_bool = some (.func #[172] #[4] false) := by kernel_rfl
theorem U.func_sl_string : Try.prog.underlying Ty.func_sl_string = some (.func #[] #[45] false) := by kernel_rfl
theorem U.func_string_int_int_bool : Try.prog.underlying Ty.func_string_int_int_bool = some (.func #[9, 3] #[3, 4] false) := by kernel_rfl
theorem U.func_string : Try.prog.underlying Ty.func_string = some (.func #[] #[9] false) := by kernel_rfl
theorem U.func_int : Try.prog.underlying Ty.func_int = some (.func #[] #[3] false) := by kernel_rfl
theorem U.abi_TFlag : Try.prog.underlying Ty.abi_TFlag = some (.int .u8) := by kernel_rfl
theorem U.abi_Kind : Try.prog.underlying Ty.abi_Kind = some (.int .u8) := by kernel_rfl
theorem U.func_unsafe_Pointer_unsafe_Pointer_bool : Try.prog.underlying Ty.func_unsafe_Pointer_unsafe_Pointer_bool = some (.func #[197, 197] #[4] false) := by kernel_rfl
theorem U.p_uint8 : Try.prog.underlying Ty.p_uint8 = some (.pointer Ty.uint8) := by kernel_rfl
theorem U.abi_NameOff : Try.prog.underlying Ty.abi_NameOff = some (.int .i32) := by kernel_rfl
theorem U.abi_TypeOff : Try.prog.underlying Ty.abi_TypeOff = some (.int .i32) := by kernel_rfl
def Ex : Ext := fun f => bif Nat.beq f F.fettlelaw8_awake then some yes0 else none
abbrev R (f : FuncId) (args : Array Value) (M : Store) (Q : Value → Store → Prop) : Prop := Runs Try.prog Ex f args M Q
abbrev KC (f : Value) (args : List Value) (M : Store) (Q : Value → Store → Prop) : Prop := kcall Try.prog Ex f args M Q
end Go.G
