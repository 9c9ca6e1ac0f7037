/-
  Part 3 of a proof: own texts, merged by program.
-/
import Derived.Test.YtoahnccffedojaaGreatDoorProg
import Derived.Test.YtoahnccffedojaaGreatDoorP02
set_option linter.unusedVariables false
set_option linter.unusedSimpArgs false
namespace Go.Sg
open Go Vc
abbrev f_main_main : FuncId := 0
abbrev f_gosem_cut : FuncId := 1
abbrev f_gosem_cut_init : FuncId := 2
abbrev f_law27_KvNobody : FuncId := 3
abbrev f_law27_Step : FuncId := 4
abbrev f_kv_Store_Close : FuncId := 5
abbrev f_kv_Store_Look : FuncId := 6
abbrev f_kv_Store_Config : FuncId := 7
abbrev f_kv_Store_Height : FuncId := 8
abbrev f_kv_Store_Left : FuncId := 9
abbrev f_kv_Store_Cost : FuncId := 10
abbrev f_kv_Store_Total : FuncId := 11
abbrev f_law27_awake : FuncId := 12
abbrev f_kv_Store_Put : FuncId := 13
abbrev f_kv_Store_Delete : FuncId := 14
abbrev f_kv_Store_Get : FuncId := 15
abbrev f_kv_Store_Range : FuncId := 16
abbrev f_kv_Store_Sync : FuncId := 17
abbrev f_kv_Store_Reopen : FuncId := 18
abbrev f_kv_Store_count : FuncId := 19
abbrev f_kv_Store_Close_1 : FuncId := 20
abbrev f_mount_Mount_Sync : FuncId := 21
abbrev f_mount_Mount_Device : FuncId := 22
abbrev f_dev_Device_Image : FuncId := 23
abbrev f_kv_Store_open : FuncId := 24
abbrev f_walk_Look : FuncId := 25
abbrev f_mount_Mount_Tree : FuncId := 26
abbrev f_tree_Tree_Shelf : FuncId := 27
abbrev f_tree_Tree_Root : FuncId := 28
abbrev f_tree_Tree_Height : FuncId := 29
abbrev f_shelf_Shelf_Left : FuncId := 30
abbrev f_kv_New : FuncId := 31
abbrev f_law27_least : FuncId := 32
abbrev f_kv_Store_put : FuncId := 33
abbrev f_kv_Store_Get_1 : FuncId := 34
abbrev f_node_Key : FuncId := 35
abbrev f_tree_Tree_Get : FuncId := 36
abbrev f_kv_Store_Range_1 : FuncId := 37
abbrev f_lex_Compare : FuncId := 38
abbrev f_scan_Range : FuncId := 39
abbrev f_kv_Store_Sync_1 : FuncId := 40
abbrev f_kv_Store_Reopen_1 : FuncId := 41
abbrev f_dev_From : FuncId := 42
abbrev f_mount_Open : FuncId := 43
abbrev f_dev_Device_Stats : FuncId := 44
abbrev f_kv_minus : FuncId := 45
abbrev f_kv_plus : FuncId := 46
abbrev f_mount_Mount_none : FuncId := 47
abbrev f_head_Encode : FuncId := 48
abbrev f_mount_Mount_Head : FuncId := 49
abbrev f_shelf_Shelf_Flush : FuncId := 50
abbrev f_dev_Device_Write : FuncId := 51
abbrev f_slices_Clone_byte : FuncId := 52
abbrev f_walk_All : FuncId := 53
abbrev f_walk_Look_1 : FuncId := 54
abbrev f_tree_Tree_none : FuncId := 55
abbrev f_pool_Pool_Free : FuncId := 56
abbrev f_mount_Format : FuncId := 57
abbrev f_kv_begin : FuncId := 58
abbrev f_kv_Store_put_1 : FuncId := 59
abbrev f_tree_Tree_Put : FuncId := 60
abbrev f_seek_Get : FuncId := 61
abbrev f_strings_Compare : FuncId := 62
abbrev f_lex_Empty : FuncId := 63
abbrev f_scan_scanner_visit : FuncId := 64
abbrev f_dev_right : FuncId := 65
abbrev f_dev_Device_Read : FuncId := 66
abbrev f_head_Decode : FuncId := 67
abbrev f_shelf_New : FuncId := 68
abbrev f_tree_Open : FuncId := 69
abbrev f_head_Right : FuncId := 70
abbrev f_head_numbers : FuncId := 71
abbrev f_word_Put : FuncId := 72
abbrev f_check_Sum : FuncId := 73
abbrev f_shelf_Shelf_Config : FuncId := 74
abbrev f_shelf_Shelf_made : FuncId := 75
abbrev f_cache_Cache_Flush : FuncId := 76
abbrev f_dev_Device_at : FuncId := 77
abbrev f_walk_walker_visit : FuncId := 78
abbrev f_lex_All : FuncId := 79
abbrev f_pool_Pool_none : FuncId := 80
abbrev f_bits_Row_Len : FuncId := 81
abbrev f_bits_Row_Count : FuncId := 82
abbrev f_conf_Check : FuncId := 83
abbrev f_dev_New : FuncId := 84
abbrev f_tree_New : FuncId := 85
abbrev f_tree_Tree_may : FuncId := 86
abbrev f_shelf_Shelf_Load : FuncId := 87
abbrev f_tree_Tree_direct : FuncId := 88
abbrev f_tree_Tree_raise : FuncId := 89
abbrev f_tree_Tree_drain : FuncId := 90
abbrev f_seek_down : FuncId := 91
abbrev f_seek_Get_1 : FuncId := 92
abbrev f_buf_Find : FuncId := 93
abbrev f_pour_Value : FuncId := 94
abbrev f_bytealg_CompareString : FuncId := 95
abbrev f_leaf_Apply : FuncId := 96
abbrev f_leaf_Part : FuncId := 97
abbrev f_buf_Merge : FuncId := 98
abbrev f_buf_Part : FuncId := 99
abbrev f_fan_Span : FuncId := 100
abbrev f_scan_scanner_full : FuncId := 101
abbrev f_word_Open : FuncId := 102
abbrev f_word_Reader_Raw : FuncId := 103
abbrev f_word_Reader_Num : FuncId := 104
abbrev f_word_Reader_Err : FuncId := 105
abbrev f_slices_Equal_byte : FuncId := 106
abbrev f_cache_New : FuncId := 107
abbrev f_dev_Device_Blocks : FuncId := 108
abbrev f_dev_Device_Bytes : FuncId := 109
abbrev f_pool_New : FuncId := 110
abbrev f_walk_Blocks : FuncId := 111
abbrev f_shelf_Shelf_Has : FuncId := 112
abbrev f_shelf_Shelf_Mark : FuncId := 113
abbrev f_shelf_Shelf_Keep : FuncId := 114
abbrev f_word_right : FuncId := 115
abbrev f_check_More : FuncId := 116
abbrev f_cache_Cache_none : FuncId := 117
abbrev f_cache_Cache_Dirty : FuncId := 118
abbrev f_cache_Cache_back : FuncId := 119
abbrev f_node_Right : FuncId := 120
abbrev f_node_Clone : FuncId := 121
abbrev f_conf_sized : FuncId := 122
abbrev f_conf_Least : FuncId := 123
abbrev f_shelf_Shelf_Make : FuncId := 124
abbrev f_shelf_Shelf_there : FuncId := 125
abbrev f_cache_Cache_Pin : FuncId := 126
abbrev f_cache_Cache_Read : FuncId := 127
abbrev f_cache_Cache_Unpin : FuncId := 128
abbrev f_code_Decode : FuncId := 129
abbrev f_buf_Put : FuncId := 130
abbrev f_shelf_Shelf_Save : FuncId := 131
abbrev f_flow_Raise : FuncId := 132
abbrev f_flow_Drain : FuncId := 133
abbrev f_fan_Way : FuncId := 134
abbrev f_slices_BinarySearchFunc_api_Msg : FuncId := 135
abbrev f_buf_compare : FuncId := 136
abbrev f_leaf_Get : FuncId := 137
abbrev f_bytealg_abigen_runtime_cmpstring : FuncId := 138
abbrev f_slices_Clone_api_Pair : FuncId := 139
abbrev f_slices_BinarySearchFunc_api_Pair : FuncId := 140
abbrev f_leaf_compare : FuncId := 141
abbrev f_slices_Delete_api_Pair : FuncId := 142
abbrev f_slices_Insert_api_Pair : FuncId := 143
abbrev f_buf_part : FuncId := 144
abbrev f_slices_Clone_api_Msg : FuncId := 145
abbrev f_lex_Meet : FuncId := 146
abbrev f_word_Reader_spoil : FuncId := 147
abbrev f_chain_New : FuncId := 148
abbrev f_bits_New : FuncId := 149
abbrev f_bits_Row_Set : FuncId := 150
abbrev f_walk_Blocks_1 : FuncId := 151
abbrev f_slices_Sort_uint32 : FuncId := 152
abbrev f_pool_Pool_Has : FuncId := 153
abbrev f_pool_Pool_Mark : FuncId := 154
abbrev f_slices_Sorted_uint32 : FuncId := 155
abbrev f_maps_Keys_map : FuncId := 156
abbrev f_node_outer : FuncId := 157
abbrev f_node_inner : FuncId := 158
abbrev f_slices_Clone_uint32 : FuncId := 159
abbrev f_slices_Clone_string : FuncId := 160
abbrev f_conf_Inner : FuncId := 161
abbrev f_conf_Outer : FuncId := 162
abbrev f_code_Encode : FuncId := 163
abbrev f_pool_Pool_Take : FuncId := 164
abbrev f_shelf_Shelf_lay : FuncId := 165
abbrev f_pool_Pool_Give : FuncId := 166
abbrev f_cache_Cache_there : FuncId := 167
abbrev f_chain_Chain_Cut : FuncId := 168
abbrev f_cache_Cache_room : FuncId := 169
abbrev f_cache_Cache_put : FuncId := 170
abbrev f_cache_Cache_pinned : FuncId := 171
abbrev f_chain_Chain_Front : FuncId := 172
abbrev f_word_Reader_Zeros : FuncId := 173
abbrev f_code_readOuter : FuncId := 174
abbrev f_code_readInner : FuncId := 175
abbrev f_slices_Insert_api_Msg : FuncId := 176
abbrev f_cleave_Halve : FuncId := 177
abbrev f_shelf_Shelf_Free : FuncId := 178
abbrev f_flow_Road : FuncId := 179
abbrev f_flow_steps : FuncId := 180
abbrev f_flow_fall : FuncId := 181
abbrev f_slices_BinarySearchFunc_string : FuncId := 182
abbrev f_slices_overlaps_api_Pair : FuncId := 183
abbrev f_slices_rotateRight_api_Pair : FuncId := 184
abbrev f_bits_Row_there : FuncId := 185
abbrev f_bits_Row_Has : FuncId := 186
abbrev f_slices_pdqsortOrdered_uint32 : FuncId := 187
abbrev f_bits_Len : FuncId := 188
abbrev f_slices_Collect_uint32 : FuncId := 189
abbrev f_maps_Keys_map_1 : FuncId := 190
abbrev f_leaf_Right : FuncId := 191
abbrev f_slices_ContainsFunc_api_Pair : FuncId := 192
abbrev f_node_outer_1 : FuncId := 193
abbrev f_lex_In : FuncId := 194
abbrev f_node_kids : FuncId := 195
abbrev f_fan_Right : FuncId := 196
abbrev f_slices_ContainsFunc_string : FuncId := 197
abbrev f_node_inner_1 : FuncId := 198
abbrev f_buf_Right : FuncId := 199
abbrev f_slices_ContainsFunc_api_Msg : FuncId := 200
abbrev f_node_inner_2 : FuncId := 201
abbrev f_code_writeOuter : FuncId := 202
abbrev f_code_writeInner : FuncId := 203
abbrev f_pool_Pool_Grab : FuncId := 204
abbrev f_cache_Cache_Write : FuncId := 205
abbrev f_cache_Cache_Fresh : FuncId := 206
abbrev f_bits_Row_Clear : FuncId := 207
abbrev f_chain_Chain_there : FuncId := 208
abbrev f_chain_Chain_out : FuncId := 209
abbrev f_chain_Chain_Last : FuncId := 210
abbrev f_cache_Cache_leave : FuncId := 211
abbrev f_chain_Chain_put : FuncId := 212
abbrev f_chain_Chain_root : FuncId := 213
abbrev f_slices_ContainsFunc_byte : FuncId := 214
abbrev f_word_Reader_Zeros_1 : FuncId := 215
abbrev f_code_readPair : FuncId := 216
abbrev f_word_Reader_Text : FuncId := 217
abbrev f_slices_overlaps_api_Msg : FuncId := 218
abbrev f_slices_rotateRight_api_Msg : FuncId := 219
abbrev f_leaf_Halve : FuncId := 220
abbrev f_buf_Split : FuncId := 221
abbrev f_cache_Cache_Drop : FuncId := 222
abbrev f_flow_next : FuncId := 223
abbrev f_conf_Move : FuncId := 224
abbrev f_sluice_Step : FuncId := 225
abbrev f_slices_rotateLeft_api_Pair : FuncId := 226
abbrev f_slices_insertionSortOrdered_uint32 : FuncId := 227
abbrev f_slices_heapSortOrdered_uint32 : FuncId := 228
abbrev f_slices_breakPatternsOrdered_uint32 : FuncId := 229
abbrev f_slices_choosePivotOrdered_uint32 : FuncId := 230
abbrev f_slices_reverseRangeOrdered_uint32 : FuncId := 231
abbrev f_slices_partialInsertionSortOrdered_uint32 : FuncId := 232
abbrev f_cmp_Less_uint32 : FuncId := 233
abbrev f_slices_partitionEqualOrdered_uint32 : FuncId := 234
abbrev f_slices_partitionOrdered_uint32 : FuncId := 235
abbrev f_bits_Len32 : FuncId := 236
abbrev f_bits_Len64 : FuncId := 237
abbrev f_slices_AppendSeq_uint32 : FuncId := 238
abbrev f_slices_IndexFunc_api_Pair : FuncId := 239
abbrev f_slices_Compact_uint32 : FuncId := 240
abbrev f_slices_IndexFunc_string : FuncId := 241
abbrev f_slices_IndexFunc_api_Msg : FuncId := 242
abbrev f_code_front : FuncId := 243
abbrev f_code_pair : FuncId := 244
abbrev f_code_num : FuncId := 245
abbrev f_code_text : FuncId := 246
abbrev f_bits_Row_Free : FuncId := 247
abbrev f_chain_Chain_Len : FuncId := 248
abbrev f_slices_IndexFunc_byte : FuncId := 249
abbrev f_word_Reader_Text_1 : FuncId := 250
abbrev f_slices_rotateLeft_api_Msg : FuncId := 251
abbrev f_lex_Cut : FuncId := 252
abbrev f_node_Heaviest : FuncId := 253
abbrev f_sluice_Split : FuncId := 254
abbrev f_node_Loads : FuncId := 255
abbrev f_sluice_both : FuncId := 256
abbrev f_pour_Pour : FuncId := 257
abbrev f_sluice_pair_halve : FuncId := 258
abbrev f_sluice_Small : FuncId := 259
abbrev f_sluice_pair_join : FuncId := 260
abbrev f_sluice_pair_save : FuncId := 261
abbrev f_slices_Reverse_api_Pair : FuncId := 262
abbrev f_slices_siftDownOrdered_uint32 : FuncId := 263
abbrev f_slices_nextPowerOfTwo : FuncId := 264
abbrev f_slices_xorshift_Next : FuncId := 265
abbrev f_slices_medianAdjacentOrdered_uint32 : FuncId := 266
abbrev f_slices_medianOrdered_uint32 : FuncId := 267
abbrev f_cmp_isNaN_uint32 : FuncId := 268
abbrev f_bits_told : FuncId := 269
abbrev f_bits_Row_seek : FuncId := 270
abbrev f_slices_Reverse_api_Msg : FuncId := 271
abbrev f_lex_Shared : FuncId := 272
abbrev f_node_Find : FuncId := 273
abbrev f_buf_Take : FuncId := 274
abbrev f_slices_Insert_uint32 : FuncId := 275
abbrev f_fan_Insert : FuncId := 276
abbrev f_cleave_Fits : FuncId := 277
abbrev f_cleave_Join : FuncId := 278
abbrev f_slices_Delete_uint32 : FuncId := 279
abbrev f_fan_Remove : FuncId := 280
abbrev f_slices_order2Ordered_uint32 : FuncId := 281
abbrev f_bits_TrailingZeros64 : FuncId := 282
abbrev f_slices_Index_uint32 : FuncId := 283
abbrev f_slices_Concat_api_Msg : FuncId := 284
abbrev f_slices_overlaps_uint32 : FuncId := 285
abbrev f_slices_rotateRight_uint32 : FuncId := 286
abbrev f_slices_Insert_string : FuncId := 287
abbrev f_slices_Delete_string : FuncId := 288
abbrev f_slices_Grow_api_Msg : FuncId := 289
abbrev f_slices_rotateLeft_uint32 : FuncId := 290
abbrev f_slices_overlaps_string : FuncId := 291
abbrev f_slices_rotateRight_string : FuncId := 292
abbrev f_slices_Reverse_uint32 : FuncId := 293
abbrev f_slices_rotateLeft_string : FuncId := 294
abbrev f_slices_Reverse_string : FuncId := 295
abbrev f_runtime_boundsError_Error : FuncId := 296
abbrev f_runtime_boundsError_RuntimeError : FuncId := 297
abbrev f_runtime_errorString_Error : FuncId := 298
abbrev f_runtime_errorString_RuntimeError : FuncId := 299
abbrev f_runtime_plainError_Error : FuncId := 300
abbrev f_runtime_plainError_RuntimeError : FuncId := 301
abbrev f_runtime_errorAddressString_Error : FuncId := 302
abbrev f_runtime_errorAddressString_RuntimeError : FuncId := 303
abbrev f_runtime_TypeAssertionError_Error : FuncId := 304
abbrev f_runtime_TypeAssertionError_RuntimeError : FuncId := 305
abbrev f_runtime_PanicNilError_Error : FuncId := 306
abbrev f_runtime_PanicNilError_RuntimeError : FuncId := 307
abbrev f_abi_Type_Align : FuncId := 308
abbrev f_maps_unhashableTypeError_Error : FuncId := 309
abbrev f_maps_unhashableTypeError_RuntimeError : FuncId := 310
abbrev f_cache_Cache_Used : FuncId := 311
abbrev f_word_Reader_Left : FuncId := 312
abbrev f_abi_Kind_String : FuncId := 313
abbrev f_var_s_door_gosem_cut_vars_holds_initiali : FuncId := 314
abbrev f_var_s_door_math_bits_deBruijn64tab_is_la : FuncId := 315
abbrev f_var_s_door_the_look_of_gosem_cut_vars_we : FuncId := 316
abbrev f_gosem_cut_vars : FuncId := 317
abbrev t_tuple_2e38e7 : TypeId := 0
abbrev t_func_010546 : TypeId := 1
abbrev t_int64 : TypeId := 2
abbrev t_int : TypeId := 3
abbrev t_bool : TypeId := 4
abbrev t_uint8 : TypeId := 5
abbrev t_abi_BoundsErrorCode : TypeId := 6
abbrev t_struct_b8f438 : TypeId := 7
abbrev t_runtime_boundsError : TypeId := 8
abbrev t_string : TypeId := 9
abbrev t_runtime_errorString : TypeId := 10
abbrev t_runtime_plainError : TypeId := 11
abbrev t_uintptr : TypeId := 12
abbrev t_struct_8f9d5c : TypeId := 13
abbrev t_runtime_errorAddressString : TypeId := 14
abbrev t_P_runtime_TypeAssertionError : TypeId := 15
abbrev t_P_runtime_PanicNilError : TypeId := 16
abbrev t_P_abi_Type : TypeId := 17
abbrev t_struct_a943b7 : TypeId := 18
abbrev t_maps_unhashableTypeError : TypeId := 19
abbrev t_any : TypeId := 20
abbrev t_int32 : TypeId := 21
abbrev t_struct_c465b8 : TypeId := 22
abbrev t_api_Op : TypeId := 23
abbrev t_P_kv_Store : TypeId := 24
abbrev t_struct_c0bd75 : TypeId := 25
abbrev t_api_Config : TypeId := 26
abbrev t_P_mount_Mount : TypeId := 27
abbrev t_uint64 : TypeId := 28
abbrev t_struct_55afac : TypeId := 29
abbrev t_api_Stats : TypeId := 30
abbrev t_struct_0c6e0c : TypeId := 31
abbrev t_kv_Store : TypeId := 32
abbrev t_S_P_kv_Store : TypeId := 33
abbrev t_S_api_Pair : TypeId := 34
abbrev t_struct_d36357 : TypeId := 35
abbrev t_sluicegateref27_Answer : TypeId := 36
abbrev t_func_6a6cfd : TypeId := 37
abbrev t_S_uint8 : TypeId := 38
abbrev t_api_Errno : TypeId := 39
abbrev t_tuple_89587a : TypeId := 40
abbrev t_func_68c7fa : TypeId := 41
abbrev t_struct_029532 : TypeId := 42
abbrev t_walk_Report : TypeId := 43
abbrev t_tuple_d6434d : TypeId := 44
abbrev t_func_a7f7a1 : TypeId := 45
abbrev t_func_41ebab : TypeId := 46
abbrev t_func_429729 : TypeId := 47
abbrev t_func_d42a58 : TypeId := 48
abbrev t_func_bf0469 : TypeId := 49
abbrev t_func_c8d10d : TypeId := 50
abbrev t_func_384d6b : TypeId := 51
abbrev t_func_14b57d : TypeId := 52
abbrev t_tuple_1a7a18 : TypeId := 53
abbrev t_func_173af1 : TypeId := 54
abbrev t_tuple_3962d5 : TypeId := 55
abbrev t_func_d8ad14 : TypeId := 56
abbrev t_func_724068 : TypeId := 57
abbrev t_func_b62d62 : TypeId := 58
abbrev t_P_dev_Device : TypeId := 59
abbrev t_func_d9e02a : TypeId := 60
abbrev t_func_f3005f : TypeId := 61
abbrev t_func_a64290 : TypeId := 62
abbrev t_P_shelf_Shelf : TypeId := 63
abbrev t_P_tree_Tree : TypeId := 64
abbrev t_func_fc5804 : TypeId := 65
abbrev t_func_85ba69 : TypeId := 66
abbrev t_uint32 : TypeId := 67
abbrev t_func_b7e4ce : TypeId := 68
abbrev t_tuple_925355 : TypeId := 69
abbrev t_func_176744 : TypeId := 70
abbrev t_func_f3c80b : TypeId := 71
abbrev t_struct_c361c5 : TypeId := 72
abbrev t_api_Msg : TypeId := 73
abbrev t_func_1f48f7 : TypeId := 74
abbrev t_tuple_880265 : TypeId := 75
abbrev t_func_247e8e : TypeId := 76
abbrev t_func_632d37 : TypeId := 77
abbrev t_func_6ec805 : TypeId := 78
abbrev t_struct_e2153f : TypeId := 79
abbrev t_api_Span : TypeId := 80
abbrev t_tuple_c3bb98 : TypeId := 81
abbrev t_func_d5951e : TypeId := 82
abbrev t_tuple_17bd94 : TypeId := 83
abbrev t_func_fde312 : TypeId := 84
abbrev t_func_831e63 : TypeId := 85
abbrev t_func_395af9 : TypeId := 86
abbrev t_struct_9f4aaa : TypeId := 87
abbrev t_head_Head : TypeId := 88
abbrev t_func_685e36 : TypeId := 89
abbrev t_struct_2da64a : TypeId := 90
abbrev t_mount_Mount : TypeId := 91
abbrev t_func_ff8aa2 : TypeId := 92
abbrev t_func_065a5e : TypeId := 93
abbrev t_struct_d60dc9 : TypeId := 94
abbrev t_dev_Device : TypeId := 95
abbrev t_func_bfbb13 : TypeId := 96
abbrev t_S_uint32 : TypeId := 97
abbrev t_S_string : TypeId := 98
abbrev t_S_api_Msg : TypeId := 99
abbrev t_struct_691473 : TypeId := 100
abbrev t_api_Node : TypeId := 101
abbrev t_func_ca11b6 : TypeId := 102
abbrev t_struct_121fd5 : TypeId := 103
abbrev t_tree_Work : TypeId := 104
abbrev t_struct_5d5c2f : TypeId := 105
abbrev t_tree_Tree : TypeId := 106
abbrev t_P_cache_Cache : TypeId := 107
abbrev t_P_pool_Pool : TypeId := 108
abbrev t_struct_2ffc99 : TypeId := 109
abbrev t_shelf_Shelf : TypeId := 110
abbrev t_func_1f761b : TypeId := 111
abbrev t_func_e8f770 : TypeId := 112
abbrev t_func_3b3654 : TypeId := 113
abbrev t_func_83e430 : TypeId := 114
abbrev t_P_scan_scanner : TypeId := 115
abbrev t_struct_1cfcf2 : TypeId := 116
abbrev t_scan_scanner : TypeId := 117
abbrev t_func_58d54e : TypeId := 118
abbrev t_func_f12b4a : TypeId := 119
abbrev t_func_ac257f : TypeId := 120
abbrev t_tuple_07ea14 : TypeId := 121
abbrev t_func_660647 : TypeId := 122
abbrev t_tuple_f5f12d : TypeId := 123
abbrev t_func_683588 : TypeId := 124
abbrev t_tuple_7e9fe7 : TypeId := 125
abbrev t_func_f0d387 : TypeId := 126
abbrev t_func_c6ba4a : TypeId := 127
abbrev t_P_int : TypeId := 128
abbrev t_A9_P_int : TypeId := 129
abbrev t_func_9f41ae : TypeId := 130
abbrev t_P_head_Head : TypeId := 131
abbrev t_S_P_int : TypeId := 132
abbrev t_func_c7f3fe : TypeId := 133
abbrev t_func_2d1ecb : TypeId := 134
abbrev t_P_walk_walker : TypeId := 135
abbrev t_M_uint32_bool : TypeId := 136
abbrev t_struct_7f7d34 : TypeId := 137
abbrev t_walk_walker : TypeId := 138
abbrev t_func_12dbb5 : TypeId := 139
abbrev t_func_6cb846 : TypeId := 140
abbrev t_P_bits_Row : TypeId := 141
abbrev t_struct_c191b8 : TypeId := 142
abbrev t_pool_Pool : TypeId := 143
abbrev t_func_b6f708 : TypeId := 144
abbrev t_func_854c39 : TypeId := 145
abbrev t_func_1331fb : TypeId := 146
abbrev t_func_8412e5 : TypeId := 147
abbrev t_tuple_5a843c : TypeId := 148
abbrev t_func_45d392 : TypeId := 149
abbrev t_tuple_1b2566 : TypeId := 150
abbrev t_func_760197 : TypeId := 151
abbrev t_func_19cda4 : TypeId := 152
abbrev t_S_api_Node : TypeId := 153
abbrev t_func_a7f002 : TypeId := 154
abbrev t_tuple_ccb94e : TypeId := 155
abbrev t_func_fee0f4 : TypeId := 156
abbrev t_func_bb3708 : TypeId := 157
abbrev t_tuple_2878f4 : TypeId := 158
abbrev t_func_131895 : TypeId := 159
abbrev t_func_0801a5 : TypeId := 160
abbrev t_func_f36b40 : TypeId := 161
abbrev t_func_df23f2 : TypeId := 162
abbrev t_func_7807da : TypeId := 163
abbrev t_tuple_73f023 : TypeId := 164
abbrev t_func_5e5b91 : TypeId := 165
abbrev t_P_word_Reader : TypeId := 166
abbrev t_func_6ee477 : TypeId := 167
abbrev t_func_004105 : TypeId := 168
abbrev t_func_c09148 : TypeId := 169
abbrev t_func_5d1953 : TypeId := 170
abbrev t_tuple_553572 : TypeId := 171
abbrev t_func_306ddb : TypeId := 172
abbrev t_tuple_186b97 : TypeId := 173
abbrev t_func_ac331c : TypeId := 174
abbrev t_tuple_093ccf : TypeId := 175
abbrev t_func_3a51cf : TypeId := 176
abbrev t_func_4d839d : TypeId := 177
abbrev t_func_1b0a2e : TypeId := 178
abbrev t_P_api_Config : TypeId := 179
abbrev t_func_5c9454 : TypeId := 180
abbrev t_S_S_uint8 : TypeId := 181
abbrev t_func_b73231 : TypeId := 182
abbrev t_func_9b22ae : TypeId := 183
abbrev t_func_bb651f : TypeId := 184
abbrev t_P_cache_frame : TypeId := 185
abbrev t_struct_998d1e : TypeId := 186
abbrev t_cache_frame : TypeId := 187
abbrev t_S_cache_frame : TypeId := 188
abbrev t_M_uint32_int : TypeId := 189
abbrev t_S_int : TypeId := 190
abbrev t_P_chain_Chain : TypeId := 191
abbrev t_struct_2e9b4c : TypeId := 192
abbrev t_cache_Cache : TypeId := 193
abbrev t_func_5cc8b5 : TypeId := 194
abbrev t_func_c0bb3b : TypeId := 195
abbrev t_S_uint64 : TypeId := 196
abbrev t_struct_58d320 : TypeId := 197
abbrev t_bits_Row : TypeId := 198
abbrev t_func_b33ac4 : TypeId := 199
abbrev t_func_0fd452 : TypeId := 200
abbrev t_tuple_76e738 : TypeId := 201
abbrev t_func_d1a6d8 : TypeId := 202
abbrev t_func_064345 : TypeId := 203
abbrev t_func_03e416 : TypeId := 204
abbrev t_func_b0ef2c : TypeId := 205
abbrev t_func_c00551 : TypeId := 206
abbrev t_tuple_5c0151 : TypeId := 207
abbrev t_func_781388 : TypeId := 208
abbrev t_func_c831bd : TypeId := 209
abbrev t_tuple_efdd49 : TypeId := 210
abbrev t_func_d34995 : TypeId := 211
abbrev t_func_2a8c3b : TypeId := 212
abbrev t_func_93fe3c : TypeId := 213
abbrev t_func_b8cf18 : TypeId := 214
abbrev t_struct_eb96e1 : TypeId := 215
abbrev t_api_Pair : TypeId := 216
abbrev t_func_a9b414 : TypeId := 217
abbrev t_func_bfe529 : TypeId := 218
abbrev t_func_ee6476 : TypeId := 219
abbrev t_func_ad9bfd : TypeId := 220
abbrev t_tuple_3eff6b : TypeId := 221
abbrev t_func_765634 : TypeId := 222
abbrev t_func_86915d : TypeId := 223
abbrev t_func_d225fb : TypeId := 224
abbrev t_struct_4e1b31 : TypeId := 225
abbrev t_word_Reader : TypeId := 226
abbrev t_func_854745 : TypeId := 227
abbrev t_uint : TypeId := 228
abbrev t_tuple_8e4120 : TypeId := 229
abbrev t_func_b18705 : TypeId := 230
abbrev t_tuple_6bbab3 : TypeId := 231
abbrev t_func_28711d : TypeId := 232
abbrev t_func_107fef : TypeId := 233
abbrev t_func_4c5a41 : TypeId := 234
abbrev t_func_c0f668 : TypeId := 235
abbrev t_func_7e92a9 : TypeId := 236
abbrev t_iter_Seq_uint32 : TypeId := 237
abbrev t_func_97756c : TypeId := 238
abbrev t_func_35449a : TypeId := 239
abbrev t_func_f5b424 : TypeId := 240
abbrev t_func_88aa4e : TypeId := 241
abbrev t_func_a7b1ea : TypeId := 242
abbrev t_func_d602f2 : TypeId := 243
abbrev t_func_e36004 : TypeId := 244
abbrev t_func_d9aaab : TypeId := 245
abbrev t_tuple_9585ce : TypeId := 246
abbrev t_func_a6381c : TypeId := 247
abbrev t_func_0da3a2 : TypeId := 248
abbrev t_func_31e686 : TypeId := 249
abbrev t_func_8c1e1b : TypeId := 250
abbrev t_func_183017 : TypeId := 251
abbrev t_tuple_afdd50 : TypeId := 252
abbrev t_func_cc6d70 : TypeId := 253
abbrev t_tuple_f4bcd7 : TypeId := 254
abbrev t_func_595f21 : TypeId := 255
abbrev t_func_711200 : TypeId := 256
abbrev t_func_d9d0d2 : TypeId := 257
abbrev t_func_3c794f : TypeId := 258
abbrev t_func_024c65 : TypeId := 259
abbrev t_S_chain_link : TypeId := 260
abbrev t_struct_93e1c8 : TypeId := 261
abbrev t_chain_Chain : TypeId := 262
abbrev t_struct_5a4bd7 : TypeId := 263
abbrev t_chain_link : TypeId := 264
abbrev t_func_84336c : TypeId := 265
abbrev t_func_5e3313 : TypeId := 266
abbrev t_func_ca49b8 : TypeId := 267
abbrev t_func_6c6586 : TypeId := 268
abbrev t_func_0f2260 : TypeId := 269
abbrev t_func_8e0de9 : TypeId := 270
abbrev t_func_797c30 : TypeId := 271
abbrev t_func_75a4f5 : TypeId := 272
abbrev t_func_d52d0f : TypeId := 273
abbrev t_func_bf7837 : TypeId := 274
abbrev t_func_04e441 : TypeId := 275
abbrev t_func_47bd82 : TypeId := 276
abbrev t_func_b10a8b : TypeId := 277
abbrev t_func_4ff1cd : TypeId := 278
abbrev t_func_1d4c79 : TypeId := 279
abbrev t_func_307b2c : TypeId := 280
abbrev t_func_72c351 : TypeId := 281
abbrev t_tuple_b7c37c : TypeId := 282
abbrev t_func_a26dbc : TypeId := 283
abbrev t_func_7b7c3a : TypeId := 284
abbrev t_func_c70357 : TypeId := 285
abbrev t_func_54f5c4 : TypeId := 286
abbrev t_tuple_820e65 : TypeId := 287
abbrev t_func_242bff : TypeId := 288
abbrev t_tuple_159d1a : TypeId := 289
abbrev t_func_11c43c : TypeId := 290
abbrev t_tuple_7aa0ab : TypeId := 291
abbrev t_func_200069 : TypeId := 292
abbrev t_func_97b608 : TypeId := 293
abbrev t_func_702d57 : TypeId := 294
abbrev t_slices_sortedHint : TypeId := 295
abbrev t_tuple_f2b1c4 : TypeId := 296
abbrev t_func_5ad206 : TypeId := 297
abbrev t_func_b6261c : TypeId := 298
abbrev t_func_8b3874 : TypeId := 299
abbrev t_func_0ccf95 : TypeId := 300
abbrev t_func_753ef7 : TypeId := 301
abbrev t_func_3bfc12 : TypeId := 302
abbrev t_func_aba38d : TypeId := 303
abbrev t_func_4dc80a : TypeId := 304
abbrev t_func_b8b093 : TypeId := 305
abbrev t_func_2e91eb : TypeId := 306
abbrev t_func_fc5397 : TypeId := 307
abbrev t_func_f7e8aa : TypeId := 308
abbrev t_func_aae6c5 : TypeId := 309
abbrev t_func_1dcff8 : TypeId := 310
abbrev t_func_9b61dd : TypeId := 311
abbrev t_func_1a972e : TypeId := 312
abbrev t_func_c96458 : TypeId := 313
abbrev t_func_21e048 : TypeId := 314
abbrev t_func_bdfd61 : TypeId := 315
abbrev t_func_29c4cc : TypeId := 316
abbrev t_struct_c8803d : TypeId := 317
abbrev t_sluice_pair : TypeId := 318
abbrev t_tuple_a1cac2 : TypeId := 319
abbrev t_func_824832 : TypeId := 320
abbrev t_tuple_8f5394 : TypeId := 321
abbrev t_func_c93c0d : TypeId := 322
abbrev t_func_82f2bf : TypeId := 323
abbrev t_func_e2d206 : TypeId := 324
abbrev t_func_7fe647 : TypeId := 325
abbrev t_func_4d1c10 : TypeId := 326
abbrev t_slices_xorshift : TypeId := 327
abbrev t_func_2bfd65 : TypeId := 328
abbrev t_func_6eaf89 : TypeId := 329
abbrev t_func_c44548 : TypeId := 330
abbrev t_func_1566f3 : TypeId := 331
abbrev t_func_ec1d57 : TypeId := 332
abbrev t_func_42ddac : TypeId := 333
abbrev t_func_e5eba5 : TypeId := 334
abbrev t_func_64abdb : TypeId := 335
abbrev t_func_4fab7b : TypeId := 336
abbrev t_P_sluice_pair : TypeId := 337
abbrev t_func_b9db1c : TypeId := 338
abbrev t_func_a88f6b : TypeId := 339
abbrev t_func_4980fd : TypeId := 340
abbrev t_tuple_be9d57 : TypeId := 341
abbrev t_func_7f2bd1 : TypeId := 342
abbrev t_func_e44140 : TypeId := 343
abbrev t_func_1329da : TypeId := 344
abbrev t_P_slices_xorshift : TypeId := 345
abbrev t_func_d95af4 : TypeId := 346
abbrev t_func_85b9d1 : TypeId := 347
abbrev t_func_9469cc : TypeId := 348
abbrev t_func_edb8e8 : TypeId := 349
abbrev t_func_2c8db6 : TypeId := 350
abbrev t_func_8d8f9a : TypeId := 351
abbrev t_func_b6004e : TypeId := 352
abbrev t_A64_uint8 : TypeId := 353
abbrev t_S_S_api_Msg : TypeId := 354
abbrev t_func_3e7d85 : TypeId := 355
abbrev t_func_7f029d : TypeId := 356
abbrev t_func_d84239 : TypeId := 357
abbrev t_func_e30a21 : TypeId := 358
abbrev t_func_fe1f55 : TypeId := 359
abbrev t_struct_4efbc9 : TypeId := 360
abbrev t_runtime_TypeAssertionError : TypeId := 361
abbrev t_A0_P_runtime_PanicNilError : TypeId := 362
abbrev t_struct_1a2872 : TypeId := 363
abbrev t_runtime_PanicNilError : TypeId := 364
abbrev t_abi_TFlag : TypeId := 365
abbrev t_abi_Kind : TypeId := 366
abbrev t_func_28706d : TypeId := 367
abbrev t_P_uint8 : TypeId := 368
abbrev t_abi_NameOff : TypeId := 369
abbrev t_abi_TypeOff : TypeId := 370
abbrev t_struct_046612 : TypeId := 371
abbrev t_abi_Type : TypeId := 372
abbrev t_unsafe_Pointer : TypeId := 373
def bt_api_Config : Option BInfo := some ⟨#[(.int .i64 0), (.int .i64 0), (.int .i64 0), (.int .i64 0), (.int .i64 0), (.int .i64 0), (.int .i64 0), (.int .i64 0)], [(0, 1), (1, 1), (2, 1), (3, 1), (4, 1), (5, 1), (6, 1), (7, 1)]⟩
def bt_api_Stats : Option BInfo := some ⟨#[(.int .u64 0), (.int .u64 0)], [(0, 1), (1, 1)]⟩
def bt_kv_Store : Option BInfo := some ⟨#[(.int .i64 0), (.int .i64 0), (.int .i64 0), (.int .i64 0), (.int .i64 0), (.int .i64 0), (.int .i64 0), (.int .i64 0), (.pointer none), (.bool false), (.int .u64 0), (.int .u64 0), (.int .u64 0), (.int .u64 0)], [(0, 8), (8, 1), (9, 1), (10, 2), (12, 2)]⟩
def bt_sluicegateref27_Answer : Option BInfo := some ⟨#[(.int .i64 0), (.string ⟨#[]⟩), (.slice none 0 0)], [(0, 1), (1, 1), (2, 1)]⟩
def bt_walk_Report : Option BInfo := some ⟨#[(.int .i64 0), (.int .i64 0), (.int .i64 0), (.int .i64 0), (.int .i64 0)], [(0, 1), (1, 1), (2, 1), (3, 1), (4, 1)]⟩
def bt_api_Msg : Option BInfo := some ⟨#[(.string ⟨#[]⟩), (.bool false), (.string ⟨#[]⟩)], [(0, 1), (1, 1), (2, 1)]⟩
def bt_api_Span : Option BInfo := some ⟨#[(.string ⟨#[]⟩), (.string ⟨#[]⟩), (.bool false)], [(0, 1), (1, 1), (2, 1)]⟩
def bt_head_Head : Option BInfo := some ⟨#[(.int .i64 0), (.int .i64 0), (.int .i64 0), (.int .i64 0), (.int .i64 0), (.int .i64 0), (.int .i64 0), (.int .i64 0), (.int .u32 0), (.int .i64 0)], [(0, 8), (8, 1), (9, 1)]⟩
def bt_mount_Mount : Option BInfo := some ⟨#[(.pointer none), (.pointer none)], [(0, 1), (1, 1)]⟩
def bt_dev_Device : Option BInfo := some ⟨#[(.int .i64 0), (.slice none 0 0), (.int .u64 0), (.int .u64 0)], [(0, 1), (1, 1), (2, 2)]⟩
def bt_api_Node : Option BInfo := some ⟨#[(.int .i64 0), (.slice none 0 0), (.slice none 0 0), (.slice none 0 0), (.slice none 0 0)], [(0, 1), (1, 1), (2, 1), (3, 1), (4, 1)]⟩
def bt_tree_Tree : Option BInfo := some ⟨#[(.pointer none), (.int .u32 0), (.int .i64 0), (.int .i64 0), (.int .i64 0), (.int .i64 0)], [(0, 1), (1, 1), (2, 1), (3, 3)]⟩
def bt_shelf_Shelf : Option BInfo := some ⟨#[(.int .i64 0), (.int .i64 0), (.int .i64 0), (.int .i64 0), (.int .i64 0), (.int .i64 0), (.int .i64 0), (.int .i64 0), (.pointer none), (.pointer none), (.pointer none), (.int .u32 0)], [(0, 8), (8, 1), (9, 1), (10, 1), (11, 1)]⟩
def bt_scan_scanner : Option BInfo := some ⟨#[(.pointer none), (.int .i64 0), (.slice none 0 0)], [(0, 1), (1, 1), (2, 1)]⟩
def bt_A9_P_int : Option BInfo := some ⟨#[(.pointer none), (.pointer none), (.pointer none), (.pointer none), (.pointer none), (.pointer none), (.pointer none), (.pointer none), (.pointer none)], [(0, 1), (1, 1), (2, 1), (3, 1), (4, 1), (5, 1), (6, 1), (7, 1), (8, 1)]⟩
def bt_walk_walker : Option BInfo := some ⟨#[(.pointer none), (.map none), .nilFunc, (.bool false)], [(0, 1), (1, 1), (2, 1), (3, 1)]⟩
def bt_pool_Pool : Option BInfo := some ⟨#[(.pointer none)], [(0, 1)]⟩
def bt_cache_frame : Option BInfo := some ⟨#[(.int .u32 0), (.slice none 0 0), (.bool false), (.int .i64 0)], [(0, 1), (1, 1), (2, 1), (3, 1)]⟩
def bt_cache_Cache : Option BInfo := some ⟨#[(.pointer none), (.slice none 0 0), (.map none), (.slice none 0 0), (.pointer none)], [(0, 1), (1, 1), (2, 1), (3, 1), (4, 1)]⟩
def bt_bits_Row : Option BInfo := some ⟨#[(.int .i64 0), (.int .i64 0), (.slice none 0 0)], [(0, 1), (1, 1), (2, 1)]⟩
def bt_api_Pair : Option BInfo := some ⟨#[(.string ⟨#[]⟩), (.string ⟨#[]⟩)], [(0, 1), (1, 1)]⟩
def bt_word_Reader : Option BInfo := some ⟨#[(.slice none 0 0), (.int .i64 0)], [(0, 1), (1, 1)]⟩
def bt_chain_Chain : Option BInfo := some ⟨#[(.slice none 0 0), (.int .i64 0)], [(0, 1), (1, 1)]⟩
def bt_chain_link : Option BInfo := some ⟨#[(.int .i64 0), (.int .i64 0), (.bool false)], [(0, 1), (1, 1), (2, 1)]⟩
def bt_sluice_pair : Option BInfo := some ⟨#[(.int .i64 0), (.slice none 0 0), (.slice none 0 0), (.slice none 0 0), (.slice none 0 0), (.int .i64 0), (.slice none 0 0), (.slice none 0 0), (.slice none 0 0), (.slice none 0 0), (.int .i64 0)], [(0, 5), (5, 5), (10, 1)]⟩
def bt_A64_uint8 : Option BInfo := some ⟨#[(.int .u8 0), (.int .u8 0), (.int .u8 0), (.int .u8 0), (.int .u8 0), (.int .u8 0), (.int .u8 0), (.int .u8 0), (.int .u8 0), (.int .u8 0), (.int .u8 0), (.int .u8 0), (.int .u8 0), (.int .u8 0), (.int .u8 0), (.int .u8 0), (.int .u8 0), (.int .u8 0), (.int .u8 0), (.int .u8 0), (.int .u8 0), (.int .u8 0), (.int .u8 0), (.int .u8 0), (.int .u8 0), (.int .u8 0), (.int .u8 0), (.int .u8 0), (.int .u8 0), (.int .u8 0), (.int .u8 0), (.int .u8 0), (.int .u8 0), (.int .u8 0), (.int .u8 0), (.int .u8 0), (.int .u8 0), (.int .u8 0), (.int .u8 0), (.int .u8 0), (.int .u8 0), (.int .u8 0), (.int .u8 0), (.int .u8 0), (.int .u8 0), (.int .u8 0), (.int .u8 0), (.int .u8 0), (.int .u8 0), (.int .u8 0), (.int .u8 0), (.int .u8 0), (.int .u8 0), (.int .u8 0), (.int .u8 0), (.int .u8 0), (.int .u8 0), (.int .u8 0), (.int .u8 0), (.int .u8 0), (.int .u8 0), (.int .u8 0), (.int .u8 0), (.int .u8 0)], [(0, 1), (1, 1), (2, 1), (3, 1), (4, 1), (5, 1), (6, 1), (7, 1), (8, 1), (9, 1), (10, 1), (11, 1), (12, 1), (13, 1), (14, 1), (15, 1), (16, 1), (17, 1), (18, 1), (19, 1), (20, 1), (21, 1), (22, 1), (23, 1), (24, 1), (25, 1), (26, 1), (27, 1), (28, 1), (29, 1), (30, 1), (31, 1), (32, 1), (33, 1), (34, 1), (35, 1), (36, 1), (37, 1), (38, 1), (39, 1), (40, 1), (41, 1), (42, 1), (43, 1), (44, 1), (45, 1), (46, 1), (47, 1), (48, 1), (49, 1), (50, 1), (51, 1), (52, 1), (53, 1), (54, 1), (55, 1), (56, 1), (57, 1), (58, 1), (59, 1), (60, 1), (61, 1), (62, 1), (63, 1)]⟩
def st_S_P_kv_Store : Option (Array Value × Nat × TypeId) := some (#[(.pointer none)], 1, t_P_kv_Store)
def st_S_api_Pair : Option (Array Value × Nat × TypeId) := some (#[(.string ⟨#[]⟩), (.string ⟨#[]⟩)], 2, t_api_Pair)
def st_S_uint8 : Option (Array Value × Nat × TypeId) := some (#[(.int .u8 0)], 1, t_uint8)
def st_S_uint32 : Option (Array Value × Nat × TypeId) := some (#[(.int .u32 0)], 1, t_uint32)
def st_S_string : Option (Array Value × Nat × TypeId) := some (#[(.string ⟨#[]⟩)], 1, t_string)
def st_S_api_Msg : Option (Array Value × Nat × TypeId) := some (#[(.string ⟨#[]⟩), (.bool false), (.string ⟨#[]⟩)], 3, t_api_Msg)
def st_S_api_Node : Option (Array Value × Nat × TypeId) := some (#[(.int .i64 0), (.slice none 0 0), (.slice none 0 0), (.slice none 0 0), (.slice none 0 0)], 5, t_api_Node)
def st_S_S_uint8 : Option (Array Value × Nat × TypeId) := some (#[(.slice none 0 0)], 1, t_S_uint8)
def st_S_int : Option (Array Value × Nat × TypeId) := some (#[(.int .i64 0)], 1, t_int)
def st_S_S_api_Msg : Option (Array Value × Nat × TypeId) := some (#[(.slice none 0 0)], 1, t_S_api_Msg)
def zt_int : Option Value := some (.int .i64 0)
def zt_string : Option Value := some (.string ⟨#[]⟩)
def zt_api_Config : Option Value := some (.agg #[(.int .i64 0), (.int .i64 0), (.int .i64 0), (.int .i64 0), (.int .i64 0), (.int .i64 0), (.int .i64 0), (.int .i64 0)])
def zt_api_Stats : Option Value := some (.agg #[(.int .u64 0), (.int .u64 0)])
def zt_S_api_Pair : Option Value := some (.slice none 0 0)
def zt_sluicegateref27_Answer : Option Value := some (.agg #[(.int .i64 0), (.string ⟨#[]⟩), (.slice none 0 0)])
def zt_S_uint8 : Option Value := some (.slice none 0 0)
def zt_walk_Report : Option Value := some (.agg #[(.int .i64 0), (.int .i64 0), (.int .i64 0), (.int .i64 0), (.int .i64 0)])
def zt_api_Msg : Option Value := some (.agg #[(.string ⟨#[]⟩), (.bool false), (.string ⟨#[]⟩)])
def zt_api_Span : Option Value := some (.agg #[(.string ⟨#[]⟩), (.string ⟨#[]⟩), (.bool false)])
def zt_head_Head : Option Value := some (.agg #[(.int .i64 0), (.int .i64 0), (.int .i64 0), (.int .i64 0), (.int .i64 0), (.int .i64 0), (.int .i64 0), (.int .i64 0), (.int .u32 0), (.int .i64 0)])
def zt_S_uint32 : Option Value := some (.slice none 0 0)
def zt_api_Node : Option Value := some (.agg #[(.int .i64 0), (.slice none 0 0), (.slice none 0 0), (.slice none 0 0), (.slice none 0 0)])
def zt_A9_P_int : Option Value := some (.agg #[(.pointer none), (.pointer none), (.pointer none), (.pointer none), (.pointer none), (.pointer none), (.pointer none), (.pointer none), (.pointer none)])
def zt_S_api_Node : Option Value := some (.slice none 0 0)
def zt_api_Pair : Option Value := some (.agg #[(.string ⟨#[]⟩), (.string ⟨#[]⟩)])
def zt_chain_link : Option Value := some (.agg #[(.int .i64 0), (.int .i64 0), (.bool false)])
def zt_sluice_pair : Option Value := some (.agg #[(.int .i64 0), (.slice none 0 0), (.slice none 0 0), (.slice none 0 0), (.slice none 0 0), (.int .i64 0), (.slice none 0 0), (.slice none 0 0), (.slice none 0 0), (.slice none 0 0), (.int .i64 0)])
def zt_slices_xorshift : Option Value := some (.int .u64 0)
end Go.Sg
namespace Go.Sg
open Go Vc Go.Proofs
abbrev Kt := Value → Heap → Prop
abbrev Nt := List Value → Heap → Prop
noncomputable abbrev Pg : Program := Tryz.prog
theorem mixed : Pg.follows .mixedOrders = true := by kernel_rfl
theorem cv {f : FuncId} {fn : Func} {args : List Value} {h : Heap} {K : Value → Heap → Prop} {A : Prop} (hf : Pg.funcs[f]? = some fn) (e : body Pg fn args h K = A) (hh : A) : CaP Pg true f args.toArray h K := calls_of_vc mixed hf (by rw [List.toList_toArray, e]; exact hh)
def Ca (f : FuncId) (args : Array Value) (h : Heap) (K : Value → Heap → Prop) : Prop := CaP Pg true f args h K
def Cx (f : FuncId) (args : Array Value) (h : Heap) (K : Value → Heap → Prop) : Prop := CaP Pg false f args h K
def EqP (op : BinOp) (t : TypeId) (xo yo : Operand) (x y : Value) (h : Heap) (K : Value → Heap → Prop) : Prop := VH Pg (do eqGuard op t xo yo x y; binOp op t x y) h K
end Go.Sg
/-! The words of the shapes at values that are known: memory, numbers, texts. -/
namespace Go.Sg
open Go Vc

abbrev Str := List UInt8
/-- A text, as a value. -/
def str (s : Str) : Value := .string ⟨s.toArray⟩
abbrev ptr (b o : Nat) : Value := .pointer (some ⟨b, o, none⟩)
abbrev int (n : Int) : Value := .int .i64 n

theorem str_inj {a b : Str} : str a = str b ↔ a = b := by
  constructor
  · intro h; unfold str at h; injection h with h; injection h with h; exact List.toArray_inj h
  · rintro rfl; rfl

/-! ### Memory -/
/-- Nothing that was there has turned but what M says. -/
structure Ex (M : Nat → Prop) (h h' : Heap) : Prop where
  le : h.size ≤ h'.size
  eq : ∀ b, b < h.size → ¬ M b → h'[b]? = h[b]?
abbrev No : Nat → Prop := fun _ => False
abbrev Ext (h h' : Heap) : Prop := Ex No h h'
theorem Ex.refl (M) (h : Heap) : Ex M h h := ⟨Nat.le_refl _, fun _ _ _ => rfl⟩
theorem Ex.trans {M} {a b c : Heap} (h : Ex M a b) (k : Ex M b c) : Ex M a c :=
  ⟨Nat.le_trans h.le k.le, fun x hx hm => (k.eq x (Nat.lt_of_lt_of_le hx h.le) hm).trans (h.eq x hx hm)⟩
theorem Ex.mono {M N : Nat → Prop} {a b : Heap} (h : Ex M a b) (k : ∀ x, x < a.size → M x → N x) : Ex N a b :=
  ⟨h.le, fun x hx hm => h.eq x hx fun e => hm (k x hx e)⟩
theorem Ex.get {M} {a b : Heap} (h : Ex M a b) {x : Nat} {o : Obj} (k : a[x]? = some o) (hm : ¬ M x) : b[x]? = some o := by
  rw [h.eq x (Array.getElem?_eq_some_iff.1 k).1 hm, k]
theorem Ex.toM {M} {a b : Heap} (h : Ext a b) : Ex M a b := Ex.mono h fun _ _ e => e.elim
theorem Ext.get {a b : Heap} (h : Ext a b) {x : Nat} {o : Obj} (k : a[x]? = some o) : b[x]? = some o := Ex.get h k (fun e => e)

theorem Ex.andThen {M} {a b c : Heap} (h : Ext a b) (k : Ex M b c) (hm : ∀ x, x < a.size → ¬ M x) : Ext a c :=
  ⟨Nat.le_trans h.le k.le, fun x hx _ => (k.eq x (Nat.lt_of_lt_of_le hx h.le) (hm x hx)).trans (h.eq x hx (fun e => e))⟩
theorem Ex.own {n0} {a b c : Heap} (h : Ext a b) (k : Ex (fun x => n0 ≤ x) b c) (hn : a.size ≤ n0) : Ext a c := h.andThen k fun x hx => by omega
/-- A block's cells, none of them frozen. -/
def Blk (h : Heap) (b : Nat) (cs : List Value) : Prop := ∃ T, h[b]? = some (.cells cs.toArray T (0, 0))
theorem Blk.lt {h : Heap} {b cs} (k : Blk h b cs) : b < h.size := by
  obtain ⟨T, k⟩ := k; exact (Array.getElem?_eq_some_iff.1 k).1
theorem Blk.ex {M} {h h' : Heap} {b cs} (k : Blk h b cs) (e : Ex M h h') (hm : ¬ M b) : Blk h' b cs := by
  obtain ⟨T, k⟩ := k; exact ⟨T, e.get k hm⟩
theorem Blk.ext {h h' : Heap} {b cs} (k : Blk h b cs) (e : Ext h h') : Blk h' b cs := k.ex e fun x => x
theorem Blk.get {h : Heap} {b cs} (k : Blk h b cs) (o : Nat) : hget h b o = cs[o]? := by
  obtain ⟨T, k⟩ := k; simp [hget, k]
theorem Blk.fz {h : Heap} {b cs} (k : Blk h b cs) (o : Nat) : hfz h b o = false := by
  obtain ⟨T, k⟩ := k; simp [hfz, k]
theorem Blk.uniq {h : Heap} {b cs ds} (k : Blk h b cs) (l : Blk h b ds) : cs = ds := by
  obtain ⟨T, k⟩ := k; obtain ⟨S, l⟩ := l
  rw [k] at l
  injection l with l; injection l with l
  simpa using l

theorem push_ext (h : Heap) (o : Obj) : Ext h (h.push o) :=
  ⟨by simp, fun b hb _ => by rw [Array.getElem?_push]; rw [if_neg (by omega)]⟩
theorem push_blk (h : Heap) (cs : Array Value) (T) : Blk (h.push (.cells cs T (0, 0))) h.size cs.toList :=
  ⟨T, by rw [Array.getElem?_push, if_pos rfl]⟩

theorem size_hset (h : Heap) (b o v) : (hset h b o v).size = h.size := by simp [hset]
theorem hset_ne {h : Heap} {b o v c} (hc : c ≠ b) : (hset h b o v)[c]? = h[c]? := by
  rw [hset, Array.getElem?_modify, if_neg (Ne.symm hc)]
theorem hset_blk {h : Heap} {b cs} (k : Blk h b cs) (o v) : Blk (hset h b o v) b (cs.set o v) := by
  obtain ⟨T, k⟩ := k
  refine ⟨T, ?_⟩
  rw [hset, Array.getElem?_modify, if_pos rfl, k]
  simp
theorem hset_blk_ne {h : Heap} {b o v c cs} (k : Blk h c cs) (hc : c ≠ b) : Blk (hset h b o v) c cs := by
  obtain ⟨T, k⟩ := k; exact ⟨T, by rw [hset_ne hc, k]⟩
theorem hset_ex {h : Heap} {b o v} {M : Nat → Prop} (hm : M b) : Ex M h (hset h b o v) :=
  ⟨by rw [size_hset]; exact Nat.le_refl _, fun c _ hc => hset_ne (fun e => hc (by rw [e]; exact hm))⟩
theorem size_hsets (b : Nat) : ∀ (vs : List Value) (h : Heap) (o : Nat), (hsets h b o vs).size = h.size
  | [], _, _ => rfl
  | v :: vs, h, o => by rw [hsets, size_hsets b vs, size_hset]
/-- The cells with some written over from o on. -/
def over (cs : List Value) (o : Nat) : List Value → List Value
  | [] => cs
  | v :: vs => over (cs.set o v) (o + 1) vs
theorem hsets_blk {b : Nat} : ∀ (vs : List Value) {h : Heap} {cs : List Value} (o : Nat), Blk h b cs → Blk (hsets h b o vs) b (over cs o vs)
  | [], _, _, _, k => k
  | v :: vs, _, _, o, k => by rw [hsets, over]; exact hsets_blk vs (o + 1) (hset_blk k o v)
theorem hsets_ne {b c : Nat} (hc : c ≠ b) : ∀ (vs : List Value) (h : Heap) (o : Nat), (hsets h b o vs)[c]? = h[c]?
  | [], _, _ => rfl
  | v :: vs, h, o => by rw [hsets, hsets_ne hc vs, hset_ne hc]
theorem hsets_ex {h : Heap} {b o vs} {M : Nat → Prop} (hm : M b) : Ex M h (hsets h b o vs) :=
  ⟨by rw [size_hsets]; exact Nat.le_refl _, fun c _ hc => hsets_ne (fun e => hc (by rw [e]; exact hm)) _ _ _⟩
theorem over_length (vs : List Value) : ∀ (cs : List Value) (o : Nat), (over cs o vs).length = cs.length := by
  induction vs with
  | nil => intro cs o; rfl
  | cons v vs ih => intro cs o; rw [over, ih, List.length_set]
theorem over_get (vs : List Value) : ∀ (cs : List Value) (o j : Nat), o + vs.length ≤ cs.length →
    (over cs o vs)[j]? = if o ≤ j ∧ j < o + vs.length then vs[j - o]? else cs[j]? := by
  induction vs with
  | nil => intro cs o j _; simp [over]; omega
  | cons v vs ih =>
    intro cs o j hl
    simp only [List.length_cons] at hl
    rw [over, ih _ _ _ (by rw [List.length_set]; omega)]
    by_cases h1 : j = o
    · subst h1
      rw [if_neg (by omega), if_pos (by simp), List.getElem?_set_self (by omega)]
      simp
    · by_cases h2 : o + 1 ≤ j ∧ j < o + 1 + vs.length
      · rw [if_pos h2, if_pos (by simp; omega)]
        obtain ⟨k, hk⟩ : ∃ k, j - o = k + 1 := ⟨j - o - 1, by omega⟩
        rw [hk, List.getElem?_cons_succ]
        congr 1; omega
      · rw [if_neg h2, if_neg (by simp; omega), List.getElem?_set_ne (by omega)]
theorem over_eq (vs cs : List Value) (o : Nat) (hl : o + vs.length ≤ cs.length) : over cs o vs = cs.take o ++ vs ++ cs.drop (o + vs.length) := by
  apply List.ext_getElem?
  intro j
  rw [over_get vs cs o j hl]
  simp only [List.append_assoc, List.getElem?_append, List.length_take, List.getElem?_take, List.getElem?_drop]
  rw [Nat.min_eq_left (by omega)]
  split
  · rename_i h; rw [if_neg (by omega), if_pos (by omega)]
  · rename_i h
    by_cases h1 : j < o
    · rw [if_pos h1, if_pos h1]
    · rw [if_neg h1, if_neg (by omega)]; congr 1; omega
theorem over_all (vs cs : List Value) (hl : vs.length = cs.length) : over cs 0 vs = vs := by
  rw [over_eq _ _ _ (by omega)]; simp [hl]

/-! ### The words at known values -/
section
variable {h : Heap} {K : Value → Prop} {H : Heap → Prop} {Q : Value → Heap → Prop} {A B : Prop}
@[simp] theorem gv_zero (a : Value) (l) : gv (a :: l) 0 = a := rfl
@[simp] theorem gv_succ (a : Value) (l n) : gv (a :: l) (n + 1) = gv l n := rfl
@[simp] theorem CdP_true : CdP (.bool true) A B ↔ A := Iff.rfl
@[simp] theorem CdP_false : CdP (.bool false) A B ↔ B := Iff.rfl
theorem CdP_bool {b : Bool} : CdP (.bool b) A B ↔ (b = true → A) ∧ (b = false → B) := by cases b <;> simp
theorem cd {b : Bool} (t : b = true → A) (f : b = false → B) : CdP (.bool b) A B := CdP_bool.2 ⟨t, f⟩
theorem cdp {p : Prop} [Decidable p] (t : p → A) (f : ¬ p → B) : CdP (.bool (decide p)) A B := cd (fun e => t (of_decide_eq_true e)) (fun e => f (of_decide_eq_false e))
@[simp] theorem PickP_true {a b} : PickP (.bool true) a b K ↔ K a := Iff.rfl
@[simp] theorem PickP_false {a b} : PickP (.bool false) a b K ↔ K b := Iff.rfl
@[simp] theorem NilP_ptr {b o} : NilP (ptr b o) K ↔ K (ptr b o) := by simp [NilP, nilOk]
@[simp] theorem FaP_ptr {k b o} : FaP (some k) (ptr b o) K ↔ K (ptr b (o + k)) := by
  constructor
  · rintro ⟨b', o', e, k⟩; cases e; exact k
  · intro k; exact ⟨b, o, rfl, k⟩
@[simp] theorem LdP_ptr {b o} : LdP (ptr b o) h K ↔ ∃ v, hget h b o = some v ∧ K v := by
  constructor
  · rintro ⟨b', o', v, e, k⟩; cases e; exact ⟨v, k⟩
  · rintro ⟨v, k⟩; exact ⟨b, o, v, rfl, k⟩
@[simp] theorem Fl_ptr {k b o} : Fl k (ptr b o) h K ↔ ∃ v, hget h b (o + k) = some v ∧ K v := by simp [Fl]
@[simp] theorem Fv_ptr {k b o} : Fv k (ptr b o) h K ↔ ∃ v, hget h b (o + k) = some v ∧ K v := by simp [Fv]
@[simp] theorem LenP_slice {a n c} : LenP (some true) (.slice a n c) K ↔ K (int n) := by
  constructor
  · rintro ⟨a', n', c', e, k⟩; cases e; exact k
  · intro k; exact ⟨a, n, c, rfl, k⟩
@[simp] theorem LenP_str {s : Str} : LenP (some false) (str s) K ↔ K (int s.length) := by
  constructor
  · rintro ⟨a', e, k⟩; cases e; exact k
  · intro k; exact ⟨_, rfl, k⟩
@[simp] theorem ExP_tuple {vs : Array Value} {i} : ExP (.tuple vs) i K ↔ ∃ v, vs[i]? = some v ∧ K v := by
  constructor
  · rintro ⟨vs', v, e, k⟩; cases e; exact ⟨v, k⟩
  · rintro ⟨v, k⟩; exact ⟨vs, v, rfl, k⟩
@[simp] theorem UnP_not {b} : UnP .not (.bool b) K ↔ K (.bool !b) := by simp [UnP, unVal]
theorem ld {b o v} (e : hget h b o = some v) (k : K v) : LdP (ptr b o) h K := LdP_ptr.2 ⟨v, e, k⟩
theorem fl {k b o v} (e : hget h b (o + k) = some v) (r : K v) : Fl k (ptr b o) h K := Fl_ptr.2 ⟨v, e, r⟩
theorem fv {k b o v} (e : hget h b (o + k) = some v) (r : K v) : Fv k (ptr b o) h K := Fv_ptr.2 ⟨v, e, r⟩
/-- A struct loaded out of a block. -/
theorem LdA_blk {b n cs} (k : Blk h b cs) (hn : cs.length = n) (r : K (.agg cs.toArray)) : LdA n (ptr b 0) h K :=
  ⟨b, 0, cs, rfl, hn, fun j v e => by rw [k.get]; simpa using e, r⟩
theorem LdA_at {b o n} {cs : List Value} (k : ∀ j v, cs[j]? = some v → hget h b (o + j) = some v) (hn : cs.length = n) (r : K (.agg cs.toArray)) : LdA n (ptr b o) h K :=
  ⟨b, o, cs, rfl, hn, k, r⟩
theorem StP_blk {b o v cs} (k : Blk h b cs) (ho : o < cs.length) (hv : one' v = true) (r : H (hset h b o v)) : StP (ptr b o) v h H :=
  ⟨b, o, rfl, by rw [k.get, List.getElem?_eq_getElem ho]; rfl, k.fz o, hv, r⟩
theorem Fs_blk {i b o v cs} (k : Blk h b cs) (ho : o + i < cs.length) (hv : one' v = true) (r : H (hset h b (o + i) v)) : Fs i (ptr b o) v h H := by
  simp only [Fs, NilP_ptr, FaP_ptr]; exact StP_blk k ho hv r
theorem StA_blk {b o n vs cs} (k : Blk h b cs) (ho : o + n ≤ cs.length) (hn : vs.length = n) (hv : vs.all one' = true) (r : H (hsets h b o vs)) : StA n (ptr b o) (.agg vs.toArray) h H :=
  ⟨b, o, vs.toArray, rfl, rfl, by simpa using hn, by simpa using hv, fun j hj => ⟨by rw [k.get, List.getElem?_eq_getElem (by omega)]; rfl, k.fz _⟩, by simpa using r⟩

/-- A new variable. -/
theorem bx {t v} (r : ∀ b h', Ext h h' → b = h.size → Blk h' b v.cells.toList → h'.size = h.size + 1 → Q (ptr b 0) h') : BxP t v h Q :=
  r _ _ (push_ext _ _) rfl (push_blk _ _ _) (by simp)
theorem al {t v} (r : ∀ b h', Ext h h' → b = h.size → Blk h' b v.cells.toList → h'.size = h.size + 1 → Q (ptr b 0) h') : AlP t (some v) h Q :=
  ⟨v, rfl, bx r⟩
/-- A new variable and its first value. -/
theorem alst {t n vs} {zs : Array Value} {R : Value → Heap → Prop} (hz : zs.size = n) (hn : vs.length = n) (hv : vs.all one' = true)
    (r : ∀ b h', Ext h h' → b = h.size → Blk h' b vs → h'.size = h.size + 1 → R (ptr b 0) h') : AlP t (some (.agg zs)) h fun x h' => StA n x (.agg vs.toArray) h' fun h'' => R x h'' := by
  refine ⟨_, rfl, ?_⟩
  have k : Blk (h.push (.cells zs t (0, 0))) h.size zs.toList := push_blk _ _ _
  refine StA_blk k (by simp; omega) hn hv ?_
  have k2 := hsets_blk vs 0 k
  rw [over_all _ _ (by simp; omega)] at k2
  refine r _ _ ⟨by rw [size_hsets]; simp, fun b hb _ => ?_⟩ rfl k2 (by rw [size_hsets]; simp)
  rw [hsets_ne (by omega)]
  exact (push_ext h _).eq b hb (fun e => e)

/-! Numbers. -/
theorem wrap64 {n : Int} (h1 : -9223372036854775808 ≤ n) (h2 : n < 9223372036854775808) : IntKind.wrap .i64 n = n := by
  have : IntKind.bits .i64 = 64 := rfl
  simp only [IntKind.wrap, this, IntKind.signed]
  simp only [Bool.true_and, decide_eq_true_eq]
  omega
theorem wrapU {k : IntKind} {n : Int} (hs : k.signed = false) (h1 : 0 ≤ n) (h2 : n < 2 ^ k.bits) : k.wrap n = n := by
  simp only [IntKind.wrap, hs, Bool.false_and]
  simp only [Bool.false_eq_true, if_false]
  exact Int.emod_eq_of_lt h1 h2
theorem BiP_some {op x y v} (e : binVal op x y = some v) : BiP op x y K ↔ K v := by simp [BiP, e]
theorem add64 {a b : Int} (hr : -9223372036854775808 ≤ a + b ∧ a + b < 9223372036854775808) (r : K (int (a + b))) : BiP .add (int a) (int b) K :=
  ⟨_, by simp [binVal]; rfl, by rw [wrap64 hr.1 hr.2]; exact r⟩
theorem sub64 {a b : Int} (hr : -9223372036854775808 ≤ a - b ∧ a - b < 9223372036854775808) (r : K (int (a - b))) : BiP .sub (int a) (int b) K :=
  ⟨_, by simp [binVal]; rfl, by rw [wrap64 hr.1 hr.2]; exact r⟩
theorem mul64 {a b : Int} (hr : -9223372036854775808 ≤ a * b ∧ a * b < 9223372036854775808) (r : K (int (a * b))) : BiP .mul (int a) (int b) K :=
  ⟨_, by simp [binVal]; rfl, by rw [wrap64 hr.1 hr.2]; exact r⟩
theorem quo64 {a b : Int} (hb : b ≠ 0) (hr : -9223372036854775808 ≤ a.tdiv b ∧ a.tdiv b < 9223372036854775808) (r : K (int (a.tdiv b))) : BiP .quo (int a) (int b) K :=
  ⟨_, by simp [binVal, hb]; rfl, by rw [wrap64 hr.1 hr.2]; exact r⟩
theorem rem64 {a b : Int} (hb : b ≠ 0) (r : K (int (a.tmod b))) : BiP .rem (int a) (int b) K :=
  ⟨_, by simp [binVal, hb], r⟩
@[simp] theorem BiP_lss {k a b} : BiP .lss (.int k a) (.int k b) K ↔ K (.bool (decide (a < b))) := by simp [BiP, binVal]
@[simp] theorem BiP_leq {k a b} : BiP .leq (.int k a) (.int k b) K ↔ K (.bool (decide (a ≤ b))) := by simp [BiP, binVal]
@[simp] theorem BiP_gtr {k a b} : BiP .gtr (.int k a) (.int k b) K ↔ K (.bool (decide (b < a))) := by simp [BiP, binVal]
@[simp] theorem BiP_geq {k a b} : BiP .geq (.int k a) (.int k b) K ↔ K (.bool (decide (b ≤ a))) := by simp [BiP, binVal]
@[simp] theorem BiP_eql {k a b} : BiP .eql (.int k a) (.int k b) K ↔ K (.bool (decide (a = b))) := by
  have : (a == b) = decide (a = b) := rfl
  simp [BiP, binVal, this]
@[simp] theorem BiP_neq {k a b} : BiP .neq (.int k a) (.int k b) K ↔ K (.bool (decide (a ≠ b))) := by
  have : (a != b) = decide (a ≠ b) := by by_cases h : a = b <;> simp [h]
  simp [BiP, binVal, this]
@[simp] theorem CvP_int {k k' n} : CvP k (.int k' n) K ↔ K (.int k (k.wrap n)) := by
  constructor
  · rintro ⟨a, b, e, r⟩; cases e; exact r
  · intro r; exact ⟨_, _, rfl, r⟩

/-! Texts. -/
theorem toList_str (s : Str) : (ByteArray.mk s.toArray).toList = s := by rw [Go.ByteArray.toList_eq]
theorem bytesLess_iff : ∀ (a b : Str), Op.bytesLess a b = true ↔ a < b
  | [], [] => by simp [Op.bytesLess]
  | [], _ :: _ => by simp [Op.bytesLess]
  | _ :: _, [] => by simp [Op.bytesLess]
  | x :: a, y :: b => by
    rw [Op.bytesLess]
    rw [List.cons_lt_cons_iff]
    have := bytesLess_iff a b
    by_cases h1 : x < y
    · simp [h1]
    · by_cases h2 : x = y
      · subst h2; simp [this]
      · have : y < x := by
          rcases UInt8.lt_or_le y x with h | h
          · exact h
          · exact absurd (UInt8.lt_of_le_of_ne (UInt8.not_lt.1 h1) (Ne.symm h2)) (UInt8.not_lt.2 h)
        simp [h1, h2]
@[simp] theorem BiP_seql {a b : Str} : BiP .eql (str a) (str b) K ↔ K (.bool (decide (a = b))) := by
  have : (a == b) = decide (a = b) := by by_cases h : a = b <;> simp [h]
  simp only [BiP, binVal, str, toList_str, Option.some.injEq, exists_eq_left', this]
@[simp] theorem BiP_sneq {a b : Str} : BiP .neq (str a) (str b) K ↔ K (.bool (decide (a ≠ b))) := by
  simp only [BiP, binVal, str, toList_str, Option.some.injEq, exists_eq_left']
  have : (!(a == b)) = decide (a ≠ b) := by
    by_cases h : a = b <;> simp [h]
  rw [this]
theorem bl_eq {a b : Str} : Vc.bytesLt a b = decide (a < b) := by
  by_cases h : a < b
  · simp [h, Vc.bytesLt, (bytesLess_iff a b).2 h]
  · have : ¬ (Op.bytesLess a b = true) := fun e => h ((bytesLess_iff a b).1 e)
    simp [h, Vc.bytesLt, this]
@[simp] theorem BiP_slss {a b : Str} : BiP .lss (str a) (str b) K ↔ K (.bool (decide (a < b))) := by
  simp only [BiP, binVal, str, toList_str, Option.some.injEq, exists_eq_left', bl_eq]
end
end Go.Sg
