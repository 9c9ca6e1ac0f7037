/-
  Part 11 of a proof: own texts, merged by program.
-/
import Derived.Test.YtoahnccffedojaaGreatDoorP03
import Derived.Test.YtoahnccffedojaaGreatDoorP10
set_option linter.unusedVariables false
set_option linter.unusedSimpArgs false
set_option maxRecDepth 100000
namespace Go.Sg
open Go Vc Go.Proofs
/- sluicegate/node.Key -/
def m_node_Key_j12 (x4_ : Value) (h : Heap) (K : Kt) : Prop :=
 K x4_ h
def m_node_Key (x0_ x1_ : Value) (h : Heap) (K : Kt) : Prop :=
 BxP t_api_Config x0_ h fun x2 h1 =>
 LenP (some false) x1_ fun x4 =>
 BiP .geq x4 (.int .i64 1) fun x5 =>
 CdP x5
 (LenP (some false) x1_ fun x6 =>
 Fv 6 x2 h1 fun x8 =>
 BiP .leq x6 x8 fun x9 =>
 m_node_Key_j12 x9 h1 K)
 (m_node_Key_j12 (.bool false) h1 K)
theorem m_node_Key_ok {x0_ x1_ : Value} {h : Heap} {K : Kt} (hh : m_node_Key x0_ x1_ h K) : Ca f_node_Key #[x0_, x1_] h K := cv Tryz.func35 (by kernel_rfl) hh
/- sluicegate/head.Encode -/
def m_head_Encode_j32 (x1_ x4_ : Value) (h : Heap) (K : Kt) : Prop :=
 Fv 8 x1_ h fun x34 =>
 CvP .u64 x34 fun x35 =>
 Ca f_word_Put #[x4_, (.int .i64 4), x35] h fun x37 h36 =>
 Fv 9 x1_ h36 fun x39 =>
 CvP .u64 x39 fun x40 =>
 Ca f_word_Put #[x37, (.int .i64 4), x40] h36 fun x42 h41 =>
 VH Pg (Builtin.append_ #[t_S_uint8, t_int] t_S_uint8 #[x42, (.int .i64 12)]) h41 fun x44 h43 =>
 BsP st_S_S_uint8 1 [(0, x44)] h43 fun x46 h45 =>
 Ca f_check_Sum #[x46] h45 fun x48 h47 =>
 CvP .u64 x48 fun x49 =>
 Ca f_word_Put #[x44, (.int .i64 4), x49] h47 fun x51 h50 =>
 FaP (some 0) x1_ fun x52 =>
 Fv 1 x52 h50 fun x54 =>
 LenP (some true) x51 fun x55 =>
 BiP .sub x54 x55 fun x56 =>
 VH Pg (Builtin.append_ #[t_S_uint8, t_int] t_S_uint8 #[x51, x56]) h50 fun x58 h57 =>
 K (.tuple #[x58, (.int .i64 0)]) h57
def m_head_Encode_l20 (vs : List Value) (x1_ x14_ x15_ : Value) (h : Heap) (nx21 : Nt) (K : Kt) : Prop :=
 BiP .lss (gv vs 1) x15_ fun x22 =>
 CdP x22
 (Ei 1 x14_ (gv vs 1) h fun x25 =>
 NilP x25 fun x26 =>
 LdP x26 h fun x27 =>
 CvP .u64 x27 fun x28 =>
 Ca f_word_Put #[(gv vs 0), (.int .i64 4), x28] h fun x30 h29 =>
 BiP .add (gv vs 1) (.int .i64 1) fun x31 =>
 nx21 [x30, x31] h29)
 (m_head_Encode_j32 x1_ (gv vs 0) h K)
def m_head_Encode (x0_ : Value) (h : Heap) (K : Kt) : Prop :=
 BxP t_head_Head x0_ h fun x2 h1 =>
 LdA 10 x2 h1 fun x3 =>
 Ca f_head_Right #[x3] h1 fun x5 h4 =>
 UnP .not x5 fun x6 =>
 CdP x6
 (K (.tuple #[(.slice none 0 0), (.int .i64 2)]) h4)
 (BsP st_S_uint8 8 [(0, (.int .u8 83)), (1, (.int .u8 76)), (2, (.int .u8 85)), (3, (.int .u8 73)), (4, (.int .u8 67)), (5, (.int .u8 69)), (6, (.int .u8 48)), (7, (.int .u8 49))] h4 fun x8 h7 =>
 VH Pg (convert t_S_uint8 t_S_uint8 x8) h7 fun x10 h9 =>
 Ca f_head_numbers #[x2] h9 fun x12 h11 =>
 AlP t_A9_P_int zt_A9_P_int h11 fun x14 h13 =>
 StA 9 x14 x12 h13 fun h15 =>
 VH Pg (Instr.sliceAt t_A9_P_int x14 none (some (.int .i64 8)) none) h15 fun x18 h17 =>
 LenP (some true) x18 fun x19 =>
 LoP (fun vt h nx21 => m_head_Encode_l20 vt x2 x18 x19 h nx21 K) [x10, (.int .i64 0)] h17)
theorem m_head_Encode_ok {x0_ : Value} {h : Heap} {K : Kt} (hh : m_head_Encode x0_ h K) : Ca f_head_Encode #[x0_] h K := cv Tryz.func48 (by kernel_rfl) hh
/- sluicegate/head.Decode -/
def m_head_Decode_j64 (x2_ x4_ : Value) (h : Heap) (K : Kt) : Prop :=
 LdA 10 x4_ h fun x65 =>
 StA 10 x2_ x65 h fun h66 =>
 LdA 10 x2_ h66 fun x67 =>
 K (.tuple #[x67, (.int .i64 0)]) h66
def m_head_Decode_j60 (x2_ x4_ x52_ : Value) (h : Heap) (K : Kt) : Prop :=
 CdP x52_
 (BlP bt_head_Head [] fun x61 =>
 StA 10 x2_ x61 h fun h62 =>
 LdA 10 x2_ h62 fun x63 =>
 K (.tuple #[x63, (.int .i64 12)]) h62)
 (m_head_Decode_j64 x2_ x4_ h K)
def m_head_Decode_j30 (x0_ x2_ x4_ x5_ : Value) (h : Heap) (K : Kt) : Prop :=
 Ca f_word_Reader_Num #[x5_, (.int .i64 4)] h fun x32 h31 =>
 CvP .u32 x32 fun x33 =>
 FaP (some 8) x4_ fun x34 =>
 StP x34 x33 h31 fun h35 =>
 Ca f_word_Reader_Num #[x5_, (.int .i64 4)] h35 fun x37 h36 =>
 CvP .i64 x37 fun x38 =>
 FaP (some 9) x4_ fun x39 =>
 StP x39 x38 h36 fun h40 =>
 Ca f_word_Reader_Err #[x5_] h40 fun x42 h41 =>
 BiP .neq x42 (.int .i64 0) fun x43 =>
 CdP x43
 (BlP bt_head_Head [] fun x44 =>
 StA 10 x2_ x44 h41 fun h45 =>
 LdA 10 x2_ h45 fun x46 =>
 K (.tuple #[x46, (.int .i64 12)]) h45)
 (LdA 10 x4_ h41 fun x48 =>
 Ca f_head_Encode #[x48] h41 fun x50 h49 =>
 ExP x50 0 fun x51 =>
 ExP x50 1 fun x52 =>
 BiP .neq x52 (.int .i64 0) fun x54 =>
 CdP x54
 (m_head_Decode_j60 x2_ x4_ (.bool true) h49 K)
 (Ca f_slices_Equal_byte #[x51, x0_] h49 fun x57 h56 =>
 UnP .not x57 fun x58 =>
 m_head_Decode_j60 x2_ x4_ x58 h56 K))
def m_head_Decode_l18 (vs : List Value) (x0_ x2_ x4_ x5_ x16_ x17_ : Value) (h : Heap) (nx19 : Nt) (K : Kt) : Prop :=
 BiP .lss (gv vs 0) x17_ fun x20 =>
 CdP x20
 (Ei 1 x16_ (gv vs 0) h fun x23 =>
 Ca f_word_Reader_Num #[x5_, (.int .i64 4)] h fun x25 h24 =>
 CvP .i64 x25 fun x26 =>
 NilP x23 fun x27 =>
 StP x27 x26 h24 fun h28 =>
 BiP .add (gv vs 0) (.int .i64 1) fun x29 =>
 nx19 [x29] h28)
 (m_head_Decode_j30 x0_ x2_ x4_ x5_ h K)
def m_head_Decode (x0_ : Value) (h : Heap) (K : Kt) : Prop :=
 AlP t_head_Head zt_head_Head h fun x2 h1 =>
 AlP t_head_Head zt_head_Head h1 fun x4 h3 =>
 Ca f_word_Open #[x0_] h3 fun x6 h5 =>
 Ca f_word_Reader_Raw #[x6, (.int .i64 8)] h5 fun x8 h7 =>
 Ca f_head_numbers #[x4] h7 fun x10 h9 =>
 AlP t_A9_P_int zt_A9_P_int h9 fun x12 h11 =>
 StA 9 x12 x10 h11 fun h13 =>
 VH Pg (Instr.sliceAt t_A9_P_int x12 none (some (.int .i64 8)) none) h13 fun x16 h15 =>
 LenP (some true) x16 fun x17 =>
 LoP (fun vt h nx19 => m_head_Decode_l18 vt x0_ x2 x4 x6 x16 x17 h nx19 K) [(.int .i64 0)] h15
theorem m_head_Decode_ok {x0_ : Value} {h : Heap} {K : Kt} (hh : m_head_Decode x0_ h K) : Ca f_head_Decode #[x0_] h K := cv Tryz.func67 (by kernel_rfl) hh
/- sluicegate/head.Right -/
def m_head_Right_j39 (x2_ : Value) (h : Heap) (K : Kt) : Prop :=
 K x2_ h
def m_head_Right (x0_ : Value) (h : Heap) (K : Kt) : Prop :=
 BxP t_head_Head x0_ h fun x2 h1 =>
 Fva 0 8 x2 h1 fun x5 =>
 Ca f_conf_Check #[x5] h1 fun x7 h6 =>
 BiP .eql x7 (.int .i64 0) fun x8 =>
 CdP x8
 (Fv 8 x2 h6 fun x10 =>
 BiP .geq x10 (.int .u32 1) fun x11 =>
 CdP x11
 (Fv 8 x2 h6 fun x14 =>
 CvP .i64 x14 fun x15 =>
 FaP (some 0) x2 fun x16 =>
 Fv 0 x16 h6 fun x18 =>
 BiP .lss x15 x18 fun x19 =>
 CdP x19
 (Fv 9 x2 h6 fun x22 =>
 BiP .geq x22 (.int .i64 1) fun x23 =>
 CdP x23
 (Fv 9 x2 h6 fun x26 =>
 BiP .leq x26 (.int .i64 41) fun x27 =>
 m_head_Right_j39 x27 h6 K)
 (m_head_Right_j39 (.bool false) h6 K))
 (m_head_Right_j39 (.bool false) h6 K))
 (m_head_Right_j39 (.bool false) h6 K))
 (m_head_Right_j39 (.bool false) h6 K)
theorem m_head_Right_ok {x0_ : Value} {h : Heap} {K : Kt} (hh : m_head_Right x0_ h K) : Ca f_head_Right #[x0_] h K := cv Tryz.func70 (by kernel_rfl) hh
/- sluicegate/head.numbers -/
def m_head_numbers (x0_ : Value) (h : Heap) (K : Kt) : Prop :=
 AlP t_A9_P_int zt_A9_P_int h fun x2 h1 =>
 NilP x0_ fun x3 =>
 FaP (some 0) x3 fun x4 =>
 NilP x4 fun x5 =>
 FaP (some 0) x5 fun x6 =>
 NilP x4 fun x7 =>
 FaP (some 1) x7 fun x8 =>
 NilP x4 fun x9 =>
 FaP (some 2) x9 fun x10 =>
 NilP x4 fun x11 =>
 FaP (some 3) x11 fun x12 =>
 NilP x4 fun x13 =>
 FaP (some 4) x13 fun x14 =>
 NilP x4 fun x15 =>
 FaP (some 5) x15 fun x16 =>
 NilP x4 fun x17 =>
 FaP (some 6) x17 fun x18 =>
 NilP x4 fun x19 =>
 FaP (some 7) x19 fun x20 =>
 NilP x0_ fun x21 =>
 FaP (some 9) x21 fun x22 =>
 BlP bt_A9_P_int [(0, x6), (1, x8), (2, x10), (3, x12), (4, x14), (5, x16), (6, x18), (7, x20), (8, x22)] fun x23 =>
 StA 9 x2 x23 h1 fun h24 =>
 True ∧ (LdA 9 x2 h24 fun x25 =>
 K x25 h24)
theorem m_head_numbers_ok {x0_ : Value} {h : Heap} {K : Kt} (hh : m_head_numbers x0_ h K) : Ca f_head_numbers #[x0_] h K := cv Tryz.func71 (by kernel_rfl) hh
/- sluicegate/buf.Find -/
def m_buf_Find (x0_ x1_ : Value) (h : Heap) (K : Kt) : Prop :=
 AlP t_api_Msg zt_api_Msg h fun x2 h1 =>
 Ca f_slices_BinarySearchFunc_api_Msg #[x0_, x1_, (.func (.func f_buf_compare) #[] #[])] h1 fun x4 h3 =>
 ExP x4 0 fun x5 =>
 ExP x4 1 fun x6 =>
 UnP .not x6 fun x7 =>
 CdP x7
 (BlP bt_api_Msg [] fun x8 =>
 StA 3 x2 x8 h3 fun h9 =>
 LdA 3 x2 h9 fun x10 =>
 K (.tuple #[x10, (.bool false)]) h9)
 (Ea 3 x0_ x5 h3 fun x12 =>
 StA 3 x2 x12 h3 fun h13 =>
 LdA 3 x2 h13 fun x14 =>
 K (.tuple #[x14, (.bool true)]) h13)
theorem m_buf_Find_ok {x0_ x1_ : Value} {h : Heap} {K : Kt} (hh : m_buf_Find x0_ x1_ h K) : Ca f_buf_Find #[x0_, x1_] h K := cv Tryz.func93 (by kernel_rfl) hh
/- sluicegate/leaf.Apply -/
def m_leaf_Apply_j46 (x5_ x12_ x13_ x14_ : Value) (h : Heap) (nx6 : Nt) (K : Kt) : Prop :=
 BiP .add x14_ (.int .i64 1) fun x47 =>
 nx6 [x5_, x47] h
def m_leaf_Apply_j25 (x5_ x7_ x8_ x9_ x12_ x13_ x14_ x25_ : Value) (h : Heap) (nx6 : Nt) (K : Kt) : Prop :=
 CdP x25_
 (BiP .add x8_ (.int .i64 1) fun x26 =>
 Ca f_slices_Delete_api_Pair #[x5_, x8_, x26] h fun x28 h27 =>
 m_leaf_Apply_j46 x28 x12_ x13_ x14_ h27 nx6 K)
 (CdP x9_
 (Fv 2 x7_ h fun x30 =>
 IxP 2 x5_ x8_ fun x31 =>
 FaP (some 1) x31 fun x32 =>
 StP x32 x30 h fun h33 =>
 m_leaf_Apply_j46 x5_ x12_ x13_ x14_ h33 nx6 K)
 (Fv 1 x7_ h fun x35 =>
 UnP .not x35 fun x36 =>
 CdP x36
 (Fv 0 x7_ h fun x38 =>
 Fv 2 x7_ h fun x40 =>
 BlP bt_api_Pair [(0, x38), (1, x40)] fun x41 =>
 BsP st_S_api_Pair 1 [(0, x41)] h fun x43 h42 =>
 Ca f_slices_Insert_api_Pair #[x5_, x8_, x43] h42 fun x45 h44 =>
 m_leaf_Apply_j46 x45 x12_ x13_ x14_ h44 nx6 K)
 (m_leaf_Apply_j46 x5_ x12_ x13_ x14_ h nx6 K)))
def m_leaf_Apply_j48 (x5_ : Value) (h : Heap) (K : Kt) : Prop :=
 K x5_ h
def m_leaf_Apply_l5 (vs : List Value) (x12_ x13_ : Value) (h : Heap) (nx6 : Nt) (K : Kt) : Prop :=
 BiP .lss (gv vs 1) x13_ fun x7 =>
 CdP x7
 (Ea 3 x12_ (gv vs 1) h fun x10 =>
 AlP t_api_Msg zt_api_Msg h fun x12 h11 =>
 StA 3 x12 x10 h11 fun h13 =>
 Fv 0 x12 h13 fun x15 =>
 Ca f_slices_BinarySearchFunc_api_Pair #[(gv vs 0), x15, (.func (.func f_leaf_compare) #[] #[])] h13 fun x17 h16 =>
 ExP x17 0 fun x18 =>
 ExP x17 1 fun x19 =>
 CdP x19
 (Fv 1 x12 h16 fun x22 =>
 m_leaf_Apply_j25 (gv vs 0) x12 x18 x19 x12_ x13_ (gv vs 1) x22 h16 nx6 K)
 (m_leaf_Apply_j25 (gv vs 0) x12 x18 x19 x12_ x13_ (gv vs 1) (.bool false) h16 nx6 K))
 (m_leaf_Apply_j48 (gv vs 0) h K)
def m_leaf_Apply (x0_ x1_ : Value) (h : Heap) (K : Kt) : Prop :=
 Ca f_slices_Clone_api_Pair #[x0_] h fun x2 h1 =>
 LenP (some true) x1_ fun x4 =>
 LoP (fun vt h nx6 => m_leaf_Apply_l5 vt x1_ x4 h nx6 K) [x2, (.int .i64 0)] h1
theorem m_leaf_Apply_ok {x0_ x1_ : Value} {h : Heap} {K : Kt} (hh : m_leaf_Apply x0_ x1_ h K) : Ca f_leaf_Apply #[x0_, x1_] h K := cv Tryz.func96 (by kernel_rfl) hh
/- sluicegate/leaf.Part -/
def m_leaf_Part_j30 (x0_ x2_ x7_ x9_ : Value) (h : Heap) (K : Kt) : Prop :=
 LenP (some true) x0_ fun x31 =>
 VH Pg (Builtin.min_ #[t_int, t_int] t_int #[x2_, x31]) h fun x33 h32 =>
 BiP .add x7_ x33 fun x34 =>
 VH Pg (Builtin.min_ #[t_int, t_int] t_int #[x9_, x34]) h32 fun x36 h35 =>
 SlP 2 x0_ (some x7_) (some x36) fun x37 =>
 Ca f_slices_Clone_api_Pair #[x37] h35 fun x39 h38 =>
 K x39 h38
def m_leaf_Part_j12 (x0_ x2_ x4_ : Value) (h : Heap) (K : Kt) : Prop :=
 Fv 0 x4_ h fun x14 =>
 Ca f_slices_BinarySearchFunc_api_Pair #[x0_, x14, (.func (.func f_leaf_compare) #[] #[])] h fun x16 h15 =>
 ExP x16 0 fun x17 =>
 ExP x16 1 fun x18 =>
 LenP (some true) x0_ fun x19 =>
 Fv 2 x4_ h15 fun x22 =>
 UnP .not x22 fun x23 =>
 CdP x23
 (Fv 1 x4_ h15 fun x25 =>
 Ca f_slices_BinarySearchFunc_api_Pair #[x0_, x25, (.func (.func f_leaf_compare) #[] #[])] h15 fun x27 h26 =>
 ExP x27 0 fun x28 =>
 ExP x27 1 fun x29 =>
 m_leaf_Part_j30 x0_ x2_ x17 x28 h26 K)
 (m_leaf_Part_j30 x0_ x2_ x17 x19 h15 K)
def m_leaf_Part_j11 (x0_ x2_ x4_ x15_ : Value) (h : Heap) (K : Kt) : Prop :=
 CdP x15_
 (K (.slice none 0 0) h)
 (m_leaf_Part_j12 x0_ x2_ x4_ h K)
def m_leaf_Part (x0_ x1_ x2_ : Value) (h : Heap) (K : Kt) : Prop :=
 BxP t_api_Span x1_ h fun x2 h1 =>
 LdA 3 x2 h1 fun x5 =>
 Ca f_lex_Empty #[x5] h1 fun x7 h6 =>
 CdP x7
 (m_leaf_Part_j11 x0_ x2_ x2 (.bool true) h6 K)
 (BiP .lss x2_ (.int .i64 1) fun x9 =>
 m_leaf_Part_j11 x0_ x2_ x2 x9 h6 K)
theorem m_leaf_Part_ok {x0_ x1_ x2_ : Value} {h : Heap} {K : Kt} (hh : m_leaf_Part x0_ x1_ x2_ h K) : Ca f_leaf_Part #[x0_, x1_, x2_] h K := cv Tryz.func97 (by kernel_rfl) hh
/- sluicegate/buf.Merge -/
def m_buf_Merge_j38 (x0_ x1_ x5_ : Value) (h : Heap) (nx8 : Nt) (K : Kt) : Prop :=
 Ea 3 x0_ (.int .i64 0) h fun x40 =>
 BsP st_S_api_Msg 1 [(0, x40)] h fun x42 h41 =>
 VH Pg (Builtin.append_ #[t_S_api_Msg, t_S_api_Msg] t_S_api_Msg #[x5_, x42]) h41 fun x44 h43 =>
 SlP 3 x0_ (some (.int .i64 1)) none fun x45 =>
 nx8 [x45, x1_, x44] h43
def m_buf_Merge_j18 (x0_ x1_ x5_ : Value) (h : Heap) (nx8 : Nt) (K : Kt) : Prop :=
 Ef 3 0 x0_ (.int .i64 0) h fun x22 =>
 Ef 3 0 x1_ (.int .i64 0) h fun x25 =>
 Ca f_lex_Compare #[x22, x25] h fun x27 h26 =>
 True ∧ (BiP .eql x27 (.int .i64 1) fun x28 =>
 CdP x28
 (Ea 3 x1_ (.int .i64 0) h26 fun x30 =>
 BsP st_S_api_Msg 1 [(0, x30)] h26 fun x32 h31 =>
 VH Pg (Builtin.append_ #[t_S_api_Msg, t_S_api_Msg] t_S_api_Msg #[x5_, x32]) h31 fun x34 h33 =>
 SlP 3 x1_ (some (.int .i64 1)) none fun x35 =>
 nx8 [x0_, x35, x34] h33)
 (BiP .eql x27 (.int .i64 0) fun x36 =>
 CdP x36
 (SlP 3 x1_ (some (.int .i64 1)) none fun x37 =>
 m_buf_Merge_j38 x0_ x37 x5_ h26 nx8 K)
 (m_buf_Merge_j38 x0_ x1_ x5_ h26 nx8 K)))
def m_buf_Merge_j46 (x0_ x1_ x5_ : Value) (h : Heap) (K : Kt) : Prop :=
 VH Pg (Builtin.append_ #[t_S_api_Msg, t_S_api_Msg] t_S_api_Msg #[x5_, x0_]) h fun x48 h47 =>
 VH Pg (Builtin.append_ #[t_S_api_Msg, t_S_api_Msg] t_S_api_Msg #[x48, x1_]) h47 fun x50 h49 =>
 K x50 h49
def m_buf_Merge_j17 (x0_ x1_ x5_ x19_ : Value) (h : Heap) (nx8 : Nt) (K : Kt) : Prop :=
 CdP x19_
 (m_buf_Merge_j18 x0_ x1_ x5_ h nx8 K)
 (m_buf_Merge_j46 x0_ x1_ x5_ h K)
def m_buf_Merge_l7 (vs : List Value) (h : Heap) (nx8 : Nt) (K : Kt) : Prop :=
 LenP (some true) (gv vs 0) fun x11 =>
 BiP .gtr x11 (.int .i64 0) fun x12 =>
 CdP x12
 (LenP (some true) (gv vs 1) fun x13 =>
 BiP .gtr x13 (.int .i64 0) fun x14 =>
 m_buf_Merge_j17 (gv vs 0) (gv vs 1) (gv vs 2) x14 h nx8 K)
 (m_buf_Merge_j17 (gv vs 0) (gv vs 1) (gv vs 2) (.bool false) h nx8 K)
def m_buf_Merge (x0_ x1_ : Value) (h : Heap) (K : Kt) : Prop :=
 LenP (some true) x0_ fun x1 =>
 LenP (some true) x1_ fun x2 =>
 BiP .add x1 x2 fun x3 =>
 VH Pg (Instr.makeSlice t_S_api_Msg (.int .i64 0) x3) h fun x5 h4 =>
 LoP (fun vt h nx8 => m_buf_Merge_l7 vt h nx8 K) [x0_, x1_, x5] h4
theorem m_buf_Merge_ok {x0_ x1_ : Value} {h : Heap} {K : Kt} (hh : m_buf_Merge x0_ x1_ h K) : Ca f_buf_Merge #[x0_, x1_] h K := cv Tryz.func98 (by kernel_rfl) hh
/- sluicegate/buf.Part -/
def m_buf_Part (x0_ x1_ : Value) (h : Heap) (K : Kt) : Prop :=
 BxP t_api_Span x1_ h fun x2 h1 =>
 LdA 3 x2 h1 fun x3 =>
 Ca f_buf_part #[x0_, x3] h1 fun x5 h4 =>
 ExP x5 0 fun x6 =>
 ExP x5 1 fun x7 =>
 SlP 3 x0_ (some x6) (some x7) fun x8 =>
 Ca f_slices_Clone_api_Msg #[x8] h4 fun x10 h9 =>
 K x10 h9
theorem m_buf_Part_ok {x0_ x1_ : Value} {h : Heap} {K : Kt} (hh : m_buf_Part x0_ x1_ h K) : Ca f_buf_Part #[x0_, x1_] h K := cv Tryz.func99 (by kernel_rfl) hh
/- sluicegate/fan.Span -/
def m_fan_Span_j39 (x5_ x6_ x8_ : Value) (h : Heap) (K : Kt) : Prop :=
 LdA 3 x8_ h fun x40 =>
 LdA 3 x5_ h fun x41 =>
 Ca f_lex_Meet #[x40, x41] h fun x43 h42 =>
 ExP x43 0 fun x44 =>
 ExP x43 1 fun x45 =>
 StA 3 x6_ x44 h42 fun h46 =>
 LdA 3 x6_ h46 fun x47 =>
 K (.tuple #[x47, x45]) h46
def m_fan_Span_j30 (x0_ x1_ x5_ x6_ x8_ : Value) (h : Heap) (K : Kt) : Prop :=
 Fv 2 x8_ h fun x33 =>
 UnP .not x33 fun x34 =>
 CdP x34
 (Ei 1 x0_ x1_ h fun x36 =>
 FaP (some 1) x8_ fun x37 =>
 StP x37 x36 h fun h38 =>
 m_fan_Span_j39 x5_ x6_ x8_ h38 K)
 (m_fan_Span_j39 x5_ x6_ x8_ h K)
def m_fan_Span_j16 (x0_ x1_ x5_ x6_ : Value) (h : Heap) (K : Kt) : Prop :=
 LenP (some true) x0_ fun x17 =>
 BiP .eql x1_ x17 fun x18 =>
 BlP bt_api_Span [(2, x18)] fun x19 =>
 AlP t_api_Span zt_api_Span h fun x21 h20 =>
 StA 3 x21 x19 h20 fun h22 =>
 BiP .gtr x1_ (.int .i64 0) fun x24 =>
 CdP x24
 (BiP .sub x1_ (.int .i64 1) fun x25 =>
 Ei 1 x0_ x25 h22 fun x27 =>
 FaP (some 0) x21 fun x28 =>
 StP x28 x27 h22 fun h29 =>
 m_fan_Span_j30 x0_ x1_ x5_ x6_ x21 h29 K)
 (m_fan_Span_j30 x0_ x1_ x5_ x6_ x21 h22 K)
def m_fan_Span_j12 (x0_ x1_ x5_ x6_ x16_ : Value) (h : Heap) (K : Kt) : Prop :=
 CdP x16_
 (BlP bt_api_Span [] fun x13 =>
 StA 3 x6_ x13 h fun h14 =>
 LdA 3 x6_ h14 fun x15 =>
 K (.tuple #[x15, (.bool false)]) h14)
 (m_fan_Span_j16 x0_ x1_ x5_ x6_ h K)
def m_fan_Span (x0_ x1_ x2_ : Value) (h : Heap) (K : Kt) : Prop :=
 BxP t_api_Span x2_ h fun x2 h1 =>
 AlP t_api_Span zt_api_Span h1 fun x4 h3 =>
 BiP .lss x1_ (.int .i64 0) fun x7 =>
 CdP x7
 (m_fan_Span_j12 x0_ x1_ x2 x4 (.bool true) h3 K)
 (LenP (some true) x0_ fun x9 =>
 BiP .gtr x1_ x9 fun x10 =>
 m_fan_Span_j12 x0_ x1_ x2 x4 x10 h3 K)
theorem m_fan_Span_ok {x0_ x1_ x2_ : Value} {h : Heap} {K : Kt} (hh : m_fan_Span x0_ x1_ x2_ h K) : Ca f_fan_Span #[x0_, x1_, x2_] h K := cv Tryz.func100 (by kernel_rfl) hh
/- sluicegate/node.Right -/
def m_node_Right (x0_ x1_ x2_ : Value) (h : Heap) (K : Kt) : Prop :=
 BxP t_api_Config x0_ h fun x2 h1 =>
 BxP t_api_Span x1_ h1 fun x4 h3 =>
 BxP t_api_Node x2_ h3 fun x6 h5 =>
 Fv 0 x6 h5 fun x9 =>
 BiP .lss x9 (.int .i64 0) fun x10 =>
 CdP x10
 (K (.bool false) h5)
 (Fv 0 x6 h5 fun x12 =>
 BiP .eql x12 (.int .i64 0) fun x13 =>
 CdP x13
 (LdA 8 x2 h5 fun x14 =>
 LdA 3 x4 h5 fun x15 =>
 LdA 5 x6 h5 fun x16 =>
 Ca f_node_outer #[x14, x15, x16] h5 fun x18 h17 =>
 K x18 h17)
 (LdA 8 x2 h5 fun x19 =>
 LdA 3 x4 h5 fun x20 =>
 LdA 5 x6 h5 fun x21 =>
 Ca f_node_inner #[x19, x20, x21] h5 fun x23 h22 =>
 K x23 h22))
theorem m_node_Right_ok {x0_ x1_ x2_ : Value} {h : Heap} {K : Kt} (hh : m_node_Right x0_ x1_ x2_ h K) : Ca f_node_Right #[x0_, x1_, x2_] h K := cv Tryz.func120 (by kernel_rfl) hh
/- sluicegate/node.Clone -/
def m_node_Clone (x0_ : Value) (h : Heap) (K : Kt) : Prop :=
 BxP t_api_Node x0_ h fun x2 h1 =>
 AlP t_api_Node zt_api_Node h1 fun x4 h3 =>
 ∃ X6 : XS,
 FaP (some 0) x2 fun x7 =>
 LdX X6 x7 h3 fun x8 =>
 FaP (some 1) x2 fun x9 =>
 LdX X6 x9 h3 fun x10 =>
 FaP (some 2) x2 fun x11 =>
 LdX X6 x11 h3 fun x12 =>
 FaP (some 3) x2 fun x13 =>
 LdX X6 x13 h3 fun x14 =>
 FaP (some 4) x2 fun x15 =>
 LdX X6 x15 h3 fun x16 =>
 Ca f_slices_Clone_uint32 #[x10] h3 fun x18 h17 =>
 Agr X6 h3 h17 ∧ (Ca f_slices_Clone_string #[x12] h17 fun x20 h19 =>
 Agr X6 h3 h19 ∧ (Ca f_slices_Clone_api_Msg #[x14] h19 fun x22 h21 =>
 Agr X6 h3 h21 ∧ (Ca f_slices_Clone_api_Pair #[x16] h21 fun x24 h23 =>
 Agr X6 h3 h23 ∧ (BlP bt_api_Node [(0, x8), (1, x18), (2, x20), (3, x22), (4, x24)] fun x25 =>
 StA 5 x4 x25 h23 fun h26 =>
 True ∧ (LdA 5 x4 h26 fun x27 =>
 K x27 h26)))))
theorem m_node_Clone_ok {x0_ : Value} {h : Heap} {K : Kt} (hh : m_node_Clone x0_ h K) : Ca f_node_Clone #[x0_] h K := cv Tryz.func121 (by kernel_rfl) hh
/- sluicegate/code.Decode -/
def m_code_Decode_j69 (x4_ x12_ : Value) (h : Heap) (K : Kt) : Prop :=
 LdA 5 x12_ h fun x70 =>
 StA 5 x4_ x70 h fun h71 =>
 LdA 5 x4_ h71 fun x72 =>
 K (.tuple #[x72, (.int .i64 0)]) h71
def m_code_Decode_j65 (x4_ x12_ x70_ : Value) (h : Heap) (K : Kt) : Prop :=
 CdP x70_
 (BlP bt_api_Node [] fun x66 =>
 StA 5 x4_ x66 h fun h67 =>
 LdA 5 x4_ h67 fun x68 =>
 K (.tuple #[x68, (.int .i64 12)]) h67)
 (m_code_Decode_j69 x4_ x12_ h K)
def m_code_Decode_j44 (x1_ x2_ x4_ x7_ x12_ : Value) (h : Heap) (K : Kt) : Prop :=
 Ca f_word_Reader_Err #[x7_] h fun x46 h45 =>
 BiP .neq x46 (.int .i64 0) fun x47 =>
 CdP x47
 (BlP bt_api_Node [] fun x48 =>
 StA 5 x4_ x48 h45 fun h49 =>
 LdA 5 x4_ h49 fun x50 =>
 K (.tuple #[x50, (.int .i64 12)]) h49)
 (LdA 8 x2_ h45 fun x52 =>
 LdA 5 x12_ h45 fun x53 =>
 Ca f_code_Encode #[x52, x53] h45 fun x55 h54 =>
 ExP x55 0 fun x56 =>
 ExP x55 1 fun x57 =>
 BiP .neq x57 (.int .i64 0) fun x59 =>
 CdP x59
 (m_code_Decode_j65 x4_ x12_ (.bool true) h54 K)
 (Ca f_slices_Equal_byte #[x56, x1_] h54 fun x62 h61 =>
 UnP .not x62 fun x63 =>
 m_code_Decode_j65 x4_ x12_ x63 h61 K))
def m_code_Decode (x0_ x1_ : Value) (h : Heap) (K : Kt) : Prop :=
 BxP t_api_Config x0_ h fun x2 h1 =>
 AlP t_api_Node zt_api_Node h1 fun x4 h3 =>
 LdA 8 x2 h3 fun x5 =>
 Ca f_conf_Check #[x5] h3 fun x7 h6 =>
 BiP .neq x7 (.int .i64 0) fun x8 =>
 CdP x8
 (BlP bt_api_Node [] fun x9 =>
 StA 5 x4 x9 h6 fun h10 =>
 LdA 5 x4 h10 fun x11 =>
 K (.tuple #[x11, x7]) h10)
 (Ca f_word_Open #[x1_] h6 fun x13 h12 =>
 Ca f_word_Reader_Num #[x13, (.int .i64 1)] h12 fun x15 h14 =>
 Ca f_word_Reader_Num #[x13, (.int .i64 1)] h14 fun x17 h16 =>
 CvP .i64 x17 fun x18 =>
 Ca f_word_Reader_Num #[x13, (.int .i64 2)] h16 fun x20 h19 =>
 CvP .i64 x20 fun x21 =>
 Ca f_word_Reader_Num #[x13, (.int .i64 2)] h19 fun x23 h22 =>
 CvP .i64 x23 fun x24 =>
 Ca f_word_Reader_Zeros #[x13, (.int .i64 2)] h22 fun x26 h25 =>
 BlP bt_api_Node [(0, (.int .i64 (-1)))] fun x27 =>
 AlP t_api_Node zt_api_Node h25 fun x29 h28 =>
 StA 5 x29 x27 h28 fun h30 =>
 BiP .eql x15 (.int .u64 1) fun x32 =>
 CdP x32
 (LdA 8 x2 h30 fun x33 =>
 Ca f_code_readOuter #[x33, x13, x21] h30 fun x35 h34 =>
 StA 5 x29 x35 h34 fun h36 =>
 m_code_Decode_j44 x1_ x2 x4 x13 x29 h36 K)
 (BiP .eql x15 (.int .u64 2) fun x37 =>
 CdP x37
 (LdA 8 x2 h30 fun x38 =>
 VH Pg (Builtin.max_ #[t_int, t_int] t_int #[(.int .i64 1), x18]) h30 fun x40 h39 =>
 Ca f_code_readInner #[x38, x13, x40, x21, x24] h39 fun x42 h41 =>
 StA 5 x29 x42 h41 fun h43 =>
 m_code_Decode_j44 x1_ x2 x4 x13 x29 h43 K)
 (m_code_Decode_j44 x1_ x2 x4 x13 x29 h30 K)))
theorem m_code_Decode_ok {x0_ x1_ : Value} {h : Heap} {K : Kt} (hh : m_code_Decode x0_ x1_ h K) : Ca f_code_Decode #[x0_, x1_] h K := cv Tryz.func129 (by kernel_rfl) hh
/- sluicegate/buf.Put -/
def m_buf_Put (x0_ x1_ : Value) (h : Heap) (K : Kt) : Prop :=
 BxP t_api_Msg x1_ h fun x2 h1 =>
 Fv 0 x2 h1 fun x4 =>
 Ca f_slices_BinarySearchFunc_api_Msg #[x0_, x4, (.func (.func f_buf_compare) #[] #[])] h1 fun x6 h5 =>
 ExP x6 0 fun x7 =>
 ExP x6 1 fun x8 =>
 Ca f_slices_Clone_api_Msg #[x0_] h5 fun x10 h9 =>
 CdP x8
 (LdA 3 x2 h9 fun x11 =>
 IxP 3 x10 x7 fun x12 =>
 StA 3 x12 x11 h9 fun h13 =>
 K x10 h13)
 (LdA 3 x2 h9 fun x14 =>
 BsP st_S_api_Msg 1 [(0, x14)] h9 fun x16 h15 =>
 Ca f_slices_Insert_api_Msg #[x10, x7, x16] h15 fun x18 h17 =>
 K x18 h17)
theorem m_buf_Put_ok {x0_ x1_ : Value} {h : Heap} {K : Kt} (hh : m_buf_Put x0_ x1_ h K) : Ca f_buf_Put #[x0_, x1_] h K := cv Tryz.func130 (by kernel_rfl) hh
/- sluicegate/fan.Way -/
def m_fan_Way_j7 (x5_ : Value) (h : Heap) (K : Kt) : Prop :=
 K x5_ h
def m_fan_Way (x0_ x1_ : Value) (h : Heap) (K : Kt) : Prop :=
 Ca f_slices_BinarySearchFunc_string #[x0_, x1_, (.func (.func f_lex_Compare) #[] #[])] h fun x2 h1 =>
 ExP x2 0 fun x3 =>
 ExP x2 1 fun x4 =>
 CdP x4
 (BiP .add x3 (.int .i64 1) fun x6 =>
 m_fan_Way_j7 x6 h1 K)
 (m_fan_Way_j7 x3 h1 K)
theorem m_fan_Way_ok {x0_ x1_ : Value} {h : Heap} {K : Kt} (hh : m_fan_Way x0_ x1_ h K) : Ca f_fan_Way #[x0_, x1_] h K := cv Tryz.func134 (by kernel_rfl) hh
/- sluicegate/buf.compare -/
def m_buf_compare (x0_ x1_ : Value) (h : Heap) (K : Kt) : Prop :=
 BxP t_api_Msg x0_ h fun x2 h1 =>
 Fv 0 x2 h1 fun x4 =>
 Ca f_lex_Compare #[x4, x1_] h1 fun x6 h5 =>
 K x6 h5
theorem m_buf_compare_ok {x0_ x1_ : Value} {h : Heap} {K : Kt} (hh : m_buf_compare x0_ x1_ h K) : Ca f_buf_compare #[x0_, x1_] h K := cv Tryz.func136 (by kernel_rfl) hh
/- sluicegate/leaf.Get -/
def m_leaf_Get (x0_ x1_ : Value) (h : Heap) (K : Kt) : Prop :=
 Ca f_slices_BinarySearchFunc_api_Pair #[x0_, x1_, (.func (.func f_leaf_compare) #[] #[])] h fun x2 h1 =>
 ExP x2 0 fun x3 =>
 ExP x2 1 fun x4 =>
 UnP .not x4 fun x5 =>
 CdP x5
 (K (.tuple #[(.string { data := #[] }), (.bool false)]) h1)
 (Ef 2 1 x0_ x3 h1 fun x8 =>
 K (.tuple #[x8, (.bool true)]) h1)
theorem m_leaf_Get_ok {x0_ x1_ : Value} {h : Heap} {K : Kt} (hh : m_leaf_Get x0_ x1_ h K) : Ca f_leaf_Get #[x0_, x1_] h K := cv Tryz.func137 (by kernel_rfl) hh
/- sluicegate/leaf.compare -/
def m_leaf_compare (x0_ x1_ : Value) (h : Heap) (K : Kt) : Prop :=
 BxP t_api_Pair x0_ h fun x2 h1 =>
 Fv 0 x2 h1 fun x4 =>
 Ca f_lex_Compare #[x4, x1_] h1 fun x6 h5 =>
 K x6 h5
theorem m_leaf_compare_ok {x0_ x1_ : Value} {h : Heap} {K : Kt} (hh : m_leaf_compare x0_ x1_ h K) : Ca f_leaf_compare #[x0_, x1_] h K := cv Tryz.func141 (by kernel_rfl) hh
/- sluicegate/buf.part -/
def m_buf_part_j23 (x6_ x8_ : Value) (h : Heap) (K : Kt) : Prop :=
 K (.tuple #[x6_, x8_]) h
def m_buf_part (x0_ x1_ : Value) (h : Heap) (K : Kt) : Prop :=
 BxP t_api_Span x1_ h fun x2 h1 =>
 LdA 3 x2 h1 fun x3 =>
 Ca f_lex_Empty #[x3] h1 fun x5 h4 =>
 CdP x5
 (K (.tuple #[(.int .i64 0), (.int .i64 0)]) h4)
 (Fv 0 x2 h4 fun x7 =>
 Ca f_slices_BinarySearchFunc_api_Msg #[x0_, x7, (.func (.func f_buf_compare) #[] #[])] h4 fun x9 h8 =>
 ExP x9 0 fun x10 =>
 ExP x9 1 fun x11 =>
 LenP (some true) x0_ fun x12 =>
 Fv 2 x2 h8 fun x15 =>
 UnP .not x15 fun x16 =>
 CdP x16
 (Fv 1 x2 h8 fun x18 =>
 Ca f_slices_BinarySearchFunc_api_Msg #[x0_, x18, (.func (.func f_buf_compare) #[] #[])] h8 fun x20 h19 =>
 ExP x20 0 fun x21 =>
 ExP x20 1 fun x22 =>
 m_buf_part_j23 x10 x21 h19 K)
 (m_buf_part_j23 x10 x12 h8 K))
theorem m_buf_part_ok {x0_ x1_ : Value} {h : Heap} {K : Kt} (hh : m_buf_part x0_ x1_ h K) : Ca f_buf_part #[x0_, x1_] h K := cv Tryz.func144 (by kernel_rfl) hh
/- sluicegate/node.outer -/
def m_node_outer_j38 (x3_ x4_ x5_ : Value) (h : Heap) (K : Kt) : Prop :=
 Fv 4 x5_ h fun x40 =>
 Ca f_slices_ContainsFunc_api_Pair #[x40, (.func (.func f_node_outer_1) #[] #[x3_, x4_])] h fun x42 h41 =>
 UnP .not x42 fun x43 =>
 K x43 h41
def m_node_outer_j37 (x3_ x4_ x5_ x32_ : Value) (h : Heap) (K : Kt) : Prop :=
 CdP x32_
 (K (.bool false) h)
 (m_node_outer_j38 x3_ x4_ x5_ h K)
def m_node_outer (x0_ x1_ x2_ : Value) (h : Heap) (K : Kt) : Prop :=
 BxP t_api_Config x0_ h fun x2 h1 =>
 BxP t_api_Span x1_ h1 fun x4 h3 =>
 BxP t_api_Node x2_ h3 fun x6 h5 =>
 Fv 1 x6 h5 fun x10 =>
 LenP (some true) x10 fun x11 =>
 Fv 2 x6 h5 fun x13 =>
 LenP (some true) x13 fun x14 =>
 BiP .add x11 x14 fun x15 =>
 Fv 3 x6 h5 fun x17 =>
 LenP (some true) x17 fun x18 =>
 BiP .add x15 x18 fun x19 =>
 BiP .gtr x19 (.int .i64 0) fun x20 =>
 CdP x20
 (m_node_outer_j37 x2 x4 x6 (.bool true) h5 K)
 (Fv 4 x6 h5 fun x24 =>
 LenP (some true) x24 fun x25 =>
 Fv 5 x2 h5 fun x27 =>
 BiP .gtr x25 x27 fun x28 =>
 CdP x28
 (m_node_outer_j37 x2 x4 x6 (.bool true) h5 K)
 (Fv 4 x6 h5 fun x32 =>
 Ca f_leaf_Right #[x32] h5 fun x34 h33 =>
 UnP .not x34 fun x35 =>
 m_node_outer_j37 x2 x4 x6 x35 h33 K))
theorem m_node_outer_ok {x0_ x1_ x2_ : Value} {h : Heap} {K : Kt} (hh : m_node_outer x0_ x1_ x2_ h K) : Ca f_node_outer #[x0_, x1_, x2_] h K := cv Tryz.func157 (by kernel_rfl) hh
/- sluicegate/node.inner -/
def m_node_inner_j75 (x3_ x4_ x5_ : Value) (h : Heap) (K : Kt) : Prop :=
 Fv 3 x5_ h fun x77 =>
 Ca f_slices_ContainsFunc_api_Msg #[x77, (.func (.func f_node_inner_2) #[] #[x3_, x4_])] h fun x79 h78 =>
 UnP .not x79 fun x80 =>
 K x80 h78
def m_node_inner_j74 (x3_ x4_ x5_ x57_ : Value) (h : Heap) (K : Kt) : Prop :=
 CdP x57_
 (K (.bool false) h)
 (m_node_inner_j75 x3_ x4_ x5_ h K)
def m_node_inner_j51 (x3_ x4_ x5_ : Value) (h : Heap) (K : Kt) : Prop :=
 Fv 2 x5_ h fun x55 =>
 Ca f_slices_ContainsFunc_string #[x55, (.func (.func f_node_inner_1) #[] #[x3_])] h fun x57 h56 =>
 CdP x57
 (m_node_inner_j74 x3_ x4_ x5_ (.bool true) h56 K)
 (Fv 3 x5_ h56 fun x61 =>
 LenP (some true) x61 fun x62 =>
 Fv 4 x3_ h56 fun x64 =>
 BiP .gtr x62 x64 fun x65 =>
 CdP x65
 (m_node_inner_j74 x3_ x4_ x5_ (.bool true) h56 K)
 (Fv 3 x5_ h56 fun x69 =>
 Ca f_buf_Right #[x69] h56 fun x71 h70 =>
 UnP .not x71 fun x72 =>
 m_node_inner_j74 x3_ x4_ x5_ x72 h70 K))
def m_node_inner_j50 (x3_ x4_ x5_ x39_ : Value) (h : Heap) (K : Kt) : Prop :=
 CdP x39_
 (K (.bool false) h)
 (m_node_inner_j51 x3_ x4_ x5_ h K)
def m_node_inner (x0_ x1_ x2_ : Value) (h : Heap) (K : Kt) : Prop :=
 BxP t_api_Config x0_ h fun x2 h1 =>
 BxP t_api_Span x1_ h1 fun x4 h3 =>
 BxP t_api_Node x2_ h3 fun x6 h5 =>
 Fv 0 x6 h5 fun x10 =>
 BiP .gtr x10 (.int .i64 40) fun x11 =>
 CdP x11
 (m_node_inner_j50 x2 x4 x6 (.bool true) h5 K)
 (Fv 4 x6 h5 fun x17 =>
 LenP (some true) x17 fun x18 =>
 BiP .gtr x18 (.int .i64 0) fun x19 =>
 CdP x19
 (m_node_inner_j50 x2 x4 x6 (.bool true) h5 K)
 (LdA 8 x2 h5 fun x24 =>
 Fv 1 x6 h5 fun x26 =>
 Ca f_node_kids #[x24, x26] h5 fun x28 h27 =>
 UnP .not x28 fun x29 =>
 CdP x29
 (m_node_inner_j50 x2 x4 x6 (.bool true) h27 K)
 (Fv 2 x6 h27 fun x34 =>
 LenP (some true) x34 fun x35 =>
 Fv 1 x6 h27 fun x37 =>
 LenP (some true) x37 fun x38 =>
 BiP .sub x38 (.int .i64 1) fun x39 =>
 BiP .neq x35 x39 fun x40 =>
 CdP x40
 (m_node_inner_j50 x2 x4 x6 (.bool true) h27 K)
 (Fv 2 x6 h27 fun x44 =>
 LdA 3 x4 h27 fun x45 =>
 Ca f_fan_Right #[x44, x45] h27 fun x47 h46 =>
 UnP .not x47 fun x48 =>
 m_node_inner_j50 x2 x4 x6 x48 h46 K))))
theorem m_node_inner_ok {x0_ x1_ x2_ : Value} {h : Heap} {K : Kt} (hh : m_node_inner x0_ x1_ x2_ h K) : Ca f_node_inner #[x0_, x1_, x2_] h K := cv Tryz.func158 (by kernel_rfl) hh
/- sluicegate/code.Encode -/
def m_code_Encode_j23 (x2_ x3_ x7_ : Value) (h : Heap) (K : Kt) : Prop :=
 LdA 8 x2_ h fun x24 =>
 LdA 5 x3_ h fun x25 =>
 CvH Pg x7_ #[x24, x25] h fun x27 h26 =>
 Fv 1 x2_ h26 fun x29 =>
 LenP (some true) x27 fun x30 =>
 BiP .sub x29 x30 fun x31 =>
 VH Pg (Builtin.append_ #[t_S_uint8, t_int] t_S_uint8 #[x27, x31]) h26 fun x33 h32 =>
 K (.tuple #[x33, (.int .i64 0)]) h32
def m_code_Encode (x0_ x1_ : Value) (h : Heap) (K : Kt) : Prop :=
 BxP t_api_Config x0_ h fun x2 h1 =>
 BxP t_api_Node x1_ h1 fun x4 h3 =>
 LdA 8 x2 h3 fun x5 =>
 Ca f_conf_Check #[x5] h3 fun x7 h6 =>
 BiP .neq x7 (.int .i64 0) fun x8 =>
 CdP x8
 (K (.tuple #[(.slice none 0 0), x7]) h6)
 (∃ X11 : XS,
 LaX X11 8 x2 h6 fun x12 =>
 LaX X11 5 x4 h6 fun x13 =>
 Ca f_lex_All #[] h6 fun x15 h14 =>
 Agr X11 h6 h14 ∧ (Ca f_node_Right #[x12, x15, x13] h14 fun x17 h16 =>
 True ∧ (UnP .not x17 fun x18 =>
 CdP x18
 (K (.tuple #[(.slice none 0 0), (.int .i64 3)]) h16)
 (Fv 0 x4 h16 fun x21 =>
 BiP .gtr x21 (.int .i64 0) fun x22 =>
 CdP x22
 (m_code_Encode_j23 x2 x4 (.func (.func f_code_writeInner) #[] #[]) h16 K)
 (m_code_Encode_j23 x2 x4 (.func (.func f_code_writeOuter) #[] #[]) h16 K)))))
theorem m_code_Encode_ok {x0_ x1_ : Value} {h : Heap} {K : Kt} (hh : m_code_Encode x0_ x1_ h K) : Ca f_code_Encode #[x0_, x1_] h K := cv Tryz.func163 (by kernel_rfl) hh
/- sluicegate/code.readOuter -/
def m_code_readOuter_j33 (x6_ x7_ : Value) (h : Heap) (K : Kt) : Prop :=
 LdA 5 x7_ h fun x34 =>
 StA 5 x6_ x34 h fun h35 =>
 LdA 5 x6_ h35 fun x36 =>
 K x36 h35
def m_code_readOuter_l14 (vs : List Value) (x1_ x3_ x6_ x7_ x14_ : Value) (h : Heap) (nx15 : Nt) (K : Kt) : Prop :=
 BiP .lss (gv vs 0) x14_ fun x16 =>
 CdP x16
 (LdA 8 x3_ h fun x18 =>
 Ca f_code_readPair #[x18, x1_] h fun x20 h19 =>
 ExP x20 0 fun x21 =>
 ExP x20 1 fun x22 =>
 Fv 4 x7_ h19 fun x24 =>
 BlP bt_api_Pair [(0, x21), (1, x22)] fun x25 =>
 BsP st_S_api_Pair 1 [(0, x25)] h19 fun x27 h26 =>
 VH Pg (Builtin.append_ #[t_S_api_Pair, t_S_api_Pair] t_S_api_Pair #[x24, x27]) h26 fun x29 h28 =>
 FaP (some 4) x7_ fun x30 =>
 StP x30 x29 h28 fun h31 =>
 BiP .add (gv vs 0) (.int .i64 1) fun x32 =>
 nx15 [x32] h31)
 (m_code_readOuter_j33 x6_ x7_ h K)
def m_code_readOuter (x0_ x1_ x2_ : Value) (h : Heap) (K : Kt) : Prop :=
 BxP t_api_Config x0_ h fun x2 h1 =>
 AlP t_api_Node zt_api_Node h1 fun x4 h3 =>
 BlP bt_api_Node [] fun x5 =>
 AlP t_api_Node zt_api_Node h3 fun x7 h6 =>
 StA 5 x7 x5 h6 fun h8 =>
 Fv 5 x2 h8 fun x11 =>
 VH Pg (Builtin.min_ #[t_int, t_int] t_int #[x2_, x11]) h8 fun x13 h12 =>
 LoP (fun vt h nx15 => m_code_readOuter_l14 vt x1_ x2 x4 x7 x13 h nx15 K) [(.int .i64 0)] h12
theorem m_code_readOuter_ok {x0_ x1_ x2_ : Value} {h : Heap} {K : Kt} (hh : m_code_readOuter x0_ x1_ x2_ h K) : Ca f_code_readOuter #[x0_, x1_, x2_] h K := cv Tryz.func174 (by kernel_rfl) hh
/- sluicegate/code.readInner -/
def m_code_readInner_j28 (x1_ x3_ x4_ x5_ x10_ x11_ x22_ x23_ : Value) (h : Heap) (nx13 : Nt) (K : Kt) : Prop :=
 BiP .add x23_ (.int .i64 1) fun x29 =>
 nx13 [x29] h
def m_code_readInner_j58 (x1_ x3_ x4_ x5_ x10_ x11_ x41_ x42_ : Value) (h : Heap) (nx36 : Nt) (K : Kt) : Prop :=
 BiP .add x42_ (.int .i64 1) fun x59 =>
 nx36 [x59] h
def m_code_readInner_j88 (x10_ x11_ : Value) (h : Heap) (K : Kt) : Prop :=
 LdA 5 x11_ h fun x89 =>
 StA 5 x10_ x89 h fun h90 =>
 LdA 5 x10_ h90 fun x91 =>
 K x91 h90
def m_code_readInner_l66 (vs : List Value) (x1_ x5_ x10_ x11_ x66_ : Value) (h : Heap) (nx67 : Nt) (K : Kt) : Prop :=
 BiP .lss (gv vs 0) x66_ fun x68 =>
 CdP x68
 (Ca f_word_Reader_Num #[x1_, (.int .i64 1)] h fun x71 h70 =>
 LdA 8 x5_ h70 fun x72 =>
 Ca f_code_readPair #[x72, x1_] h70 fun x74 h73 =>
 ExP x74 0 fun x75 =>
 ExP x74 1 fun x76 =>
 Fv 3 x11_ h73 fun x78 =>
 BiP .eql x71 (.int .u64 2) fun x79 =>
 BlP bt_api_Msg [(0, x75), (1, x79), (2, x76)] fun x80 =>
 BsP st_S_api_Msg 1 [(0, x80)] h73 fun x82 h81 =>
 VH Pg (Builtin.append_ #[t_S_api_Msg, t_S_api_Msg] t_S_api_Msg #[x78, x82]) h81 fun x84 h83 =>
 FaP (some 3) x11_ fun x85 =>
 StP x85 x84 h83 fun h86 =>
 BiP .add (gv vs 0) (.int .i64 1) fun x87 =>
 nx67 [x87] h86)
 (m_code_readInner_j88 x10_ x11_ h K)
def m_code_readInner_j60 (x1_ x4_ x5_ x10_ x11_ : Value) (h : Heap) (K : Kt) : Prop :=
 Fv 4 x5_ h fun x63 =>
 VH Pg (Builtin.min_ #[t_int, t_int] t_int #[x4_, x63]) h fun x65 h64 =>
 LoP (fun vt h nx67 => m_code_readInner_l66 vt x1_ x5_ x10_ x11_ x65 h nx67 K) [(.int .i64 0)] h64
def m_code_readInner_l35 (vs : List Value) (x1_ x3_ x4_ x5_ x10_ x11_ x41_ : Value) (h : Heap) (nx36 : Nt) (K : Kt) : Prop :=
 BiP .lss (gv vs 0) x41_ fun x37 =>
 CdP x37
 (∃ X40 : XS,
 FaP (some 6) x5_ fun x41 =>
 LdX X40 x41 h fun x42 =>
 Ca f_word_Reader_Num #[x1_, (.int .i64 1)] h fun x44 h43 =>
 Agr X40 h h43 ∧ (CvP .i64 x44 fun x45 =>
 Ca f_word_Reader_Text #[x1_, x45, x42] h43 fun x47 h46 =>
 True ∧ (BiP .add (gv vs 0) (.int .i64 1) fun x48 =>
 BiP .lss x48 x3_ fun x49 =>
 CdP x49
 (Fv 2 x11_ h46 fun x51 =>
 BsP st_S_string 1 [(0, x47)] h46 fun x53 h52 =>
 VH Pg (Builtin.append_ #[t_S_string, t_S_string] t_S_string #[x51, x53]) h52 fun x55 h54 =>
 FaP (some 2) x11_ fun x56 =>
 StP x56 x55 h54 fun h57 =>
 m_code_readInner_j58 x1_ x3_ x4_ x5_ x10_ x11_ x41_ (gv vs 0) h57 nx36 K)
 (m_code_readInner_j58 x1_ x3_ x4_ x5_ x10_ x11_ x41_ (gv vs 0) h46 nx36 K))))
 (m_code_readInner_j60 x1_ x4_ x5_ x10_ x11_ h K)
def m_code_readInner_j30 (x1_ x3_ x4_ x5_ x10_ x11_ : Value) (h : Heap) (K : Kt) : Prop :=
 Fv 3 x5_ h fun x33 =>
 BiP .sub x33 (.int .i64 1) fun x34 =>
 LoP (fun vt h nx36 => m_code_readInner_l35 vt x1_ x3_ x4_ x5_ x10_ x11_ x34 h nx36 K) [(.int .i64 0)] h
def m_code_readInner_l12 (vs : List Value) (x1_ x3_ x4_ x5_ x10_ x11_ x22_ : Value) (h : Heap) (nx13 : Nt) (K : Kt) : Prop :=
 BiP .lss (gv vs 0) x22_ fun x14 =>
 CdP x14
 (Ca f_word_Reader_Num #[x1_, (.int .i64 4)] h fun x17 h16 =>
 CvP .u32 x17 fun x18 =>
 BiP .lss (gv vs 0) x3_ fun x19 =>
 CdP x19
 (Fv 1 x11_ h16 fun x21 =>
 BsP st_S_uint32 1 [(0, x18)] h16 fun x23 h22 =>
 VH Pg (Builtin.append_ #[t_S_uint32, t_S_uint32] t_S_uint32 #[x21, x23]) h22 fun x25 h24 =>
 FaP (some 1) x11_ fun x26 =>
 StP x26 x25 h24 fun h27 =>
 m_code_readInner_j28 x1_ x3_ x4_ x5_ x10_ x11_ x22_ (gv vs 0) h27 nx13 K)
 (m_code_readInner_j28 x1_ x3_ x4_ x5_ x10_ x11_ x22_ (gv vs 0) h16 nx13 K))
 (m_code_readInner_j30 x1_ x3_ x4_ x5_ x10_ x11_ h K)
def m_code_readInner (x0_ x1_ x2_ x3_ x4_ : Value) (h : Heap) (K : Kt) : Prop :=
 BxP t_api_Config x0_ h fun x2 h1 =>
 AlP t_api_Node zt_api_Node h1 fun x4 h3 =>
 BlP bt_api_Node [(0, x2_)] fun x5 =>
 AlP t_api_Node zt_api_Node h3 fun x7 h6 =>
 StA 5 x7 x5 h6 fun h8 =>
 Fv 3 x2 h8 fun x11 =>
 LoP (fun vt h nx13 => m_code_readInner_l12 vt x1_ x3_ x4_ x2 x4 x7 x11 h nx13 K) [(.int .i64 0)] h8
theorem m_code_readInner_ok {x0_ x1_ x2_ x3_ x4_ : Value} {h : Heap} {K : Kt} (hh : m_code_readInner x0_ x1_ x2_ x3_ x4_ h K) : Ca f_code_readInner #[x0_, x1_, x2_, x3_, x4_] h K := cv Tryz.func175 (by kernel_rfl) hh
/- sluicegate/leaf.Right -/
def m_leaf_Right_j19 (h : Heap) (K : Kt) : Prop :=
 K (.bool true) h
def m_leaf_Right_l4 (vs : List Value) (x0_ x6_ : Value) (h : Heap) (nx5 : Nt) (K : Kt) : Prop :=
 BiP .lss (gv vs 1) x6_ fun x6 =>
 CdP x6
 (Ef 2 0 x0_ (gv vs 1) h fun x10 =>
 BiP .add (gv vs 1) (.int .i64 1) fun x11 =>
 Ef 2 0 x0_ x11 h fun x14 =>
 Ca f_lex_Compare #[x10, x14] h fun x16 h15 =>
 True ∧ (BiP .geq x16 (.int .i64 0) fun x17 =>
 CdP x17
 (K (.bool false) h15)
 (BiP .add (gv vs 1) (.int .i64 1) fun x18 =>
 nx5 [(gv vs 0), x18] h15)))
 (m_leaf_Right_j19 h K)
def m_leaf_Right (x0_ : Value) (h : Heap) (K : Kt) : Prop :=
 LenP (some true) x0_ fun x2 =>
 BiP .sub x2 (.int .i64 1) fun x3 =>
 LoP (fun vt h nx5 => m_leaf_Right_l4 vt x0_ x3 h nx5 K) [(.bool false), (.int .i64 0)] h
theorem m_leaf_Right_ok {x0_ : Value} {h : Heap} {K : Kt} (hh : m_leaf_Right x0_ h K) : Ca f_leaf_Right #[x0_] h K := cv Tryz.func191 (by kernel_rfl) hh
/- sluicegate/node.outer$1 -/
def m_node_outer_1_j27 (x4_ : Value) (h : Heap) (K : Kt) : Prop :=
 K x4_ h
def m_node_outer_1 (x0_ x1_ x2_ : Value) (h : Heap) (K : Kt) : Prop :=
 BxP t_api_Pair x0_ h fun x2 h1 =>
 LdA 8 x1_ h1 fun x4 =>
 Fv 0 x2 h1 fun x6 =>
 Ca f_node_Key #[x4, x6] h1 fun x8 h7 =>
 UnP .not x8 fun x9 =>
 CdP x9
 (m_node_outer_1_j27 (.bool true) h7 K)
 (LdA 3 x2_ h7 fun x12 =>
 Fv 0 x2 h7 fun x14 =>
 Ca f_lex_In #[x12, x14] h7 fun x16 h15 =>
 UnP .not x16 fun x17 =>
 CdP x17
 (m_node_outer_1_j27 (.bool true) h15 K)
 (Fv 1 x2 h15 fun x21 =>
 LenP (some false) x21 fun x22 =>
 Fv 7 x1_ h15 fun x24 =>
 BiP .gtr x22 x24 fun x25 =>
 m_node_outer_1_j27 x25 h15 K))
theorem m_node_outer_1_ok {x0_ x1_ x2_ : Value} {h : Heap} {K : Kt} (hh : m_node_outer_1 x0_ x1_ x2_ h K) : Ca f_node_outer_1 #[x0_, x1_, x2_] h K := cv Tryz.func193 (by kernel_rfl) hh
/- sluicegate/node.kids -/
def m_node_kids_j36 (x1_ x5_ : Value) (h : Heap) (K : Kt) : Prop :=
 Ca f_slices_Compact_uint32 #[x5_] h fun x38 h37 =>
 LenP (some true) x38 fun x39 =>
 LenP (some true) x1_ fun x40 =>
 BiP .eql x39 x40 fun x41 =>
 K x41 h37
def m_node_kids_j35 (x1_ x5_ x37_ : Value) (h : Heap) (K : Kt) : Prop :=
 CdP x37_
 (K (.bool false) h)
 (m_node_kids_j36 x1_ x5_ h K)
def m_node_kids (x0_ x1_ : Value) (h : Heap) (K : Kt) : Prop :=
 BxP t_api_Config x0_ h fun x2 h1 =>
 Ca f_slices_Clone_uint32 #[x1_] h1 fun x4 h3 =>
 Ca f_slices_Sort_uint32 #[x4] h3 fun x6 h5 =>
 LenP (some true) x1_ fun x9 =>
 BiP .lss x9 (.int .i64 1) fun x10 =>
 CdP x10
 (m_node_kids_j35 x1_ x4 (.bool true) h5 K)
 (LenP (some true) x1_ fun x14 =>
 Fv 3 x2 h5 fun x16 =>
 BiP .gtr x14 x16 fun x17 =>
 CdP x17
 (m_node_kids_j35 x1_ x4 (.bool true) h5 K)
 (Ei 1 x4 (.int .i64 0) h5 fun x22 =>
 BiP .eql x22 (.int .u32 0) fun x23 =>
 CdP x23
 (m_node_kids_j35 x1_ x4 (.bool true) h5 K)
 (LenP (some true) x1_ fun x26 =>
 BiP .sub x26 (.int .i64 1) fun x27 =>
 Ei 1 x4 x27 h5 fun x29 =>
 CvP .i64 x29 fun x30 =>
 Fv 0 x2 h5 fun x32 =>
 BiP .geq x30 x32 fun x33 =>
 m_node_kids_j35 x1_ x4 x33 h5 K)))
theorem m_node_kids_ok {x0_ x1_ : Value} {h : Heap} {K : Kt} (hh : m_node_kids x0_ x1_ h K) : Ca f_node_kids #[x0_, x1_] h K := cv Tryz.func195 (by kernel_rfl) hh
/- sluicegate/fan.Right -/
def m_fan_Right_j35 (x0_ x3_ x4_ x7_ x8_ x9_ : Value) (h : Heap) (nx6 : Nt) (K : Kt) : Prop :=
 BiP .add x9_ (.int .i64 1) fun x36 =>
 nx6 [x4_, x36] h
def m_fan_Right_j34 (x0_ x3_ x4_ x7_ x8_ x9_ x37_ : Value) (h : Heap) (nx6 : Nt) (K : Kt) : Prop :=
 CdP x37_
 (K (.bool false) h)
 (m_fan_Right_j35 x0_ x3_ x4_ x7_ x8_ x9_ h nx6 K)
def m_fan_Right_j37 (h : Heap) (K : Kt) : Prop :=
 K (.bool true) h
def m_fan_Right_l5 (vs : List Value) (x0_ x3_ x7_ x8_ : Value) (h : Heap) (nx6 : Nt) (K : Kt) : Prop :=
 BiP .lss (gv vs 1) x8_ fun x7 =>
 CdP x7
 (Ei 1 x7_ (gv vs 1) h fun x10 =>
 LdA 3 x3_ h fun x12 =>
 Ca f_lex_In #[x12, x10] h fun x14 h13 =>
 UnP .not x14 fun x15 =>
 CdP x15
 (undef = undef ∧ (undef = undef ∧ (undef = undef ∧ (undef = undef ∧ (undef = undef ∧ (undef = undef ∧ (undef = undef ∧ (undef = undef ∧ (m_fan_Right_j34 x0_ x3_ (gv vs 0) x7_ x8_ (gv vs 1) (.bool true) h13 nx6 K)))))))))
 (Fv 0 x3_ h13 fun x19 =>
 BiP .eql x10 x19 fun x20 =>
 CdP x20
 (undef = undef ∧ (undef = undef ∧ (undef = undef ∧ (undef = undef ∧ (undef = undef ∧ (undef = undef ∧ (undef = undef ∧ (undef = undef ∧ (m_fan_Right_j34 x0_ x3_ (gv vs 0) x7_ x8_ (gv vs 1) (.bool true) h13 nx6 K)))))))))
 (BiP .gtr (gv vs 1) (.int .i64 0) fun x23 =>
 CdP x23
 (BiP .sub (gv vs 1) (.int .i64 1) fun x24 =>
 Ei 1 x0_ x24 h13 fun x26 =>
 Ca f_lex_Compare #[x26, x10] h13 fun x28 h27 =>
 BiP .geq x28 (.int .i64 0) fun x29 =>
 m_fan_Right_j34 x0_ x3_ (gv vs 0) x7_ x8_ (gv vs 1) x29 h27 nx6 K)
 (m_fan_Right_j34 x0_ x3_ (gv vs 0) x7_ x8_ (gv vs 1) (.bool false) h13 nx6 K))))
 (m_fan_Right_j37 h K)
def m_fan_Right (x0_ x1_ : Value) (h : Heap) (K : Kt) : Prop :=
 BxP t_api_Span x1_ h fun x2 h1 =>
 LenP (some true) x0_ fun x4 =>
 LoP (fun vt h nx6 => m_fan_Right_l5 vt x0_ x2 x0_ x4 h nx6 K) [(.bool false), (.int .i64 0)] h1
theorem m_fan_Right_ok {x0_ x1_ : Value} {h : Heap} {K : Kt} (hh : m_fan_Right x0_ x1_ h K) : Ca f_fan_Right #[x0_, x1_] h K := cv Tryz.func196 (by kernel_rfl) hh
/- sluicegate/node.inner$1 -/
def m_node_inner_1 (x0_ x1_ : Value) (h : Heap) (K : Kt) : Prop :=
 LdA 8 x1_ h fun x1 =>
 Ca f_node_Key #[x1, x0_] h fun x3 h2 =>
 UnP .not x3 fun x4 =>
 K x4 h2
theorem m_node_inner_1_ok {x0_ x1_ : Value} {h : Heap} {K : Kt} (hh : m_node_inner_1 x0_ x1_ h K) : Ca f_node_inner_1 #[x0_, x1_] h K := cv Tryz.func198 (by kernel_rfl) hh
/- sluicegate/buf.Right -/
def m_buf_Right_j19 (h : Heap) (K : Kt) : Prop :=
 K (.bool true) h
def m_buf_Right_l4 (vs : List Value) (x0_ x6_ : Value) (h : Heap) (nx5 : Nt) (K : Kt) : Prop :=
 BiP .lss (gv vs 1) x6_ fun x6 =>
 CdP x6
 (Ef 3 0 x0_ (gv vs 1) h fun x10 =>
 BiP .add (gv vs 1) (.int .i64 1) fun x11 =>
 Ef 3 0 x0_ x11 h fun x14 =>
 Ca f_lex_Compare #[x10, x14] h fun x16 h15 =>
 True ∧ (BiP .geq x16 (.int .i64 0) fun x17 =>
 CdP x17
 (K (.bool false) h15)
 (BiP .add (gv vs 1) (.int .i64 1) fun x18 =>
 nx5 [(gv vs 0), x18] h15)))
 (m_buf_Right_j19 h K)
def m_buf_Right (x0_ : Value) (h : Heap) (K : Kt) : Prop :=
 LenP (some true) x0_ fun x2 =>
 BiP .sub x2 (.int .i64 1) fun x3 =>
 LoP (fun vt h nx5 => m_buf_Right_l4 vt x0_ x3 h nx5 K) [(.bool false), (.int .i64 0)] h
theorem m_buf_Right_ok {x0_ : Value} {h : Heap} {K : Kt} (hh : m_buf_Right x0_ h K) : Ca f_buf_Right #[x0_] h K := cv Tryz.func199 (by kernel_rfl) hh
/- sluicegate/node.inner$2 -/
def m_node_inner_2_j39 (x4_ : Value) (h : Heap) (K : Kt) : Prop :=
 K x4_ h
def m_node_inner_2 (x0_ x1_ x2_ : Value) (h : Heap) (K : Kt) : Prop :=
 BxP t_api_Msg x0_ h fun x2 h1 =>
 LdA 8 x1_ h1 fun x4 =>
 Fv 0 x2 h1 fun x6 =>
 Ca f_node_Key #[x4, x6] h1 fun x8 h7 =>
 UnP .not x8 fun x9 =>
 CdP x9
 (undef = undef ∧ (undef = undef ∧ (undef = undef ∧ (m_node_inner_2_j39 (.bool true) h7 K))))
 (LdA 3 x2_ h7 fun x13 =>
 Fv 0 x2 h7 fun x15 =>
 Ca f_lex_In #[x13, x15] h7 fun x17 h16 =>
 UnP .not x17 fun x18 =>
 CdP x18
 (undef = undef ∧ (undef = undef ∧ (undef = undef ∧ (m_node_inner_2_j39 (.bool true) h16 K))))
 (Fv 2 x2 h16 fun x23 =>
 LenP (some false) x23 fun x24 =>
 Fv 7 x1_ h16 fun x26 =>
 BiP .gtr x24 x26 fun x27 =>
 CdP x27
 (undef = undef ∧ (undef = undef ∧ (undef = undef ∧ (m_node_inner_2_j39 (.bool true) h16 K))))
 (Fv 1 x2 h16 fun x31 =>
 CdP x31
 (Fv 2 x2 h16 fun x33 =>
 BiP .neq x33 (.string { data := #[] }) fun x34 =>
 m_node_inner_2_j39 x34 h16 K)
 (m_node_inner_2_j39 (.bool false) h16 K))))
theorem m_node_inner_2_ok {x0_ x1_ x2_ : Value} {h : Heap} {K : Kt} (hh : m_node_inner_2 x0_ x1_ x2_ h K) : Ca f_node_inner_2 #[x0_, x1_, x2_] h K := cv Tryz.func201 (by kernel_rfl) hh
/- sluicegate/code.writeOuter -/
def m_code_writeOuter_j31 (x5_ : Value) (h : Heap) (K : Kt) : Prop :=
 K x5_ h
def m_code_writeOuter_l14 (vs : List Value) (x2_ x13_ x14_ : Value) (h : Heap) (nx15 : Nt) (K : Kt) : Prop :=
 BiP .lss (gv vs 1) x14_ fun x16 =>
 CdP x16
 (Ea 2 x13_ (gv vs 1) h fun x19 =>
 AlP t_api_Pair zt_api_Pair h fun x21 h20 =>
 StA 2 x21 x19 h20 fun h22 =>
 LdA 8 x2_ h22 fun x23 =>
 Fv 0 x21 h22 fun x25 =>
 Fv 1 x21 h22 fun x27 =>
 Ca f_code_pair #[x23, (gv vs 0), x25, x27] h22 fun x29 h28 =>
 BiP .add (gv vs 1) (.int .i64 1) fun x30 =>
 nx15 [x29, x30] h28)
 (m_code_writeOuter_j31 (gv vs 0) h K)
def m_code_writeOuter (x0_ x1_ : Value) (h : Heap) (K : Kt) : Prop :=
 BxP t_api_Config x0_ h fun x2 h1 =>
 BxP t_api_Node x1_ h1 fun x4 h3 =>
 Fv 4 x4 h3 fun x6 =>
 LenP (some true) x6 fun x7 =>
 Ca f_code_front #[(.int .i64 1), (.int .i64 0), x7, (.int .i64 0)] h3 fun x9 h8 =>
 Fv 4 x4 h8 fun x12 =>
 LenP (some true) x12 fun x13 =>
 LoP (fun vt h nx15 => m_code_writeOuter_l14 vt x2 x12 x13 h nx15 K) [x9, (.int .i64 0)] h8
theorem m_code_writeOuter_ok {x0_ x1_ : Value} {h : Heap} {K : Kt} (hh : m_code_writeOuter x0_ x1_ h K) : Ca f_code_writeOuter #[x0_, x1_] h K := cv Tryz.func202 (by kernel_rfl) hh
/- sluicegate/code.writeInner -/
def m_code_writeInner_j35 (x2_ x3_ x5_ x23_ x24_ : Value) (h : Heap) (nx19 : Nt) (K : Kt) : Prop :=
 BiP .add x24_ (.int .i64 1) fun x36 =>
 nx19 [x5_, x36] h
def m_code_writeInner_j31 (x2_ x3_ x5_ x7_ x23_ x24_ : Value) (h : Heap) (nx19 : Nt) (K : Kt) : Prop :=
 CvP .u64 x7_ fun x32 =>
 Ca f_code_num #[x5_, (.int .i64 4), x32] h fun x34 h33 =>
 m_code_writeInner_j35 x2_ x3_ x34 x23_ x24_ h33 nx19 K
def m_code_writeInner_j65 (x2_ x3_ x5_ x44_ x45_ : Value) (h : Heap) (nx43 : Nt) (K : Kt) : Prop :=
 BiP .add x45_ (.int .i64 1) fun x66 =>
 nx43 [x5_, x66] h
def m_code_writeInner_j55 (x2_ x3_ x5_ x9_ x44_ x45_ : Value) (h : Heap) (nx43 : Nt) (K : Kt) : Prop :=
 ∃ X56 : XS,
 LenP (some false) x9_ fun x57 =>
 CvP .u64 x57 fun x58 =>
 FaP (some 6) x2_ fun x59 =>
 LdX X56 x59 h fun x60 =>
 Ca f_code_num #[x5_, (.int .i64 1), x58] h fun x62 h61 =>
 Agr X56 h h61 ∧ (Ca f_code_text #[x62, x9_, x60] h61 fun x64 h63 =>
 True ∧ (m_code_writeInner_j65 x2_ x3_ x64 x44_ x45_ h63 nx43 K))
def m_code_writeInner_j95 (x2_ x5_ x69_ x70_ x71_ : Value) (h : Heap) (nx73 : Nt) (K : Kt) : Prop :=
 BiP .add x71_ (.int .i64 1) fun x96 =>
 nx73 [x5_, x96] h
def m_code_writeInner_j84 (x2_ x5_ x11_ x12_ x69_ x70_ x71_ : Value) (h : Heap) (nx73 : Nt) (K : Kt) : Prop :=
 ∃ X85 : XS,
 LaX X85 8 x2_ h fun x86 =>
 FaP (some 0) x11_ fun x87 =>
 LdX X85 x87 h fun x88 =>
 FaP (some 2) x11_ fun x89 =>
 LdX X85 x89 h fun x90 =>
 Ca f_code_num #[x5_, (.int .i64 1), x12_] h fun x92 h91 =>
 Agr X85 h h91 ∧ (Ca f_code_pair #[x86, x92, x88, x90] h91 fun x94 h93 =>
 True ∧ (m_code_writeInner_j95 x2_ x94 x69_ x70_ x71_ h93 nx73 K))
def m_code_writeInner_j97 (x5_ : Value) (h : Heap) (K : Kt) : Prop :=
 K x5_ h
def m_code_writeInner_l72 (vs : List Value) (x2_ x69_ x70_ : Value) (h : Heap) (nx73 : Nt) (K : Kt) : Prop :=
 BiP .lss (gv vs 1) x70_ fun x74 =>
 CdP x74
 (Ea 3 x69_ (gv vs 1) h fun x77 =>
 AlP t_api_Msg zt_api_Msg h fun x79 h78 =>
 StA 3 x79 x77 h78 fun h80 =>
 Fv 1 x79 h80 fun x83 =>
 CdP x83
 (m_code_writeInner_j84 x2_ (gv vs 0) x79 (.int .u64 2) x69_ x70_ (gv vs 1) h80 nx73 K)
 (m_code_writeInner_j84 x2_ (gv vs 0) x79 (.int .u64 1) x69_ x70_ (gv vs 1) h80 nx73 K))
 (m_code_writeInner_j97 (gv vs 0) h K)
def m_code_writeInner_j67 (x2_ x3_ x5_ : Value) (h : Heap) (K : Kt) : Prop :=
 Fv 3 x3_ h fun x70 =>
 LenP (some true) x70 fun x71 =>
 LoP (fun vt h nx73 => m_code_writeInner_l72 vt x2_ x70 x71 h nx73 K) [x5_, (.int .i64 0)] h
def m_code_writeInner_l42 (vs : List Value) (x2_ x3_ x44_ : Value) (h : Heap) (nx43 : Nt) (K : Kt) : Prop :=
 BiP .lss (gv vs 1) x44_ fun x44 =>
 CdP x44
 (Fv 2 x3_ h fun x48 =>
 LenP (some true) x48 fun x49 =>
 BiP .lss (gv vs 1) x49 fun x50 =>
 CdP x50
 (Fv 2 x3_ h fun x52 =>
 Ei 1 x52 (gv vs 1) h fun x54 =>
 m_code_writeInner_j55 x2_ x3_ (gv vs 0) x54 x44_ (gv vs 1) h nx43 K)
 (m_code_writeInner_j55 x2_ x3_ (gv vs 0) (.string { data := #[] }) x44_ (gv vs 1) h nx43 K))
 (m_code_writeInner_j67 x2_ x3_ (gv vs 0) h K)
def m_code_writeInner_j37 (x2_ x3_ x5_ : Value) (h : Heap) (K : Kt) : Prop :=
 Fv 3 x2_ h fun x40 =>
 BiP .sub x40 (.int .i64 1) fun x41 =>
 LoP (fun vt h nx43 => m_code_writeInner_l42 vt x2_ x3_ x41 h nx43 K) [x5_, (.int .i64 0)] h
def m_code_writeInner_l18 (vs : List Value) (x2_ x3_ x23_ : Value) (h : Heap) (nx19 : Nt) (K : Kt) : Prop :=
 BiP .lss (gv vs 1) x23_ fun x20 =>
 CdP x20
 (Fv 1 x3_ h fun x24 =>
 LenP (some true) x24 fun x25 =>
 BiP .lss (gv vs 1) x25 fun x26 =>
 CdP x26
 (Fv 1 x3_ h fun x28 =>
 Ei 1 x28 (gv vs 1) h fun x30 =>
 m_code_writeInner_j31 x2_ x3_ (gv vs 0) x30 x23_ (gv vs 1) h nx19 K)
 (m_code_writeInner_j31 x2_ x3_ (gv vs 0) (.int .u32 0) x23_ (gv vs 1) h nx19 K))
 (m_code_writeInner_j37 x2_ x3_ (gv vs 0) h K)
def m_code_writeInner (x0_ x1_ : Value) (h : Heap) (K : Kt) : Prop :=
 BxP t_api_Config x0_ h fun x2 h1 =>
 BxP t_api_Node x1_ h1 fun x4 h3 =>
 Fv 0 x4 h3 fun x6 =>
 Fv 1 x4 h3 fun x8 =>
 LenP (some true) x8 fun x9 =>
 Fv 3 x4 h3 fun x11 =>
 LenP (some true) x11 fun x12 =>
 Ca f_code_front #[(.int .i64 2), x6, x9, x12] h3 fun x14 h13 =>
 Fv 3 x2 h13 fun x17 =>
 LoP (fun vt h nx19 => m_code_writeInner_l18 vt x2 x4 x17 h nx19 K) [x14, (.int .i64 0)] h13
theorem m_code_writeInner_ok {x0_ x1_ : Value} {h : Heap} {K : Kt} (hh : m_code_writeInner x0_ x1_ h K) : Ca f_code_writeInner #[x0_, x1_] h K := cv Tryz.func203 (by kernel_rfl) hh
/- sluicegate/code.readPair -/
def m_code_readPair (x0_ x1_ : Value) (h : Heap) (K : Kt) : Prop :=
 BxP t_api_Config x0_ h fun x2 h1 =>
 Ca f_word_Reader_Num #[x1_, (.int .i64 1)] h1 fun x4 h3 =>
 CvP .i64 x4 fun x5 =>
 Ca f_word_Reader_Num #[x1_, (.int .i64 2)] h3 fun x7 h6 =>
 CvP .i64 x7 fun x8 =>
 ∃ X10 : XS,
 FaP (some 6) x2 fun x11 =>
 LdX X10 x11 h6 fun x12 =>
 FaP (some 7) x2 fun x13 =>
 LdX X10 x13 h6 fun x14 =>
 Ca f_word_Reader_Text #[x1_, x5, x12] h6 fun x16 h15 =>
 Agr X10 h6 h15 ∧ (Ca f_word_Reader_Text #[x1_, x8, x14] h15 fun x18 h17 =>
 True ∧ (K (.tuple #[x16, x18]) h17))
theorem m_code_readPair_ok {x0_ x1_ : Value} {h : Heap} {K : Kt} (hh : m_code_readPair x0_ x1_ h K) : Ca f_code_readPair #[x0_, x1_] h K := cv Tryz.func216 (by kernel_rfl) hh
/- sluicegate/leaf.Halve -/
def m_leaf_Halve (x0_ : Value) (h : Heap) (K : Kt) : Prop :=
 LenP (some true) x0_ fun x1 =>
 BiP .lss x1 (.int .i64 2) fun x2 =>
 CdP x2
 (K (.tuple #[(.slice none 0 0), (.slice none 0 0), (.string { data := #[] }), (.bool false)]) h)
 (LenP (some true) x0_ fun x3 =>
 BiP .add x3 (.int .i64 1) fun x4 =>
 BiP .quo x4 (.int .i64 2) fun x5 =>
 BiP .sub x5 (.int .i64 1) fun x6 =>
 Ef 2 0 x0_ x6 h fun x9 =>
 Ef 2 0 x0_ x5 h fun x12 =>
 Ca f_lex_Cut #[x9, x12] h fun x14 h13 =>
 True ∧ (ExP x14 0 fun x15 =>
 ExP x14 1 fun x16 =>
 SlP 2 x0_ none (some x5) fun x18 =>
 SlP 2 x0_ (some x5) none fun x19 =>
 Ca f_slices_Clone_api_Pair #[x18] h13 fun x21 h20 =>
 True ∧ (Ca f_slices_Clone_api_Pair #[x19] h20 fun x23 h22 =>
 True ∧ (K (.tuple #[x21, x23, x15, (.bool true)]) h22))))
theorem m_leaf_Halve_ok {x0_ : Value} {h : Heap} {K : Kt} (hh : m_leaf_Halve x0_ h K) : Ca f_leaf_Halve #[x0_] h K := cv Tryz.func220 (by kernel_rfl) hh
/- sluicegate/buf.Split -/
def m_buf_Split (x0_ x1_ : Value) (h : Heap) (K : Kt) : Prop :=
 Ca f_slices_BinarySearchFunc_api_Msg #[x0_, x1_, (.func (.func f_buf_compare) #[] #[])] h fun x2 h1 =>
 ExP x2 0 fun x3 =>
 ExP x2 1 fun x4 =>
 SlP 3 x0_ none (some x3) fun x6 =>
 SlP 3 x0_ (some x3) none fun x7 =>
 Ca f_slices_Clone_api_Msg #[x6] h1 fun x9 h8 =>
 True ∧ (Ca f_slices_Clone_api_Msg #[x7] h8 fun x11 h10 =>
 True ∧ (K (.tuple #[x9, x11]) h10))
theorem m_buf_Split_ok {x0_ x1_ : Value} {h : Heap} {K : Kt} (hh : m_buf_Split x0_ x1_ h K) : Ca f_buf_Split #[x0_, x1_] h K := cv Tryz.func221 (by kernel_rfl) hh
/- sluicegate/code.front -/
def m_code_front (x0_ x1_ x2_ x3_ : Value) (h : Heap) (K : Kt) : Prop :=
 CvP .u64 x0_ fun x1 =>
 Ca f_code_num #[(.slice none 0 0), (.int .i64 1), x1] h fun x3 h2 =>
 CvP .u64 x1_ fun x4 =>
 Ca f_code_num #[x3, (.int .i64 1), x4] h2 fun x6 h5 =>
 CvP .u64 x2_ fun x7 =>
 Ca f_code_num #[x6, (.int .i64 2), x7] h5 fun x9 h8 =>
 CvP .u64 x3_ fun x10 =>
 Ca f_code_num #[x9, (.int .i64 2), x10] h8 fun x12 h11 =>
 Ca f_code_num #[x12, (.int .i64 2), (.int .u64 0)] h11 fun x14 h13 =>
 K x14 h13
theorem m_code_front_ok {x0_ x1_ x2_ x3_ : Value} {h : Heap} {K : Kt} (hh : m_code_front x0_ x1_ x2_ x3_ h K) : Ca f_code_front #[x0_, x1_, x2_, x3_] h K := cv Tryz.func243 (by kernel_rfl) hh
/- sluicegate/code.pair -/
def m_code_pair (x0_ x1_ x2_ x3_ : Value) (h : Heap) (K : Kt) : Prop :=
 BxP t_api_Config x0_ h fun x2 h1 =>
 LenP (some false) x2_ fun x3 =>
 CvP .u64 x3 fun x4 =>
 Ca f_code_num #[x1_, (.int .i64 1), x4] h1 fun x6 h5 =>
 LenP (some false) x3_ fun x7 =>
 CvP .u64 x7 fun x8 =>
 Ca f_code_num #[x6, (.int .i64 2), x8] h5 fun x10 h9 =>
 ∃ X12 : XS,
 FaP (some 6) x2 fun x13 =>
 LdX X12 x13 h9 fun x14 =>
 FaP (some 7) x2 fun x15 =>
 LdX X12 x15 h9 fun x16 =>
 Ca f_code_text #[x10, x2_, x14] h9 fun x18 h17 =>
 Agr X12 h9 h17 ∧ (Ca f_code_text #[x18, x3_, x16] h17 fun x20 h19 =>
 True ∧ (K x20 h19))
theorem m_code_pair_ok {x0_ x1_ x2_ x3_ : Value} {h : Heap} {K : Kt} (hh : m_code_pair x0_ x1_ x2_ x3_ h K) : Ca f_code_pair #[x0_, x1_, x2_, x3_] h K := cv Tryz.func244 (by kernel_rfl) hh
/- sluicegate/code.num -/
def m_code_num (x0_ x1_ x2_ : Value) (h : Heap) (K : Kt) : Prop :=
 Ca f_word_Put #[(.slice none 0 0), x1_, x2_] h fun x2 h1 =>
 VH Pg (Builtin.append_ #[t_S_uint8, t_S_uint8] t_S_uint8 #[x0_, x2]) h1 fun x4 h3 =>
 K x4 h3
theorem m_code_num_ok {x0_ x1_ x2_ : Value} {h : Heap} {K : Kt} (hh : m_code_num x0_ x1_ x2_ h K) : Ca f_code_num #[x0_, x1_, x2_] h K := cv Tryz.func245 (by kernel_rfl) hh
/- sluicegate/code.text -/
def m_code_text (x0_ x1_ x2_ : Value) (h : Heap) (K : Kt) : Prop :=
 VH Pg (Builtin.append_ #[t_S_uint8, t_string] t_S_uint8 #[x0_, x1_]) h fun x2 h1 =>
 LenP (some false) x1_ fun x3 =>
 BiP .sub x2_ x3 fun x4 =>
 VH Pg (Builtin.append_ #[t_S_uint8, t_int] t_S_uint8 #[x2, x4]) h1 fun x6 h5 =>
 K x6 h5
theorem m_code_text_ok {x0_ x1_ x2_ : Value} {h : Heap} {K : Kt} (hh : m_code_text x0_ x1_ x2_ h K) : Ca f_code_text #[x0_, x1_, x2_] h K := cv Tryz.func246 (by kernel_rfl) hh
/- sluicegate/node.Heaviest -/
def m_node_Heaviest_j19 (x2_ x4_ x12_ x13_ x14_ : Value) (h : Heap) (nx11 : Nt) (K : Kt) : Prop :=
 BiP .add x14_ (.int .i64 1) fun x20 =>
 nx11 [x2_, x20] h
def m_node_Heaviest_j21 (x2_ x4_ : Value) (h : Heap) (K : Kt) : Prop :=
 Ei 1 x4_ x2_ h fun x23 =>
 K (.tuple #[x2_, x23]) h
def m_node_Heaviest_l10 (vs : List Value) (x4_ x12_ x13_ : Value) (h : Heap) (nx11 : Nt) (K : Kt) : Prop :=
 BiP .lss (gv vs 1) x13_ fun x12 =>
 CdP x12
 (Ei 1 x12_ (gv vs 1) h fun x15 =>
 Ei 1 x4_ (gv vs 0) h fun x17 =>
 BiP .gtr x15 x17 fun x18 =>
 CdP x18
 (m_node_Heaviest_j19 (gv vs 1) x4_ x12_ x13_ (gv vs 1) h nx11 K)
 (m_node_Heaviest_j19 (gv vs 0) x4_ x12_ x13_ (gv vs 1) h nx11 K))
 (m_node_Heaviest_j21 (gv vs 0) x4_ h K)
def m_node_Heaviest (x0_ : Value) (h : Heap) (K : Kt) : Prop :=
 BxP t_api_Node x0_ h fun x2 h1 =>
 LdA 5 x2 h1 fun x3 =>
 Ca f_node_Loads #[x3] h1 fun x5 h4 =>
 LenP (some true) x5 fun x6 =>
 BiP .eql x6 (.int .i64 0) fun x7 =>
 CdP x7
 (K (.tuple #[(.int .i64 0), (.int .i64 0)]) h4)
 (LenP (some true) x5 fun x9 =>
 LoP (fun vt h nx11 => m_node_Heaviest_l10 vt x5 x5 x9 h nx11 K) [(.int .i64 0), (.int .i64 0)] h4)
theorem m_node_Heaviest_ok {x0_ : Value} {h : Heap} {K : Kt} (hh : m_node_Heaviest x0_ h K) : Ca f_node_Heaviest #[x0_] h K := cv Tryz.func253 (by kernel_rfl) hh
/- sluicegate/node.Loads -/
def m_node_Loads_j34 (x1_ x3_ x12_ x13_ x14_ : Value) (h : Heap) (nx13 : Nt) (K : Kt) : Prop :=
 BiP .add x14_ (.int .i64 1) fun x35 =>
 nx13 [x35] h
def m_node_Loads_j36 (x3_ : Value) (h : Heap) (K : Kt) : Prop :=
 K x3_ h
def m_node_Loads_l12 (vs : List Value) (x1_ x3_ x12_ x13_ : Value) (h : Heap) (nx13 : Nt) (K : Kt) : Prop :=
 BiP .lss (gv vs 0) x13_ fun x14 =>
 CdP x14
 (Ea 3 x12_ (gv vs 0) h fun x17 =>
 AlP t_api_Msg zt_api_Msg h fun x19 h18 =>
 StA 3 x19 x17 h18 fun h20 =>
 Fv 2 x1_ h20 fun x22 =>
 Fv 0 x19 h20 fun x24 =>
 Ca f_fan_Way #[x22, x24] h20 fun x26 h25 =>
 LenP (some true) x3_ fun x27 =>
 BiP .lss x26 x27 fun x28 =>
 CdP x28
 (Ei 1 x3_ x26 h25 fun x30 =>
 BiP .add x30 (.int .i64 1) fun x31 =>
 IxP 1 x3_ x26 fun x32 =>
 StP x32 x31 h25 fun h33 =>
 m_node_Loads_j34 x1_ x3_ x12_ x13_ (gv vs 0) h33 nx13 K)
 (m_node_Loads_j34 x1_ x3_ x12_ x13_ (gv vs 0) h25 nx13 K))
 (m_node_Loads_j36 x3_ h K)
def m_node_Loads (x0_ : Value) (h : Heap) (K : Kt) : Prop :=
 BxP t_api_Node x0_ h fun x2 h1 =>
 Fv 1 x2 h1 fun x4 =>
 LenP (some true) x4 fun x5 =>
 VH Pg (Instr.makeSlice t_S_int x5 x5) h1 fun x7 h6 =>
 Fv 3 x2 h6 fun x10 =>
 LenP (some true) x10 fun x11 =>
 LoP (fun vt h nx13 => m_node_Loads_l12 vt x2 x7 x10 x11 h nx13 K) [(.int .i64 0)] h6
theorem m_node_Loads_ok {x0_ : Value} {h : Heap} {K : Kt} (hh : m_node_Loads x0_ h K) : Ca f_node_Loads #[x0_] h K := cv Tryz.func255 (by kernel_rfl) hh
/- sluicegate/node.Find -/
def m_node_Find (x0_ x1_ : Value) (h : Heap) (K : Kt) : Prop :=
 BxP t_api_Node x0_ h fun x2 h1 =>
 Fv 1 x2 h1 fun x4 =>
 Ca f_slices_Index_uint32 #[x4, x1_] h1 fun x6 h5 =>
 VH Pg (Builtin.max_ #[t_int, t_int] t_int #[(.int .i64 0), x6]) h5 fun x8 h7 =>
 BiP .geq x6 (.int .i64 0) fun x9 =>
 K (.tuple #[x8, x9]) h7
theorem m_node_Find_ok {x0_ x1_ : Value} {h : Heap} {K : Kt} (hh : m_node_Find x0_ x1_ h K) : Ca f_node_Find #[x0_, x1_] h K := cv Tryz.func273 (by kernel_rfl) hh
/- sluicegate/buf.Take -/
def m_buf_Take_j30 (x6_ x7_ : Value) (h : Heap) (K : Kt) : Prop :=
 K (.tuple #[x6_, x7_]) h
def m_buf_Take (x0_ x1_ x2_ : Value) (h : Heap) (K : Kt) : Prop :=
 BxP t_api_Span x1_ h fun x2 h1 =>
 LdA 3 x2 h1 fun x3 =>
 Ca f_buf_part #[x0_, x3] h1 fun x5 h4 =>
 ExP x5 0 fun x6 =>
 ExP x5 1 fun x7 =>
 BiP .sub x7 x6 fun x8 =>
 VH Pg (Builtin.min_ #[t_int, t_int] t_int #[x8, x2_]) h4 fun x10 h9 =>
 VH Pg (Builtin.max_ #[t_int, t_int] t_int #[(.int .i64 0), x10]) h9 fun x12 h11 =>
 BiP .add x6 x12 fun x13 =>
 SlP 3 x0_ (some x6) (some x13) fun x15 =>
 SlP 3 x0_ none (some x6) fun x16 =>
 SlP 3 x0_ (some x13) none fun x17 =>
 (Ca f_slices_Clone_api_Msg #[x15] h11 fun x19 h18 =>
 True ∧ (BsP st_S_S_api_Msg 2 [(0, x16), (1, x17)] h18 fun x21 h20 =>
 True ∧ (Ca f_slices_Concat_api_Msg #[x21] h20 fun x23 h22 =>
 True ∧ (m_buf_Take_j30 x19 x23 h22 K)))) ∧
 (BsP st_S_S_api_Msg 2 [(0, x16), (1, x17)] h11 fun x25 h24 =>
 True ∧ (Ca f_slices_Clone_api_Msg #[x15] h24 fun x27 h26 =>
 True ∧ (Ca f_slices_Concat_api_Msg #[x25] h26 fun x29 h28 =>
 True ∧ (m_buf_Take_j30 x27 x29 h28 K))))
theorem m_buf_Take_ok {x0_ x1_ x2_ : Value} {h : Heap} {K : Kt} (hh : m_buf_Take x0_ x1_ x2_ h K) : Ca f_buf_Take #[x0_, x1_, x2_] h K := cv Tryz.func274 (by kernel_rfl) hh
/- sluicegate/fan.Insert -/
def m_fan_Insert_j11 (x1_ x2_ x7_ : Value) (h : Heap) (K : Kt) : Prop :=
 BsP st_S_string 1 [(0, x2_)] h fun x13 h12 =>
 Ca f_slices_Insert_string #[x7_, x1_, x13] h12 fun x15 h14 =>
 K x15 h14
def m_fan_Insert_j10 (x1_ x2_ x7_ x17_ : Value) (h : Heap) (K : Kt) : Prop :=
 CdP x17_
 (K x7_ h)
 (m_fan_Insert_j11 x1_ x2_ x7_ h K)
def m_fan_Insert (x0_ x1_ x2_ : Value) (h : Heap) (K : Kt) : Prop :=
 Ca f_slices_Clone_string #[x0_] h fun x2 h1 =>
 BiP .lss x1_ (.int .i64 0) fun x5 =>
 CdP x5
 (m_fan_Insert_j10 x1_ x2_ x2 (.bool true) h1 K)
 (LenP (some true) x0_ fun x7 =>
 BiP .gtr x1_ x7 fun x8 =>
 m_fan_Insert_j10 x1_ x2_ x2 x8 h1 K)
theorem m_fan_Insert_ok {x0_ x1_ x2_ : Value} {h : Heap} {K : Kt} (hh : m_fan_Insert x0_ x1_ x2_ h K) : Ca f_fan_Insert #[x0_, x1_, x2_] h K := cv Tryz.func276 (by kernel_rfl) hh
/- sluicegate/fan.Remove -/
def m_fan_Remove_j11 (x1_ x5_ : Value) (h : Heap) (K : Kt) : Prop :=
 BiP .add x1_ (.int .i64 1) fun x12 =>
 Ca f_slices_Delete_string #[x5_, x1_, x12] h fun x14 h13 =>
 K x14 h13
def m_fan_Remove_j10 (x1_ x5_ x15_ : Value) (h : Heap) (K : Kt) : Prop :=
 CdP x15_
 (K x5_ h)
 (m_fan_Remove_j11 x1_ x5_ h K)
def m_fan_Remove (x0_ x1_ : Value) (h : Heap) (K : Kt) : Prop :=
 Ca f_slices_Clone_string #[x0_] h fun x2 h1 =>
 BiP .lss x1_ (.int .i64 0) fun x5 =>
 CdP x5
 (m_fan_Remove_j10 x1_ x2 (.bool true) h1 K)
 (LenP (some true) x0_ fun x7 =>
 BiP .geq x1_ x7 fun x8 =>
 m_fan_Remove_j10 x1_ x2 x8 h1 K)
theorem m_fan_Remove_ok {x0_ x1_ : Value} {h : Heap} {K : Kt} (hh : m_fan_Remove x0_ x1_ h K) : Ca f_fan_Remove #[x0_, x1_] h K := cv Tryz.func280 (by kernel_rfl) hh
end Go.Sg
