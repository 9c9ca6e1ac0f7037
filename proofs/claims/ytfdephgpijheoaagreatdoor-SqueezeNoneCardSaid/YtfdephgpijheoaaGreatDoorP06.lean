/-
  Part 6 of a proof: own texts, merged by program.
-/
import Derived.Test.YtfdephgpijheoaaGreatDoorP05
set_option linter.unusedVariables false
set_option linter.unusedSimpArgs false
set_option maxRecDepth 100000
namespace Go.Sg
open Go Vc Go.Proofs
def m_node_Key_j12 (x4_ : Value) (h : Heap) (K : Kt) : Prop :=
 K x4_ h
def m_node_Key (x0_ x1_ : Value) (h : Heap) (K : Kt) : Prop :=
 BxP t_api_Config x0_ h fun x2 h1 =>
 LenP (some false) x1_ fun x4 =>
 BiP .geq x4 (.int .i64 1) fun x5 =>
 CdP x5
 (LenP (some false) x1_ fun x6 =>
 Fv 6 x2 h1 fun x8 =>
 BiP .leq x6 x8 fun x9 =>
 m_node_Key_j12 x9 h1 K)
 (m_node_Key_j12 (.bool false) h1 K)
theorem m_node_Key_ok {x0_ x1_ : Value} {h : Heap} {K : Kt} (hh : m_node_Key x0_ x1_ h K) : Ca f_node_Key #[x0_, x1_] h K := cv Tryz.func47 (by kernel_rfl) hh
def m_head_Encode_j32 (x1_ x4_ : Value) (h : Heap) (K : Kt) : Prop :=
 Fv 8 x1_ h fun x34 =>
 CvP .u64 x34 fun x35 =>
 Ca f_word_Put #[x4_, (.int .i64 4), x35] h fun x37 h36 =>
 Fv 9 x1_ h36 fun x39 =>
 CvP .u64 x39 fun x40 =>
 Ca f_word_Put #[x37, (.int .i64 4), x40] h36 fun x42 h41 =>
 VH Pg (Builtin.append_ #[t_S_uint8, t_int] t_S_uint8 #[x42, (.int .i64 12)]) h41 fun x44 h43 =>
 BsP st_S_S_uint8 1 [(0, x44)] h43 fun x46 h45 =>
 Ca f_check_Sum #[x46] h45 fun x48 h47 =>
 CvP .u64 x48 fun x49 =>
 Ca f_word_Put #[x44, (.int .i64 4), x49] h47 fun x51 h50 =>
 FaP (some 0) x1_ fun x52 =>
 Fv 1 x52 h50 fun x54 =>
 LenP (some true) x51 fun x55 =>
 BiP .sub x54 x55 fun x56 =>
 VH Pg (Builtin.append_ #[t_S_uint8, t_int] t_S_uint8 #[x51, x56]) h50 fun x58 h57 =>
 K (.tuple #[x58, (.int .i64 0)]) h57
def m_head_Encode_l20 (vs : List Value) (x1_ x14_ x15_ : Value) (h : Heap) (nx21 : Nt) (K : Kt) : Prop :=
 BiP .lss (gv vs 1) x15_ fun x22 =>
 CdP x22
 (Ei 1 x14_ (gv vs 1) h fun x25 =>
 NilP x25 fun x26 =>
 LdP x26 h fun x27 =>
 CvP .u64 x27 fun x28 =>
 Ca f_word_Put #[(gv vs 0), (.int .i64 4), x28] h fun x30 h29 =>
 BiP .add (gv vs 1) (.int .i64 1) fun x31 =>
 nx21 [x30, x31] h29)
 (m_head_Encode_j32 x1_ (gv vs 0) h K)
def m_head_Encode (x0_ : Value) (h : Heap) (K : Kt) : Prop :=
 BxP t_head_Head x0_ h fun x2 h1 =>
 LdA 10 x2 h1 fun x3 =>
 Ca f_head_Right #[x3] h1 fun x5 h4 =>
 UnP .not x5 fun x6 =>
 CdP x6
 (K (.tuple #[(.slice none 0 0), (.int .i64 2)]) h4)
 (BsP st_S_uint8 8 [(0, (.int .u8 83)), (1, (.int .u8 76)), (2, (.int .u8 85)), (3, (.int .u8 73)), (4, (.int .u8 67)), (5, (.int .u8 69)), (6, (.int .u8 48)), (7, (.int .u8 49))] h4 fun x8 h7 =>
 VH Pg (convert t_S_uint8 t_S_uint8 x8) h7 fun x10 h9 =>
 Ca f_head_numbers #[x2] h9 fun x12 h11 =>
 AlP t_A9_P_int zt_A9_P_int h11 fun x14 h13 =>
 StA 9 x14 x12 h13 fun h15 =>
 VH Pg (Instr.sliceAt t_A9_P_int x14 none (some (.int .i64 8)) none) h15 fun x18 h17 =>
 LenP (some true) x18 fun x19 =>
 LoP (fun vt h nx21 => m_head_Encode_l20 vt x2 x18 x19 h nx21 K) [x10, (.int .i64 0)] h17)
theorem m_head_Encode_ok {x0_ : Value} {h : Heap} {K : Kt} (hh : m_head_Encode x0_ h K) : Ca f_head_Encode #[x0_] h K := cv Tryz.func81 (by kernel_rfl) hh
def m_head_Right_j39 (x2_ : Value) (h : Heap) (K : Kt) : Prop :=
 K x2_ h
def m_head_Right (x0_ : Value) (h : Heap) (K : Kt) : Prop :=
 BxP t_head_Head x0_ h fun x2 h1 =>
 Fva 0 8 x2 h1 fun x5 =>
 Ca f_conf_Check #[x5] h1 fun x7 h6 =>
 BiP .eql x7 (.int .i64 0) fun x8 =>
 CdP x8
 (Fv 8 x2 h6 fun x10 =>
 BiP .geq x10 (.int .u32 1) fun x11 =>
 CdP x11
 (Fv 8 x2 h6 fun x14 =>
 CvP .i64 x14 fun x15 =>
 FaP (some 0) x2 fun x16 =>
 Fv 0 x16 h6 fun x18 =>
 BiP .lss x15 x18 fun x19 =>
 CdP x19
 (Fv 9 x2 h6 fun x22 =>
 BiP .geq x22 (.int .i64 1) fun x23 =>
 CdP x23
 (Fv 9 x2 h6 fun x26 =>
 BiP .leq x26 (.int .i64 41) fun x27 =>
 m_head_Right_j39 x27 h6 K)
 (m_head_Right_j39 (.bool false) h6 K))
 (m_head_Right_j39 (.bool false) h6 K))
 (m_head_Right_j39 (.bool false) h6 K))
 (m_head_Right_j39 (.bool false) h6 K)
theorem m_head_Right_ok {x0_ : Value} {h : Heap} {K : Kt} (hh : m_head_Right x0_ h K) : Ca f_head_Right #[x0_] h K := cv Tryz.func123 (by kernel_rfl) hh
def m_head_numbers (x0_ : Value) (h : Heap) (K : Kt) : Prop :=
 AlP t_A9_P_int zt_A9_P_int h fun x2 h1 =>
 NilP x0_ fun x3 =>
 FaP (some 0) x3 fun x4 =>
 NilP x4 fun x5 =>
 FaP (some 0) x5 fun x6 =>
 NilP x4 fun x7 =>
 FaP (some 1) x7 fun x8 =>
 NilP x4 fun x9 =>
 FaP (some 2) x9 fun x10 =>
 NilP x4 fun x11 =>
 FaP (some 3) x11 fun x12 =>
 NilP x4 fun x13 =>
 FaP (some 4) x13 fun x14 =>
 NilP x4 fun x15 =>
 FaP (some 5) x15 fun x16 =>
 NilP x4 fun x17 =>
 FaP (some 6) x17 fun x18 =>
 NilP x4 fun x19 =>
 FaP (some 7) x19 fun x20 =>
 NilP x0_ fun x21 =>
 FaP (some 9) x21 fun x22 =>
 BlP bt_A9_P_int [(0, x6), (1, x8), (2, x10), (3, x12), (4, x14), (5, x16), (6, x18), (7, x20), (8, x22)] fun x23 =>
 StA 9 x2 x23 h1 fun h24 =>
 True ∧ (LdA 9 x2 h24 fun x25 =>
 K x25 h24)
theorem m_head_numbers_ok {x0_ : Value} {h : Heap} {K : Kt} (hh : m_head_numbers x0_ h K) : Ca f_head_numbers #[x0_] h K := cv Tryz.func124 (by kernel_rfl) hh
def m_head_Decode_j64 (x2_ x4_ : Value) (h : Heap) (K : Kt) : Prop :=
 LdA 10 x4_ h fun x65 =>
 StA 10 x2_ x65 h fun h66 =>
 LdA 10 x2_ h66 fun x67 =>
 K (.tuple #[x67, (.int .i64 0)]) h66
def m_head_Decode_j60 (x2_ x4_ x52_ : Value) (h : Heap) (K : Kt) : Prop :=
 CdP x52_
 (BlP bt_head_Head [] fun x61 =>
 StA 10 x2_ x61 h fun h62 =>
 LdA 10 x2_ h62 fun x63 =>
 K (.tuple #[x63, (.int .i64 12)]) h62)
 (m_head_Decode_j64 x2_ x4_ h K)
def m_head_Decode_j30 (x0_ x2_ x4_ x5_ : Value) (h : Heap) (K : Kt) : Prop :=
 Ca f_word_Reader_Num #[x5_, (.int .i64 4)] h fun x32 h31 =>
 CvP .u32 x32 fun x33 =>
 FaP (some 8) x4_ fun x34 =>
 StP x34 x33 h31 fun h35 =>
 Ca f_word_Reader_Num #[x5_, (.int .i64 4)] h35 fun x37 h36 =>
 CvP .i64 x37 fun x38 =>
 FaP (some 9) x4_ fun x39 =>
 StP x39 x38 h36 fun h40 =>
 Ca f_word_Reader_Err #[x5_] h40 fun x42 h41 =>
 BiP .neq x42 (.int .i64 0) fun x43 =>
 CdP x43
 (BlP bt_head_Head [] fun x44 =>
 StA 10 x2_ x44 h41 fun h45 =>
 LdA 10 x2_ h45 fun x46 =>
 K (.tuple #[x46, (.int .i64 12)]) h45)
 (LdA 10 x4_ h41 fun x48 =>
 Ca f_head_Encode #[x48] h41 fun x50 h49 =>
 ExP x50 0 fun x51 =>
 ExP x50 1 fun x52 =>
 BiP .neq x52 (.int .i64 0) fun x54 =>
 CdP x54
 (m_head_Decode_j60 x2_ x4_ (.bool true) h49 K)
 (Ca f_slices_Equal_byte #[x51, x0_] h49 fun x57 h56 =>
 UnP .not x57 fun x58 =>
 m_head_Decode_j60 x2_ x4_ x58 h56 K))
def m_head_Decode_l18 (vs : List Value) (x0_ x2_ x4_ x5_ x16_ x17_ : Value) (h : Heap) (nx19 : Nt) (K : Kt) : Prop :=
 BiP .lss (gv vs 0) x17_ fun x20 =>
 CdP x20
 (Ei 1 x16_ (gv vs 0) h fun x23 =>
 Ca f_word_Reader_Num #[x5_, (.int .i64 4)] h fun x25 h24 =>
 CvP .i64 x25 fun x26 =>
 NilP x23 fun x27 =>
 StP x27 x26 h24 fun h28 =>
 BiP .add (gv vs 0) (.int .i64 1) fun x29 =>
 nx19 [x29] h28)
 (m_head_Decode_j30 x0_ x2_ x4_ x5_ h K)
def m_head_Decode (x0_ : Value) (h : Heap) (K : Kt) : Prop :=
 AlP t_head_Head zt_head_Head h fun x2 h1 =>
 AlP t_head_Head zt_head_Head h1 fun x4 h3 =>
 Ca f_word_Open #[x0_] h3 fun x6 h5 =>
 Ca f_word_Reader_Raw #[x6, (.int .i64 8)] h5 fun x8 h7 =>
 Ca f_head_numbers #[x4] h7 fun x10 h9 =>
 AlP t_A9_P_int zt_A9_P_int h9 fun x12 h11 =>
 StA 9 x12 x10 h11 fun h13 =>
 VH Pg (Instr.sliceAt t_A9_P_int x12 none (some (.int .i64 8)) none) h13 fun x16 h15 =>
 LenP (some true) x16 fun x17 =>
 LoP (fun vt h nx19 => m_head_Decode_l18 vt x0_ x2 x4 x6 x16 x17 h nx19 K) [(.int .i64 0)] h15
theorem m_head_Decode_ok {x0_ : Value} {h : Heap} {K : Kt} (hh : m_head_Decode x0_ h K) : Ca f_head_Decode #[x0_] h K := cv Tryz.func135 (by kernel_rfl) hh
def m_leaf_Apply_j46 (x5_ x12_ x13_ x14_ : Value) (h : Heap) (nx6 : Nt) (K : Kt) : Prop :=
 BiP .add x14_ (.int .i64 1) fun x47 =>
 nx6 [x5_, x47] h
def m_leaf_Apply_j25 (x5_ x7_ x8_ x9_ x12_ x13_ x14_ x25_ : Value) (h : Heap) (nx6 : Nt) (K : Kt) : Prop :=
 CdP x25_
 (BiP .add x8_ (.int .i64 1) fun x26 =>
 Ca f_slices_Delete_api_Pair #[x5_, x8_, x26] h fun x28 h27 =>
 m_leaf_Apply_j46 x28 x12_ x13_ x14_ h27 nx6 K)
 (CdP x9_
 (Fv 2 x7_ h fun x30 =>
 IxP 2 x5_ x8_ fun x31 =>
 FaP (some 1) x31 fun x32 =>
 StP x32 x30 h fun h33 =>
 m_leaf_Apply_j46 x5_ x12_ x13_ x14_ h33 nx6 K)
 (Fv 1 x7_ h fun x35 =>
 UnP .not x35 fun x36 =>
 CdP x36
 (Fv 0 x7_ h fun x38 =>
 Fv 2 x7_ h fun x40 =>
 BlP bt_api_Pair [(0, x38), (1, x40)] fun x41 =>
 BsP st_S_api_Pair 1 [(0, x41)] h fun x43 h42 =>
 Ca f_slices_Insert_api_Pair #[x5_, x8_, x43] h42 fun x45 h44 =>
 m_leaf_Apply_j46 x45 x12_ x13_ x14_ h44 nx6 K)
 (m_leaf_Apply_j46 x5_ x12_ x13_ x14_ h nx6 K)))
def m_leaf_Apply_j48 (x5_ : Value) (h : Heap) (K : Kt) : Prop :=
 K x5_ h
def m_leaf_Apply_l5 (vs : List Value) (x12_ x13_ : Value) (h : Heap) (nx6 : Nt) (K : Kt) : Prop :=
 BiP .lss (gv vs 1) x13_ fun x7 =>
 CdP x7
 (Ea 3 x12_ (gv vs 1) h fun x10 =>
 AlP t_api_Msg zt_api_Msg h fun x12 h11 =>
 StA 3 x12 x10 h11 fun h13 =>
 Fv 0 x12 h13 fun x15 =>
 Ca f_slices_BinarySearchFunc_api_Pair #[(gv vs 0), x15, (.func (.func f_leaf_compare) #[] #[])] h13 fun x17 h16 =>
 ExP x17 0 fun x18 =>
 ExP x17 1 fun x19 =>
 CdP x19
 (Fv 1 x12 h16 fun x22 =>
 m_leaf_Apply_j25 (gv vs 0) x12 x18 x19 x12_ x13_ (gv vs 1) x22 h16 nx6 K)
 (m_leaf_Apply_j25 (gv vs 0) x12 x18 x19 x12_ x13_ (gv vs 1) (.bool false) h16 nx6 K))
 (m_leaf_Apply_j48 (gv vs 0) h K)
def m_leaf_Apply (x0_ x1_ : Value) (h : Heap) (K : Kt) : Prop :=
 Ca f_slices_Clone_api_Pair #[x0_] h fun x2 h1 =>
 LenP (some true) x1_ fun x4 =>
 LoP (fun vt h nx6 => m_leaf_Apply_l5 vt x1_ x4 h nx6 K) [x2, (.int .i64 0)] h1
theorem m_leaf_Apply_ok {x0_ x1_ : Value} {h : Heap} {K : Kt} (hh : m_leaf_Apply x0_ x1_ h K) : Ca f_leaf_Apply #[x0_, x1_] h K := cv Tryz.func151 (by kernel_rfl) hh
def m_leaf_Part_j30 (x0_ x2_ x7_ x9_ : Value) (h : Heap) (K : Kt) : Prop :=
 LenP (some true) x0_ fun x31 =>
 VH Pg (Builtin.min_ #[t_int, t_int] t_int #[x2_, x31]) h fun x33 h32 =>
 BiP .add x7_ x33 fun x34 =>
 VH Pg (Builtin.min_ #[t_int, t_int] t_int #[x9_, x34]) h32 fun x36 h35 =>
 SlP 2 x0_ (some x7_) (some x36) fun x37 =>
 Ca f_slices_Clone_api_Pair #[x37] h35 fun x39 h38 =>
 K x39 h38
def m_leaf_Part_j12 (x0_ x2_ x4_ : Value) (h : Heap) (K : Kt) : Prop :=
 Fv 0 x4_ h fun x14 =>
 Ca f_slices_BinarySearchFunc_api_Pair #[x0_, x14, (.func (.func f_leaf_compare) #[] #[])] h fun x16 h15 =>
 ExP x16 0 fun x17 =>
 ExP x16 1 fun x18 =>
 LenP (some true) x0_ fun x19 =>
 Fv 2 x4_ h15 fun x22 =>
 UnP .not x22 fun x23 =>
 CdP x23
 (Fv 1 x4_ h15 fun x25 =>
 Ca f_slices_BinarySearchFunc_api_Pair #[x0_, x25, (.func (.func f_leaf_compare) #[] #[])] h15 fun x27 h26 =>
 ExP x27 0 fun x28 =>
 ExP x27 1 fun x29 =>
 m_leaf_Part_j30 x0_ x2_ x17 x28 h26 K)
 (m_leaf_Part_j30 x0_ x2_ x17 x19 h15 K)
def m_leaf_Part_j11 (x0_ x2_ x4_ x15_ : Value) (h : Heap) (K : Kt) : Prop :=
 CdP x15_
 (K (.slice none 0 0) h)
 (m_leaf_Part_j12 x0_ x2_ x4_ h K)
def m_leaf_Part (x0_ x1_ x2_ : Value) (h : Heap) (K : Kt) : Prop :=
 BxP t_api_Span x1_ h fun x2 h1 =>
 LdA 3 x2 h1 fun x5 =>
 Ca f_lex_Empty #[x5] h1 fun x7 h6 =>
 CdP x7
 (m_leaf_Part_j11 x0_ x2_ x2 (.bool true) h6 K)
 (BiP .lss x2_ (.int .i64 1) fun x9 =>
 m_leaf_Part_j11 x0_ x2_ x2 x9 h6 K)
theorem m_leaf_Part_ok {x0_ x1_ x2_ : Value} {h : Heap} {K : Kt} (hh : m_leaf_Part x0_ x1_ x2_ h K) : Ca f_leaf_Part #[x0_, x1_, x2_] h K := cv Tryz.func152 (by kernel_rfl) hh
def m_leaf_Right_j19 (h : Heap) (K : Kt) : Prop :=
 K (.bool true) h
def m_leaf_Right_l4 (vs : List Value) (x0_ x6_ : Value) (h : Heap) (nx5 : Nt) (K : Kt) : Prop :=
 BiP .lss (gv vs 1) x6_ fun x6 =>
 CdP x6
 (Ef 2 0 x0_ (gv vs 1) h fun x10 =>
 BiP .add (gv vs 1) (.int .i64 1) fun x11 =>
 Ef 2 0 x0_ x11 h fun x14 =>
 Ca f_lex_Compare #[x10, x14] h fun x16 h15 =>
 True ∧ (BiP .geq x16 (.int .i64 0) fun x17 =>
 CdP x17
 (K (.bool false) h15)
 (BiP .add (gv vs 1) (.int .i64 1) fun x18 =>
 nx5 [(gv vs 0), x18] h15)))
 (m_leaf_Right_j19 h K)
def m_leaf_Right (x0_ : Value) (h : Heap) (K : Kt) : Prop :=
 LenP (some true) x0_ fun x2 =>
 BiP .sub x2 (.int .i64 1) fun x3 =>
 LoP (fun vt h nx5 => m_leaf_Right_l4 vt x0_ x3 h nx5 K) [(.bool false), (.int .i64 0)] h
theorem m_leaf_Right_ok {x0_ : Value} {h : Heap} {K : Kt} (hh : m_leaf_Right x0_ h K) : Ca f_leaf_Right #[x0_] h K := cv Tryz.func185 (by kernel_rfl) hh
def m_code_Decode_j69 (x4_ x12_ : Value) (h : Heap) (K : Kt) : Prop :=
 LdA 5 x12_ h fun x70 =>
 StA 5 x4_ x70 h fun h71 =>
 LdA 5 x4_ h71 fun x72 =>
 K (.tuple #[x72, (.int .i64 0)]) h71
def m_code_Decode_j65 (x4_ x12_ x70_ : Value) (h : Heap) (K : Kt) : Prop :=
 CdP x70_
 (BlP bt_api_Node [] fun x66 =>
 StA 5 x4_ x66 h fun h67 =>
 LdA 5 x4_ h67 fun x68 =>
 K (.tuple #[x68, (.int .i64 12)]) h67)
 (m_code_Decode_j69 x4_ x12_ h K)
def m_code_Decode_j44 (x1_ x2_ x4_ x7_ x12_ : Value) (h : Heap) (K : Kt) : Prop :=
 Ca f_word_Reader_Err #[x7_] h fun x46 h45 =>
 BiP .neq x46 (.int .i64 0) fun x47 =>
 CdP x47
 (BlP bt_api_Node [] fun x48 =>
 StA 5 x4_ x48 h45 fun h49 =>
 LdA 5 x4_ h49 fun x50 =>
 K (.tuple #[x50, (.int .i64 12)]) h49)
 (LdA 8 x2_ h45 fun x52 =>
 LdA 5 x12_ h45 fun x53 =>
 Ca f_code_Encode #[x52, x53] h45 fun x55 h54 =>
 ExP x55 0 fun x56 =>
 ExP x55 1 fun x57 =>
 BiP .neq x57 (.int .i64 0) fun x59 =>
 CdP x59
 (m_code_Decode_j65 x4_ x12_ (.bool true) h54 K)
 (Ca f_slices_Equal_byte #[x56, x1_] h54 fun x62 h61 =>
 UnP .not x62 fun x63 =>
 m_code_Decode_j65 x4_ x12_ x63 h61 K))
def m_code_Decode (x0_ x1_ : Value) (h : Heap) (K : Kt) : Prop :=
 BxP t_api_Config x0_ h fun x2 h1 =>
 AlP t_api_Node zt_api_Node h1 fun x4 h3 =>
 LdA 8 x2 h3 fun x5 =>
 Ca f_conf_Check #[x5] h3 fun x7 h6 =>
 BiP .neq x7 (.int .i64 0) fun x8 =>
 CdP x8
 (BlP bt_api_Node [] fun x9 =>
 StA 5 x4 x9 h6 fun h10 =>
 LdA 5 x4 h10 fun x11 =>
 K (.tuple #[x11, x7]) h10)
 (Ca f_word_Open #[x1_] h6 fun x13 h12 =>
 Ca f_word_Reader_Num #[x13, (.int .i64 1)] h12 fun x15 h14 =>
 Ca f_word_Reader_Num #[x13, (.int .i64 1)] h14 fun x17 h16 =>
 CvP .i64 x17 fun x18 =>
 Ca f_word_Reader_Num #[x13, (.int .i64 2)] h16 fun x20 h19 =>
 CvP .i64 x20 fun x21 =>
 Ca f_word_Reader_Num #[x13, (.int .i64 2)] h19 fun x23 h22 =>
 CvP .i64 x23 fun x24 =>
 Ca f_word_Reader_Zeros #[x13, (.int .i64 2)] h22 fun x26 h25 =>
 BlP bt_api_Node [(0, (.int .i64 (-1)))] fun x27 =>
 AlP t_api_Node zt_api_Node h25 fun x29 h28 =>
 StA 5 x29 x27 h28 fun h30 =>
 BiP .eql x15 (.int .u64 1) fun x32 =>
 CdP x32
 (LdA 8 x2 h30 fun x33 =>
 Ca f_code_readOuter #[x33, x13, x21] h30 fun x35 h34 =>
 StA 5 x29 x35 h34 fun h36 =>
 m_code_Decode_j44 x1_ x2 x4 x13 x29 h36 K)
 (BiP .eql x15 (.int .u64 2) fun x37 =>
 CdP x37
 (LdA 8 x2 h30 fun x38 =>
 VH Pg (Builtin.max_ #[t_int, t_int] t_int #[(.int .i64 1), x18]) h30 fun x40 h39 =>
 Ca f_code_readInner #[x38, x13, x40, x21, x24] h39 fun x42 h41 =>
 StA 5 x29 x42 h41 fun h43 =>
 m_code_Decode_j44 x1_ x2 x4 x13 x29 h43 K)
 (m_code_Decode_j44 x1_ x2 x4 x13 x29 h30 K)))
theorem m_code_Decode_ok {x0_ x1_ : Value} {h : Heap} {K : Kt} (hh : m_code_Decode x0_ x1_ h K) : Ca f_code_Decode #[x0_, x1_] h K := cv Tryz.func203 (by kernel_rfl) hh
def m_leaf_compare (x0_ x1_ : Value) (h : Heap) (K : Kt) : Prop :=
 BxP t_api_Pair x0_ h fun x2 h1 =>
 Fv 0 x2 h1 fun x4 =>
 Ca f_lex_Compare #[x4, x1_] h1 fun x6 h5 =>
 K x6 h5
theorem m_leaf_compare_ok {x0_ x1_ : Value} {h : Heap} {K : Kt} (hh : m_leaf_compare x0_ x1_ h K) : Ca f_leaf_compare #[x0_, x1_] h K := cv Tryz.func206 (by kernel_rfl) hh
def m_code_Encode_j23 (x2_ x3_ x7_ : Value) (h : Heap) (K : Kt) : Prop :=
 LdA 8 x2_ h fun x24 =>
 LdA 5 x3_ h fun x25 =>
 CvH Pg x7_ #[x24, x25] h fun x27 h26 =>
 Fv 1 x2_ h26 fun x29 =>
 LenP (some true) x27 fun x30 =>
 BiP .sub x29 x30 fun x31 =>
 VH Pg (Builtin.append_ #[t_S_uint8, t_int] t_S_uint8 #[x27, x31]) h26 fun x33 h32 =>
 K (.tuple #[x33, (.int .i64 0)]) h32
def m_code_Encode (x0_ x1_ : Value) (h : Heap) (K : Kt) : Prop :=
 BxP t_api_Config x0_ h fun x2 h1 =>
 BxP t_api_Node x1_ h1 fun x4 h3 =>
 LdA 8 x2 h3 fun x5 =>
 Ca f_conf_Check #[x5] h3 fun x7 h6 =>
 BiP .neq x7 (.int .i64 0) fun x8 =>
 CdP x8
 (K (.tuple #[(.slice none 0 0), x7]) h6)
 (∃ X11 : XS,
 LaX X11 8 x2 h6 fun x12 =>
 LaX X11 5 x4 h6 fun x13 =>
 Ca f_lex_All #[] h6 fun x15 h14 =>
 Agr X11 h6 h14 ∧ (Ca f_node_Right #[x12, x15, x13] h14 fun x17 h16 =>
 True ∧ (UnP .not x17 fun x18 =>
 CdP x18
 (K (.tuple #[(.slice none 0 0), (.int .i64 3)]) h16)
 (Fv 0 x4 h16 fun x21 =>
 BiP .gtr x21 (.int .i64 0) fun x22 =>
 CdP x22
 (m_code_Encode_j23 x2 x4 (.func (.func f_code_writeInner) #[] #[]) h16 K)
 (m_code_Encode_j23 x2 x4 (.func (.func f_code_writeOuter) #[] #[]) h16 K)))))
theorem m_code_Encode_ok {x0_ x1_ : Value} {h : Heap} {K : Kt} (hh : m_code_Encode x0_ x1_ h K) : Ca f_code_Encode #[x0_, x1_] h K := cv Tryz.func216 (by kernel_rfl) hh
def m_code_readOuter_j33 (x6_ x7_ : Value) (h : Heap) (K : Kt) : Prop :=
 LdA 5 x7_ h fun x34 =>
 StA 5 x6_ x34 h fun h35 =>
 LdA 5 x6_ h35 fun x36 =>
 K x36 h35
def m_code_readOuter_l14 (vs : List Value) (x1_ x3_ x6_ x7_ x14_ : Value) (h : Heap) (nx15 : Nt) (K : Kt) : Prop :=
 BiP .lss (gv vs 0) x14_ fun x16 =>
 CdP x16
 (LdA 8 x3_ h fun x18 =>
 Ca f_code_readPair #[x18, x1_] h fun x20 h19 =>
 ExP x20 0 fun x21 =>
 ExP x20 1 fun x22 =>
 Fv 4 x7_ h19 fun x24 =>
 BlP bt_api_Pair [(0, x21), (1, x22)] fun x25 =>
 BsP st_S_api_Pair 1 [(0, x25)] h19 fun x27 h26 =>
 VH Pg (Builtin.append_ #[t_S_api_Pair, t_S_api_Pair] t_S_api_Pair #[x24, x27]) h26 fun x29 h28 =>
 FaP (some 4) x7_ fun x30 =>
 StP x30 x29 h28 fun h31 =>
 BiP .add (gv vs 0) (.int .i64 1) fun x32 =>
 nx15 [x32] h31)
 (m_code_readOuter_j33 x6_ x7_ h K)
def m_code_readOuter (x0_ x1_ x2_ : Value) (h : Heap) (K : Kt) : Prop :=
 BxP t_api_Config x0_ h fun x2 h1 =>
 AlP t_api_Node zt_api_Node h1 fun x4 h3 =>
 BlP bt_api_Node [] fun x5 =>
 AlP t_api_Node zt_api_Node h3 fun x7 h6 =>
 StA 5 x7 x5 h6 fun h8 =>
 Fv 5 x2 h8 fun x11 =>
 VH Pg (Builtin.min_ #[t_int, t_int] t_int #[x2_, x11]) h8 fun x13 h12 =>
 LoP (fun vt h nx15 => m_code_readOuter_l14 vt x1_ x2 x4 x7 x13 h nx15 K) [(.int .i64 0)] h12
theorem m_code_readOuter_ok {x0_ x1_ x2_ : Value} {h : Heap} {K : Kt} (hh : m_code_readOuter x0_ x1_ x2_ h K) : Ca f_code_readOuter #[x0_, x1_, x2_] h K := cv Tryz.func249 (by kernel_rfl) hh
def m_node_Right (x0_ x1_ x2_ : Value) (h : Heap) (K : Kt) : Prop :=
 BxP t_api_Config x0_ h fun x2 h1 =>
 BxP t_api_Span x1_ h1 fun x4 h3 =>
 BxP t_api_Node x2_ h3 fun x6 h5 =>
 Fv 0 x6 h5 fun x9 =>
 BiP .lss x9 (.int .i64 0) fun x10 =>
 CdP x10
 (K (.bool false) h5)
 (Fv 0 x6 h5 fun x12 =>
 BiP .eql x12 (.int .i64 0) fun x13 =>
 CdP x13
 (LdA 8 x2 h5 fun x14 =>
 LdA 3 x4 h5 fun x15 =>
 LdA 5 x6 h5 fun x16 =>
 Ca f_node_outer #[x14, x15, x16] h5 fun x18 h17 =>
 K x18 h17)
 (LdA 8 x2 h5 fun x19 =>
 LdA 3 x4 h5 fun x20 =>
 LdA 5 x6 h5 fun x21 =>
 Ca f_node_inner #[x19, x20, x21] h5 fun x23 h22 =>
 K x23 h22))
theorem m_node_Right_ok {x0_ x1_ x2_ : Value} {h : Heap} {K : Kt} (hh : m_node_Right x0_ x1_ x2_ h K) : Ca f_node_Right #[x0_, x1_, x2_] h K := cv Tryz.func255 (by kernel_rfl) hh
def m_code_writeOuter_j31 (x5_ : Value) (h : Heap) (K : Kt) : Prop :=
 K x5_ h
def m_code_writeOuter_l14 (vs : List Value) (x2_ x13_ x14_ : Value) (h : Heap) (nx15 : Nt) (K : Kt) : Prop :=
 BiP .lss (gv vs 1) x14_ fun x16 =>
 CdP x16
 (Ea 2 x13_ (gv vs 1) h fun x19 =>
 AlP t_api_Pair zt_api_Pair h fun x21 h20 =>
 StA 2 x21 x19 h20 fun h22 =>
 LdA 8 x2_ h22 fun x23 =>
 Fv 0 x21 h22 fun x25 =>
 Fv 1 x21 h22 fun x27 =>
 Ca f_code_pair #[x23, (gv vs 0), x25, x27] h22 fun x29 h28 =>
 BiP .add (gv vs 1) (.int .i64 1) fun x30 =>
 nx15 [x29, x30] h28)
 (m_code_writeOuter_j31 (gv vs 0) h K)
def m_code_writeOuter (x0_ x1_ : Value) (h : Heap) (K : Kt) : Prop :=
 BxP t_api_Config x0_ h fun x2 h1 =>
 BxP t_api_Node x1_ h1 fun x4 h3 =>
 Fv 4 x4 h3 fun x6 =>
 LenP (some true) x6 fun x7 =>
 Ca f_code_front #[(.int .i64 1), (.int .i64 0), x7, (.int .i64 0)] h3 fun x9 h8 =>
 Fv 4 x4 h8 fun x12 =>
 LenP (some true) x12 fun x13 =>
 LoP (fun vt h nx15 => m_code_writeOuter_l14 vt x2 x12 x13 h nx15 K) [x9, (.int .i64 0)] h8
theorem m_code_writeOuter_ok {x0_ x1_ : Value} {h : Heap} {K : Kt} (hh : m_code_writeOuter x0_ x1_ h K) : Ca f_code_writeOuter #[x0_, x1_] h K := cv Tryz.func257 (by kernel_rfl) hh
def m_code_readPair (x0_ x1_ : Value) (h : Heap) (K : Kt) : Prop :=
 BxP t_api_Config x0_ h fun x2 h1 =>
 Ca f_word_Reader_Num #[x1_, (.int .i64 1)] h1 fun x4 h3 =>
 CvP .i64 x4 fun x5 =>
 Ca f_word_Reader_Num #[x1_, (.int .i64 2)] h3 fun x7 h6 =>
 CvP .i64 x7 fun x8 =>
 ∃ X10 : XS,
 FaP (some 6) x2 fun x11 =>
 LdX X10 x11 h6 fun x12 =>
 FaP (some 7) x2 fun x13 =>
 LdX X10 x13 h6 fun x14 =>
 Ca f_word_Reader_Text #[x1_, x5, x12] h6 fun x16 h15 =>
 Agr X10 h6 h15 ∧ (Ca f_word_Reader_Text #[x1_, x8, x14] h15 fun x18 h17 =>
 True ∧ (K (.tuple #[x16, x18]) h17))
theorem m_code_readPair_ok {x0_ x1_ : Value} {h : Heap} {K : Kt} (hh : m_code_readPair x0_ x1_ h K) : Ca f_code_readPair #[x0_, x1_] h K := cv Tryz.func282 (by kernel_rfl) hh
def m_node_outer_j38 (x3_ x4_ x5_ : Value) (h : Heap) (K : Kt) : Prop :=
 Fv 4 x5_ h fun x40 =>
 Ca f_slices_ContainsFunc_api_Pair #[x40, (.func (.func f_node_outer_1) #[] #[x3_, x4_])] h fun x42 h41 =>
 UnP .not x42 fun x43 =>
 K x43 h41
def m_node_outer_j37 (x3_ x4_ x5_ x32_ : Value) (h : Heap) (K : Kt) : Prop :=
 CdP x32_
 (K (.bool false) h)
 (m_node_outer_j38 x3_ x4_ x5_ h K)
def m_node_outer (x0_ x1_ x2_ : Value) (h : Heap) (K : Kt) : Prop :=
 BxP t_api_Config x0_ h fun x2 h1 =>
 BxP t_api_Span x1_ h1 fun x4 h3 =>
 BxP t_api_Node x2_ h3 fun x6 h5 =>
 Fv 1 x6 h5 fun x10 =>
 LenP (some true) x10 fun x11 =>
 Fv 2 x6 h5 fun x13 =>
 LenP (some true) x13 fun x14 =>
 BiP .add x11 x14 fun x15 =>
 Fv 3 x6 h5 fun x17 =>
 LenP (some true) x17 fun x18 =>
 BiP .add x15 x18 fun x19 =>
 BiP .gtr x19 (.int .i64 0) fun x20 =>
 CdP x20
 (m_node_outer_j37 x2 x4 x6 (.bool true) h5 K)
 (Fv 4 x6 h5 fun x24 =>
 LenP (some true) x24 fun x25 =>
 Fv 5 x2 h5 fun x27 =>
 BiP .gtr x25 x27 fun x28 =>
 CdP x28
 (m_node_outer_j37 x2 x4 x6 (.bool true) h5 K)
 (Fv 4 x6 h5 fun x32 =>
 Ca f_leaf_Right #[x32] h5 fun x34 h33 =>
 UnP .not x34 fun x35 =>
 m_node_outer_j37 x2 x4 x6 x35 h33 K))
theorem m_node_outer_ok {x0_ x1_ x2_ : Value} {h : Heap} {K : Kt} (hh : m_node_outer x0_ x1_ x2_ h K) : Ca f_node_outer #[x0_, x1_, x2_] h K := cv Tryz.func285 (by kernel_rfl) hh
def m_code_front (x0_ x1_ x2_ x3_ : Value) (h : Heap) (K : Kt) : Prop :=
 CvP .u64 x0_ fun x1 =>
 Ca f_code_num #[(.slice none 0 0), (.int .i64 1), x1] h fun x3 h2 =>
 CvP .u64 x1_ fun x4 =>
 Ca f_code_num #[x3, (.int .i64 1), x4] h2 fun x6 h5 =>
 CvP .u64 x2_ fun x7 =>
 Ca f_code_num #[x6, (.int .i64 2), x7] h5 fun x9 h8 =>
 CvP .u64 x3_ fun x10 =>
 Ca f_code_num #[x9, (.int .i64 2), x10] h8 fun x12 h11 =>
 Ca f_code_num #[x12, (.int .i64 2), (.int .u64 0)] h11 fun x14 h13 =>
 K x14 h13
theorem m_code_front_ok {x0_ x1_ x2_ x3_ : Value} {h : Heap} {K : Kt} (hh : m_code_front x0_ x1_ x2_ x3_ h K) : Ca f_code_front #[x0_, x1_, x2_, x3_] h K := cv Tryz.func287 (by kernel_rfl) hh
def m_code_pair (x0_ x1_ x2_ x3_ : Value) (h : Heap) (K : Kt) : Prop :=
 BxP t_api_Config x0_ h fun x2 h1 =>
 LenP (some false) x2_ fun x3 =>
 CvP .u64 x3 fun x4 =>
 Ca f_code_num #[x1_, (.int .i64 1), x4] h1 fun x6 h5 =>
 LenP (some false) x3_ fun x7 =>
 CvP .u64 x7 fun x8 =>
 Ca f_code_num #[x6, (.int .i64 2), x8] h5 fun x10 h9 =>
 ∃ X12 : XS,
 FaP (some 6) x2 fun x13 =>
 LdX X12 x13 h9 fun x14 =>
 FaP (some 7) x2 fun x15 =>
 LdX X12 x15 h9 fun x16 =>
 Ca f_code_text #[x10, x2_, x14] h9 fun x18 h17 =>
 Agr X12 h9 h17 ∧ (Ca f_code_text #[x18, x3_, x16] h17 fun x20 h19 =>
 True ∧ (K x20 h19))
theorem m_code_pair_ok {x0_ x1_ x2_ x3_ : Value} {h : Heap} {K : Kt} (hh : m_code_pair x0_ x1_ x2_ x3_ h K) : Ca f_code_pair #[x0_, x1_, x2_, x3_] h K := cv Tryz.func288 (by kernel_rfl) hh
def m_code_num (x0_ x1_ x2_ : Value) (h : Heap) (K : Kt) : Prop :=
 Ca f_word_Put #[(.slice none 0 0), x1_, x2_] h fun x2 h1 =>
 VH Pg (Builtin.append_ #[t_S_uint8, t_S_uint8] t_S_uint8 #[x0_, x2]) h1 fun x4 h3 =>
 K x4 h3
theorem m_code_num_ok {x0_ x1_ x2_ : Value} {h : Heap} {K : Kt} (hh : m_code_num x0_ x1_ x2_ h K) : Ca f_code_num #[x0_, x1_, x2_] h K := cv Tryz.func289 (by kernel_rfl) hh
def m_code_text (x0_ x1_ x2_ : Value) (h : Heap) (K : Kt) : Prop :=
 VH Pg (Builtin.append_ #[t_S_uint8, t_string] t_S_uint8 #[x0_, x1_]) h fun x2 h1 =>
 LenP (some false) x1_ fun x3 =>
 BiP .sub x2_ x3 fun x4 =>
 VH Pg (Builtin.append_ #[t_S_uint8, t_int] t_S_uint8 #[x2, x4]) h1 fun x6 h5 =>
 K x6 h5
theorem m_code_text_ok {x0_ x1_ x2_ : Value} {h : Heap} {K : Kt} (hh : m_code_text x0_ x1_ x2_ h K) : Ca f_code_text #[x0_, x1_, x2_] h K := cv Tryz.func290 (by kernel_rfl) hh
def m_node_Clone (x0_ : Value) (h : Heap) (K : Kt) : Prop :=
 BxP t_api_Node x0_ h fun x2 h1 =>
 AlP t_api_Node zt_api_Node h1 fun x4 h3 =>
 ∃ X6 : XS,
 FaP (some 0) x2 fun x7 =>
 LdX X6 x7 h3 fun x8 =>
 FaP (some 1) x2 fun x9 =>
 LdX X6 x9 h3 fun x10 =>
 FaP (some 2) x2 fun x11 =>
 LdX X6 x11 h3 fun x12 =>
 FaP (some 3) x2 fun x13 =>
 LdX X6 x13 h3 fun x14 =>
 FaP (some 4) x2 fun x15 =>
 LdX X6 x15 h3 fun x16 =>
 Ca f_slices_Clone_uint32 #[x10] h3 fun x18 h17 =>
 Agr X6 h3 h17 ∧ (Ca f_slices_Clone_string #[x12] h17 fun x20 h19 =>
 Agr X6 h3 h19 ∧ (Ca f_slices_Clone_api_Msg #[x14] h19 fun x22 h21 =>
 Agr X6 h3 h21 ∧ (Ca f_slices_Clone_api_Pair #[x16] h21 fun x24 h23 =>
 Agr X6 h3 h23 ∧ (BlP bt_api_Node [(0, x8), (1, x18), (2, x20), (3, x22), (4, x24)] fun x25 =>
 StA 5 x4 x25 h23 fun h26 =>
 True ∧ (LdA 5 x4 h26 fun x27 =>
 K x27 h26)))))
theorem m_node_Clone_ok {x0_ : Value} {h : Heap} {K : Kt} (hh : m_node_Clone x0_ h K) : Ca f_node_Clone #[x0_] h K := cv Tryz.func299 (by kernel_rfl) hh
def m_node_outer_1_j27 (x4_ : Value) (h : Heap) (K : Kt) : Prop :=
 K x4_ h
def m_node_outer_1 (x0_ x1_ x2_ : Value) (h : Heap) (K : Kt) : Prop :=
 BxP t_api_Pair x0_ h fun x2 h1 =>
 LdA 8 x1_ h1 fun x4 =>
 Fv 0 x2 h1 fun x6 =>
 Ca f_node_Key #[x4, x6] h1 fun x8 h7 =>
 UnP .not x8 fun x9 =>
 CdP x9
 (m_node_outer_1_j27 (.bool true) h7 K)
 (LdA 3 x2_ h7 fun x12 =>
 Fv 0 x2 h7 fun x14 =>
 Ca f_lex_In #[x12, x14] h7 fun x16 h15 =>
 UnP .not x16 fun x17 =>
 CdP x17
 (m_node_outer_1_j27 (.bool true) h15 K)
 (Fv 1 x2 h15 fun x21 =>
 LenP (some false) x21 fun x22 =>
 Fv 7 x1_ h15 fun x24 =>
 BiP .gtr x22 x24 fun x25 =>
 m_node_outer_1_j27 x25 h15 K))
theorem m_node_outer_1_ok {x0_ x1_ x2_ : Value} {h : Heap} {K : Kt} (hh : m_node_outer_1 x0_ x1_ x2_ h K) : Ca f_node_outer_1 #[x0_, x1_, x2_] h K := cv Tryz.func315 (by kernel_rfl) hh
end Go.Sg
namespace Go.Sg
open Go Vc
theorem cvh {f : FuncId} {args : Array Value} {h : Heap} {K : Kt} (hb : hasBody Pg f = true) (r : Ca f args h K) : CvH Pg (.func (.func f) #[] #[]) args h K :=
  ⟨f, #[], rfl, hb, by rw [Array.append_empty]; exact r⟩
section
variable {h : Heap} {K : Kt} {U : Nat → Prop}
theorem cmp_leaf (k : Str) : Cmp (.func (.func f_leaf_compare) #[] #[]) Pair.v Pair.key k := by
  intro a h R r
  refine cvh (by kernel_rfl) (m_leaf_compare_ok ?_)
  refine bxa fun b h1 e1 hb k1 _ => ?_
  refine fv (by rw [k1.get]; rfl) ?_
  exact c_lex_Compare (r h1 e1)
theorem parts_key {α : Type} {key : α → Str} {l : List α} (ha : Asc key l) (k : Str) : Parts l (fun a => cmp (key a) k) (pos key l k) :=
  ⟨pos_le, (parts_asc ha).1, (parts_asc ha).2⟩
theorem hit_key {α : Type} {key : α → Str} {l : List α} (ha : Asc key l) (k : Str) : hit l (fun a => cmp (key a) k) (pos key l k) = has key l k := by
  unfold hit
  cases hk : has key l k with
  | true => obtain ⟨a, h1, h2, _⟩ := get_hit ha hk; rw [h1]; simp [cmp_eq, h2]
  | false =>
    cases hg : l[pos key l k]? with
    | none => rfl
    | some a =>
      have := has_ne hk a (List.mem_of_getElem? hg)
      simp [cmp_eq, this]
theorem c_find_Pair {x : Value} {l : List Pair} {k : Str} (s : Sl U h x l) (ha : Asc Pair.key l) (hl : l.length ≤ 2 ^ 40) (r : ∀ h', Ext h h' → K (.tuple #[int (pos Pair.key l k), .bool (has Pair.key l k)]) h') :
    Ca f_slices_BinarySearchFunc_api_Pair #[x, str k, .func (.func f_leaf_compare) #[] #[]] h K :=
  c_BinarySearchFunc_Pair (cmp_leaf k) s hl (parts_key ha k) fun h' e => by rw [hit_key ha]; exact r h' e
def applyP (l : List Pair) (m : Msg) : List Pair := ins Pair.key l m.key (if m.del then [] else [⟨m.key, m.val⟩])
theorem applyP_asc {l : List Pair} (h : Asc Pair.key l) (m : Msg) : Asc Pair.key (applyP l m) := by
  unfold applyP; refine ins_asc h ?_; split
  · exact .inl rfl
  · exact .inr ⟨_, rfl, rfl⟩
theorem applyP_len {l : List Pair} (m : Msg) : (applyP l m).length ≤ l.length + 1 := by
  have h1 : (ahead Pair.key l m.key).length + (behind Pair.key l m.key).length ≤ l.length := by
    unfold ahead behind
    induction l with
    | nil => simp
    | cons a l ih =>
      simp only [List.filter_cons]
      by_cases q1 : a.key < m.key
      · have q2 : ¬ m.key < a.key := slt_asymm q1
        simp only [q1, q2, decide_true, decide_false, if_true, Bool.false_eq_true, if_false, List.length_cons]; omega
      · simp only [q1, decide_false, Bool.false_eq_true, if_false]
        split <;> simp only [List.length_cons] <;> omega
  unfold applyP ins
  simp only [List.length_append]
  split <;> simp <;> omega
theorem foldl_len (ms : List Msg) (l : List Pair) : (ms.foldl applyP l).length ≤ l.length + ms.length := by
  induction ms generalizing l with
  | nil => simp
  | cons m ms ih => simp only [List.foldl_cons, List.length_cons]; have := ih (applyP l m); have := applyP_len (l := l) m; omega
theorem c_leaf_Apply {x y : Value} {l : List Pair} {ms : List Msg} (s : Sl U h x l) (sm : Sl U h y ms) (ha : Asc Pair.key l) (hl : l.length + ms.length < 2 ^ 40)
    (r : ∀ v' h', Ow h.size t_api_Pair h' v' (ms.foldl applyP l) → Ext h h' → K v' h') : Ca f_leaf_Apply #[x, y] h K := by
  refine m_leaf_Apply_ok (c_Clone_Pair s (by omega) fun v1 h1 o1 e1 => ?_)
  refine sm.len ?_
  refine lop (σ := Value × Nat) (fun p => [p.1, int p.2]) (fun p h' => Ext h h' ∧ p.2 ≤ ms.length ∧ Ow h.size t_api_Pair h' p.1 ((ms.take p.2).foldl applyP l)) (fun p => ms.length - p.2) (v1, 0) rfl ⟨e1, Nat.zero_le _, by simpa using o1⟩ ?_
  rintro ⟨v, i⟩ h2 N ⟨e2, hi, o2⟩ hN
  simp only at hi o2
  simp only [m_leaf_Apply_l5, gv_zero, gv_succ]
  rw [BiP_lss]
  refine cdp (fun hlt => ?_) (fun hge => ?_)
  · have hi : i < ms.length := by omega
    have sm2 := sm.ext e2
    have hcur : ms[i]? = some ms[i] := List.getElem?_eq_getElem hi
    refine sm2.ea (by omega) (by rw [Int.toNat_natCast]; exact hcur) ?_
    have htk : (ms.take (i + 1)).foldl applyP l = applyP ((ms.take i).foldl applyP l) ms[i] := by
      rw [List.take_add_one, hcur, List.foldl_append]; rfl
    generalize ms[i] = m at *
    have hlen := foldl_len (ms.take i) l
    have hasc : Asc Pair.key ((ms.take i).foldl applyP l) := by
      have : ∀ (q : List Msg) (l : List Pair), Asc Pair.key l → Asc Pair.key (q.foldl applyP l) := by
        intro q; induction q with
        | nil => intro l h; exact h
        | cons m q ih => intro l h; exact ih _ (applyP_asc h m)
      exact this _ _ ha
    rw [List.length_take] at hlen
    generalize hL : (ms.take i).foldl applyP l = L at *
    refine alst (vs := [str m.key, .bool m.del, str m.val]) rfl rfl rfl fun bm h3 e3 hbm k3 s3 => ?_
    refine fv (by rw [k3.get]; rfl) ?_
    have o3 := o2.ext e3
    have e3' : Ext h h3 := e2.trans e3
    refine c_find_Pair (o3.sl (U := No) fun _ _ h => h) hasc (by omega) fun h4 e4 => ?_
    rw [ex20, ex21]
    have k4 := k3.ext e4
    have o4 := o3.ext e4
    have e4' : Ext h h4 := e3'.trans e4
    have hbl : h2.size ≤ bm := by omega
    have next : ∀ v' h', Ow h.size t_api_Pair h' v' (applyP L m) → Ext h h' → m_leaf_Apply_j46 v' y (int ms.length) (int i) h' N K := by
      intro v' h' o' e'
      unfold m_leaf_Apply_j46
      refine add64 (by omega) ?_
      exact hN (v', i + 1) h' ⟨e', by omega, by rw [htk]; exact o'⟩ (by simp only; omega)
    have hpl : pos Pair.key L m.key ≤ L.length := pos_le
    have hit : has Pair.key L m.key = true → m_leaf_Apply_j25 v (ptr bm 0) (int (pos Pair.key L m.key)) (.bool true) y (int ms.length) (int i) (.bool m.del) h4 N K := by
      intro hk
      obtain ⟨a, g1, g2, g3⟩ := get_hit hasc hk
      have hpl : pos Pair.key L m.key < L.length := (List.getElem?_eq_some_iff.1 g1).1
      unfold m_leaf_Apply_j25
      refine cd (fun hd => ?_) (fun hd => ?_)
      · refine add64 (by omega) ?_
        have := c_Delete_Pair (K := fun x28 h27 => m_leaf_Apply_j46 x28 y (int ms.length) (int i) h27 N K) o4 (by omega) hpl fun v' h' o' e' => next v' h' (by
          rw [drop_hit hasc hk, take_pos hasc] at o'
          unfold applyP ins; rw [hd]; simpa using o') (e4'.own e' (Nat.le_refl _))
        exact this
      · rw [CdP_true]
        refine fv (by rw [k4.get]; rfl) ?_
        refine ow_setf (a' := (⟨m.key, m.val⟩ : Pair)) rfl o4 g1 (by decide) (by rw [← g2]; rfl) rfl fun h5 o5 e5 => ?_
        refine next _ _ ?_ (e4'.own e5 (Nat.le_refl _))
        have hd : m.del = false := hd
        have : L.set (pos Pair.key L m.key) ⟨m.key, m.val⟩ = applyP L m := by
          rw [List.set_eq_take_append_cons_drop, if_pos hpl, take_pos hasc, drop_hit hasc hk]
          unfold applyP ins; rw [hd]; simp
        rwa [this] at o5
    have miss : has Pair.key L m.key = false → m_leaf_Apply_j25 v (ptr bm 0) (int (pos Pair.key L m.key)) (.bool false) y (int ms.length) (int i) (.bool false) h4 N K := by
      intro hk
      unfold m_leaf_Apply_j25
      rw [CdP_false, CdP_false]
      refine fv (by rw [k4.get]; rfl) ?_
      rw [UnP_not]
      refine cd (fun hd => ?_) (fun hd => ?_)
      · have hd : m.del = false := by simpa using hd
        refine fv (by rw [k4.get]; rfl) (fv (by rw [k4.get]; rfl) ?_)
        refine ⟨_, _, rfl, rfl, ?_⟩
        refine bs (n0 := h4.size) (e := t_api_Pair) [(⟨m.key, m.val⟩ : Pair)] rfl (Nat.le_refl _) rfl (by decide) (by kernel_rfl) rfl fun v5 h5 o5 e5 => ?_
        refine c_Insert_Pair (a := ⟨m.key, m.val⟩) (o4.ext e5) o5 (fun b hb => ?_) hpl (Nat.le_trans e4'.le e5.le) (by omega) fun v6 h6 o6 e6 => ?_
        · rcases o4.cases' with ⟨rfl, _⟩ | ⟨g, cap, rfl, hg, ow⟩
          · simp [Value.ownBlock] at hb
          · have := ow.lt; simp [Value.ownBlock] at hb; omega
        · refine next _ _ ?_ ((e4'.trans e5).own e6 (Nat.le_refl _))
          rw [take_pos hasc, drop_miss hasc hk] at o6
          unfold applyP ins; rw [hd]; exact o6
      · have hd : m.del = true := by simpa using hd
        refine next _ _ ?_ e4'
        unfold applyP; rw [hd]; simp only [if_true]
        rw [ins_miss hasc hk]; exact o4
    refine cd (fun hk => ?_) (fun hk => ?_)
    · refine fv (by rw [k4.get]; rfl) ?_
      rw [hk]; exact hit hk
    · rw [hk]; exact miss hk
  · have : i = ms.length := by omega
    subst this
    rw [List.take_length] at o2
    exact r _ _ o2 e2
end
end Go.Sg
namespace Go.Sg
open Go Vc
section
variable {h : Heap} {K : Kt} {U : Nat → Prop} {ts : Array TypeId} {t : TypeId}
theorem min_int {k} {a b : Int} (r : K (.int k (min a b)) h) : VH Pg (Builtin.min_ ts t #[.int k a, .int k b]) h K := by
  refine vh_pure (fun w _ => ?_) r
  by_cases hab : b < a
  · have : min a b = b := by omega
    simp [Builtin.min_, Builtin.min2, hab, this]
  · have : min a b = a := by omega
    simp [Builtin.min_, Builtin.min2, hab, this]
theorem max_int {k} {a b : Int} (r : K (.int k (max a b)) h) : VH Pg (Builtin.max_ ts t #[.int k a, .int k b]) h K := by
  refine vh_pure (fun w _ => ?_) r
  by_cases hab : b > a
  · have : max a b = b := by omega
    simp [Builtin.max_, Builtin.max2, hab, this]
  · have : max a b = a := by omega
    simp [Builtin.max_, Builtin.max2, hab, this]
def rises {α : Type} (key : α → Str) : List α → Bool
  | a :: b :: l => decide (key a < key b) && rises key (b :: l)
  | _ => true
theorem rises_asc {α : Type} {key : α → Str} : ∀ {l : List α}, rises key l = true ↔ Asc key l
  | [] => by simp [rises, Asc]
  | [a] => by simp [rises, Asc]
  | a :: b :: l => by
    have ih := rises_asc (key := key) (l := b :: l)
    have hc : Asc key (a :: b :: l) ↔ (∀ c ∈ b :: l, key a < key c) ∧ Asc key (b :: l) := Asc.cons
    rw [rises, Bool.and_eq_true, ih, hc]
    constructor
    · rintro ⟨h1, h2⟩
      have h1 : key a < key b := of_decide_eq_true h1
      refine ⟨fun c hc => ?_, h2⟩
      rcases List.mem_cons.1 hc with rfl | hc
      · exact h1
      · exact slt_trans h1 ((Asc.cons.1 h2).1 c hc)
    · rintro ⟨h1, h2⟩
      exact ⟨decide_eq_true (h1 b (by simp)), h2⟩
theorem rises_get {α : Type} {key : α → Str} {l : List α} : rises key l = true ↔ ∀ i a b, l[i]? = some a → l[i + 1]? = some b → key a < key b := by
  induction l with
  | nil => simp [rises]
  | cons a l ih =>
    cases l with
    | nil => simp [rises]
    | cons b l =>
      rw [rises, Bool.and_eq_true, ih]
      constructor
      · rintro ⟨h1, h2⟩ i x y hx hy
        cases i with
        | zero => simp at hx hy; subst hx hy; exact of_decide_eq_true h1
        | succ i => exact h2 i x y (by simpa using hx) (by simpa using hy)
      · intro h1
        exact ⟨decide_eq_true (h1 0 a b rfl rfl), fun i x y hx hy => h1 (i + 1) x y (by simpa using hx) (by simpa using hy)⟩
theorem right_gen {α : Type} [El α] {key : α → Str} {x : Value} {l : List α} {zz : Nat} (hzz : zz = El.z α) (hk : ∀ a, (El.enc a)[0]? = some (str (key a))) (s : Sl U h x l) (hl : l.length ≤ 2 ^ 40) (r : ∀ h', Ext h h' → K (.bool (rises key l)) h') :
    LenP (some true) x fun x2 => BiP .sub x2 (.int .i64 1) fun x3 =>
      LoP (fun vs h nx5 => BiP .lss (gv vs 1) x3 fun x6 => CdP x6
        (Ef zz 0 x (gv vs 1) h fun x10 => BiP .add (gv vs 1) (.int .i64 1) fun x11 => Ef zz 0 x x11 h fun x14 =>
          Ca f_lex_Compare #[x10, x14] h fun x16 h15 => True ∧ (BiP .geq x16 (.int .i64 0) fun x17 => CdP x17 (K (.bool false) h15)
            (BiP .add (gv vs 1) (.int .i64 1) fun x18 => nx5 [(gv vs 0), x18] h15)))
        (K (.bool true) h)) [(.bool false), (.int .i64 0)] h := by
  subst hzz
  refine s.len (sub64 (by omega) ?_)
  refine lop (σ := Nat) (fun i => [.bool false, int i]) (fun i h' => Ext h h' ∧ ∀ j a b, j < i → l[j]? = some a → l[j + 1]? = some b → key a < key b) (fun i => l.length - i) 0 rfl ⟨Ex.refl _ _, fun _ _ _ h => by omega⟩ ?_
  rintro i h1 N ⟨e1, hi⟩ hN
  simp only [gv_zero, gv_succ]
  rw [BiP_lss]
  refine cdp (fun hlt => ?_) (fun hge => ?_)
  · have q1 : i + 1 < l.length := by omega
    have g1 : l[i]? = some l[i] := List.getElem?_eq_getElem (by omega)
    have g2 : l[i + 1]? = some l[i + 1] := List.getElem?_eq_getElem q1
    refine (s.ext e1).ef (by omega) (by rw [Int.toNat_natCast]; exact g1) (hk _) ?_
    refine add64 (by omega) ?_
    refine (s.ext e1).ef (by omega) (by rw [show ((i : Int) + 1).toNat = i + 1 from by omega]; exact g2) (hk _) ?_
    refine c_lex_Compare ⟨trivial, ?_⟩
    rw [BiP_geq]
    refine cdp (fun hc => ?_) (fun hc => ?_)
    · have : rises key l = false := by
        cases hr : rises key l with
        | false => rfl
        | true => have := cmp_lt.2 (rises_get.1 hr i _ _ g1 g2); omega
      have r := r _ e1
      rwa [this] at r
    · refine add64 (by omega) ?_
      refine hN (i + 1) h1 ⟨e1, fun j a b hj ha hb => ?_⟩ (by omega)
      by_cases hji : j = i
      · subst hji
        rw [g1] at ha; rw [g2] at hb; cases ha; cases hb
        exact cmp_lt.1 (by omega)
      · exact hi j a b (by omega) ha hb
  · have : rises key l = true := rises_get.2 fun j a b ha hb => hi j a b (by have := (List.getElem?_eq_some_iff.1 hb).1; omega) ha hb
    have r := r _ e1
    rwa [this] at r
theorem c_leaf_Right {x : Value} {l : List Pair} (s : Sl U h x l) (hl : l.length ≤ 2 ^ 40) (r : ∀ h', Ext h h' → K (.bool (rises Pair.key l)) h') : Ca f_leaf_Right #[x] h K :=
  m_leaf_Right_ok (right_gen (key := Pair.key) rfl (fun _ => rfl) s hl r)
def inSpan (s : Span) (k : Str) : Bool := decide (¬ k < s.lo) && (s.top || decide (k < s.hi))
def partOf {α : Type} (key : α → Str) (l : List α) (s : Span) : List α := l.filter fun a => inSpan s (key a)
theorem drop_lo {α : Type} {key : α → Str} {l : List α} (ha : Asc key l) (lo : Str) : l.drop (pos key l lo) = l.filter fun a => decide (¬ key a < lo) := by
  rw [drop_pos ha]
  have h1 := (part_asc (k := lo) ha).1
  have z1 : (ahead key l lo).filter (fun a => decide (¬ key a < lo)) = [] := by
    rw [List.filter_eq_nil_iff]; intro a h; have := (List.mem_filter.1 h).2; simpa using this
  have z2 : (l.filter (fun a => decide (key a = lo))).filter (fun a => decide (¬ key a < lo)) = l.filter (fun a => decide (key a = lo)) := by
    rw [List.filter_eq_self]; intro a h; have := of_decide_eq_true (List.mem_filter.1 h).2; rw [this]; exact decide_eq_true (slt_irrefl _)
  have z3 : (behind key l lo).filter (fun a => decide (¬ key a < lo)) = behind key l lo := by
    rw [List.filter_eq_self]; intro a h; have := of_decide_eq_true (List.mem_filter.1 h).2; exact decide_eq_true (slt_asymm this)
  have h2 := congrArg (List.filter fun a => decide (¬ key a < lo)) h1
  rw [List.filter_append, List.filter_append, z1, z2, z3] at h2
  rw [h2]; rfl
theorem pos_mono {α : Type} {key : α → Str} {l : List α} {a b : Str} (hab : a < b) : pos key l a ≤ pos key l b := by
  unfold pos ahead
  induction l with
  | nil => simp
  | cons x l ih =>
    simp only [List.filter_cons]
    by_cases q : key x < a
    · have q2 := slt_trans q hab
      simp only [q, q2, decide_true, if_true, List.length_cons]; omega
    · simp only [q, decide_false, Bool.false_eq_true, if_false]
      split <;> (try simp only [List.length_cons]) <;> omega
theorem part_take_drop {α : Type} {key : α → Str} {l : List α} (ha : Asc key l) (s : Span) (he : s.empty = false) :
    (l.take (if s.top then l.length else pos key l s.hi)).drop (pos key l s.lo) = partOf key l s ∧ pos key l s.lo ≤ (if s.top then l.length else pos key l s.hi) := by
  obtain ⟨lo, hi, top⟩ := s
  cases top with
  | true =>
    refine ⟨?_, pos_le⟩
    show (l.take l.length).drop (pos key l lo) = _
    rw [List.take_length, drop_lo ha]
    unfold partOf inSpan
    simp
  | false =>
    have hlohi : lo < hi := by simpa [Span.empty] using he
    simp only [Bool.false_eq_true, if_false]
    refine ⟨?_, pos_mono hlohi⟩
    rw [take_pos ha]
    have hasc2 : Asc key (ahead key l hi) := ha.filter _
    have hp : pos key (ahead key l hi) lo = pos key l lo := by
      unfold pos ahead
      rw [List.filter_filter]
      congr 1
      apply List.filter_congr
      intro a _
      by_cases q : key a < lo
      · simp only [q, slt_trans q hlohi, decide_true, Bool.and_self]
      · simp only [q, decide_false, Bool.false_and]
    rw [← hp, drop_lo hasc2]
    unfold ahead partOf inSpan
    rw [List.filter_filter]
    apply List.filter_congr
    intro a _
    simp only [Bool.false_or]
def takeInt {α : Type} (l : List α) (n : Int) : List α := l.take n.toNat
theorem c_leaf_Part {x : Value} {l : List Pair} {s : Span} {most : Int} (sl : Sl U h x l) (ha : Asc Pair.key l) (hl : l.length ≤ 2 ^ 40)
    (r : ∀ v' h', Ow h.size t_api_Pair h' v' (if s.empty then [] else takeInt (partOf Pair.key l s) most) → Ext h h' → K v' h') : Ca f_leaf_Part #[x, s.v, int most] h K := by
  refine m_leaf_Part_ok ?_
  refine bxa (cs := s.cs) fun b h1 e1 hb k1 _ => ?_
  refine (LdA_b k1 rfl).2 ?_
  refine c_lex_Empty (s := s) fun h2 e2 => ?_
  have k2 := k1.ext e2
  have e12 := e1.trans e2
  have stop : (s.empty = true ∨ most < 1) → K (.slice none 0 0) h2 := by
    intro hs
    have := r (.slice none 0 0) h2
    have he : (if s.empty then [] else takeInt (partOf Pair.key l s) most) = ([] : List Pair) := by
      rcases hs with hs | hs
      · simp [hs]
      · have : most.toNat = 0 := by omega
        simp [takeInt, this]
    rw [he] at this
    exact this (Ow.nil _ _ _) e12
  refine cd (fun he => ?_) (fun he => ?_)
  · unfold m_leaf_Part_j11; rw [CdP_true]; exact stop (.inl he)
  · rw [BiP_lss]
    unfold m_leaf_Part_j11
    refine cdp (fun hm => stop (.inr hm)) (fun hm => ?_)
    unfold m_leaf_Part_j12
    refine fv (by rw [k2.get]; rfl) ?_
    refine c_find_Pair (sl.ext e12) ha hl fun h3 e3 => ?_
    rw [ex20, ex21]
    have e13 := e12.trans e3
    have k3 := k2.ext e3
    refine sl.len ?_
    refine fv (by rw [k3.get]; rfl) ?_
    rw [UnP_not]
    obtain ⟨p1, p2⟩ := part_take_drop (key := Pair.key) ha s he
    have hpl : pos Pair.key l s.lo ≤ l.length := pos_le
    have fin : ∀ (h4 : Heap) (j : Nat), Ext h h4 → j = (if s.top then l.length else pos Pair.key l s.hi) → j ≤ l.length → m_leaf_Part_j30 x (int most) (int (pos Pair.key l s.lo)) (int j) h4 K := by
      intro h4 j e4 hj hjl
      subst hj
      generalize hJ : (if s.top then l.length else pos Pair.key l s.hi) = j at *
      generalize hI : pos Pair.key l s.lo = i at *
      unfold m_leaf_Part_j30
      refine sl.len (min_int ?_)
      refine add64 (by omega) ?_
      refine min_int ?_
      have hz : (2 : Nat) = El.z Pair := rfl
      have hmi : min (j : Int) ((i : Int) + min most (l.length : Int)) = ((min j (i + most.toNat) : Nat) : Int) := by omega
      rw [hmi]
      refine (sl.ext e4).part (a := i) (b := min j (i + most.toNat)) bnd_nat bnd_nat (by omega) (by omega) fun v' s' => ?_
      refine c_Clone_Pair s' (by simp; omega) fun v5 h5 o5 e5 => ?_
      refine r v5 h5 ?_ (e4.trans e5)
      have : (l.take (min j (i + most.toNat))).drop i = takeInt (partOf Pair.key l s) most := by
        rw [← p1]
        unfold takeInt
        rw [List.take_drop, List.take_take]
        congr 2
        omega
      rw [he]
      simp only [Bool.false_eq_true, if_false]
      rw [← this]
      exact o5.low e4.le
    refine cd (fun ht => ?_) (fun ht => ?_)
    · have ht : s.top = false := by simpa using ht
      refine fv (by rw [k3.get]; rfl) ?_
      refine c_find_Pair (sl.ext e13) ha hl fun h4 e4 => ?_
      rw [ex20, ex21]
      exact fin h4 _ (e13.trans e4) (by simp [ht]) pos_le
    · have ht : s.top = true := by simpa using ht
      exact fin h3 _ e13 (by simp [ht]) (Nat.le_refl _)
end
end Go.Sg
namespace Go.Sg
open Go Vc
def Msg.cs (m : Msg) : List Value := [str m.key, .bool m.del, str m.val]
end Go.Sg
namespace Go.Sg
open Go Vc
section
variable {h : Heap} {K : Kt} {U : Nat → Prop}
theorem c_lex_In {s : Span} {k : Str} (r : ∀ h', Ext h h' → K (.bool (inSpan s k)) h') : Ca f_lex_In #[s.v, str k] h K := by
  obtain ⟨lo, hi, top⟩ := s
  refine m_lex_In_ok (bxa (cs := [str lo, str hi, .bool top]) fun b h1 e1 hb k1 _ => ?_)
  have r := r h1 e1
  unfold inSpan at r
  refine fv (by rw [k1.get]; rfl) ?_
  rw [BiP_sgeq]
  refine cdp (fun hlo => ?_) (fun hlo => ?_)
  · rw [decide_eq_true hlo] at r
    refine fv (by rw [k1.get]; rfl) ?_
    refine cd (fun ht => ?_) (fun ht => ?_)
    · subst ht; exact r
    · subst ht
      refine fv (by rw [k1.get]; rfl) ?_
      rw [BiP_slss]
      unfold m_lex_In_j17
      simpa using r
  · rw [decide_eq_false hlo] at r
    exact ⟨rfl, rfl, rfl, rfl, r⟩
end
end Go.Sg
namespace Go.Sg
open Go Vc
section
variable {h : Heap} {K : Kt} {U : Nat → Prop}
theorem isp {s : Str} {k} {i : Int} {b : UInt8} {R : Value → Prop} (h0 : 0 ≤ i) (hb : s[i.toNat]? = some b) (r : R (.int .u8 b.toNat)) : IsP (str s) (.int k i) R := by
  refine ⟨_, k, i, rfl, rfl, h0, b, ?_, r⟩
  obtain ⟨hl, hv⟩ := List.getElem?_eq_some_iff.1 hb
  have hl2 : i.toNat < (ByteArray.mk s.toArray).size := by simpa [ByteArray.size] using hl
  rw [getElem?_pos (ByteArray.mk s.toArray) i.toNat hl2]
  have : (ByteArray.mk s.toArray)[i.toNat] = s[i.toNat] := rfl
  rw [this, hv]
theorem c_lex_Next {s : Str} (hl : s.length < 2 ^ 40) (r : K (str (s ++ [0])) h) : Ca f_lex_Next #[str s] h K :=
  m_lex_Next_ok (sadd (b := [0]) (by simp; omega) r)
end
end Go.Sg
namespace Go.Sg
open Go Vc
section
variable {K : Value → Prop} {k : IntKind} {a b : Int}
theorem kadd (hw : k.wrap (a + b) = a + b) (r : K (.int k (a + b))) : BiP .add (.int k a) (.int k b) K := ⟨_, by simp [binVal]; rfl, by rw [hw]; exact r⟩
theorem krem (hb : b ≠ 0) (r : K (.int k (a.tmod b))) : BiP .rem (.int k a) (.int k b) K := ⟨_, by simp [binVal, hb], r⟩
theorem kquo (hb : b ≠ 0) (hw : k.wrap (a.tdiv b) = a.tdiv b) (r : K (.int k (a.tdiv b))) : BiP .quo (.int k a) (.int k b) K := ⟨_, by simp [binVal, hb]; rfl, by rw [hw]; exact r⟩
theorem wrap32 {n : Int} (h1 : 0 ≤ n) (h2 : n < 4294967296) : IntKind.wrap .u32 n = n := wrapU rfl h1 (by simpa [IntKind.bits] using h2)
end
def sumStep (p : Nat × Nat) (b : UInt8) : Nat × Nat := ((p.1 + b.toNat) % 65521, (p.2 + (p.1 + b.toNat) % 65521) % 65521)
def sumMore (s : Nat) (l : List UInt8) : Nat :=
  let p := l.foldl sumStep (s % 65536 % 65521, s / 65536 % 65521)
  p.2 * 65536 + p.1
theorem sum_fold_lt (l : List UInt8) : ∀ (p : Nat × Nat), p.1 < 65521 → p.2 < 65521 → (l.foldl sumStep p).1 < 65521 ∧ (l.foldl sumStep p).2 < 65521 := by
  induction l with
  | nil => intro p h1 h2; exact ⟨h1, h2⟩
  | cons b l ih => intro p _ _; exact ih _ (Nat.mod_lt _ (by decide)) (Nat.mod_lt _ (by decide))
theorem tmod_nat (a b : Nat) : ((a : Int)).tmod (b : Int) = ((a % b : Nat) : Int) := (Int.ofNat_tmod a b).symm
theorem tdiv_nat (a b : Nat) : ((a : Int)).tdiv (b : Int) = ((a / b : Nat) : Int) := (Int.ofNat_tdiv a b).symm
section
variable {h : Heap} {K : Kt} {U : Nat → Prop}
theorem shl_or {lo hi : Nat} {R : Value → Prop} (h1 : lo < 65536) (h2 : hi < 65536) (r : R (.int .u32 ((hi * 65536 + lo : Nat) : Int))) :
    BiP .shl (.int .u32 hi) (.int .u64 16) fun x20 => BiP .or x20 (.int .u32 lo) R := by
  have e1 : binVal .shl (.int .u32 (hi : Int)) (.int .u64 16) = some (.int .u32 ((hi * 65536 : Nat) : Int)) := by
    simp only [binVal]
    rw [if_neg (by decide)]
    have : (hi : Int) * 2 ^ (min (Int.toNat 16) (IntKind.bits .u32)) = ((hi * 65536 : Nat) : Int) := by
      have h3 : (2 : Int) ^ (min (Int.toNat 16) (IntKind.bits .u32)) = 65536 := by decide
      rw [h3]; omega
    rw [this, wrap32 (by omega) (by omega)]
  have e2 : binVal .or (.int .u32 ((hi * 65536 : Nat) : Int)) (.int .u32 (lo : Int)) = some (.int .u32 ((hi * 65536 + lo : Nat) : Int)) := by
    have h3 : ((BitVec.ofInt 32 ((hi * 65536 : Nat) : Int) ||| BitVec.ofInt 32 (lo : Int)).toNat : Int) = ((hi * 65536 + lo : Nat) : Int) := by
      rw [BitVec.ofInt_natCast, BitVec.ofInt_natCast, BitVec.toNat_or, BitVec.toNat_ofNat, BitVec.toNat_ofNat, Nat.mod_eq_of_lt (by omega), Nat.mod_eq_of_lt (by omega)]
      have := Nat.two_pow_add_eq_or_of_lt (i := 16) (b := lo) (by omega) hi
      rw [Nat.mul_comm hi 65536]
      exact congrArg Nat.cast this.symm
    simp only [binVal]
    rw [if_neg (by simp)]
    show some (Value.int .u32 (IntKind.wrap .u32 ((BitVec.ofInt 32 ((hi * 65536 : Nat) : Int) ||| BitVec.ofInt 32 (lo : Int)).toNat : Int))) = _
    rw [h3, wrap32 (by omega) (by omega)]
  rw [BiP_some e1, BiP_some e2]; exact r
theorem c_check_More {x : Value} {l : List UInt8} {s : Nat} (sl : Sl U h x l) (hs : s < 4294967296) (hl : l.length ≤ 2 ^ 40) (r : K (.int .u32 (sumMore s l)) h) : Ca f_check_More #[.int .u32 s, x] h K := by
  refine m_check_More_ok ?_
  unfold m_check_More
  refine krem (by decide) ?_
  have q1 : ((s : Int)).tmod 65536 = ((s % 65536 : Nat) : Int) := tmod_nat s 65536
  rw [q1]
  refine krem (by decide) ?_
  have q2 : (((s % 65536 : Nat) : Int)).tmod 65521 = ((s % 65536 % 65521 : Nat) : Int) := tmod_nat _ 65521
  rw [q2]
  have q3 : ((s : Int)).tdiv 65536 = ((s / 65536 : Nat) : Int) := tdiv_nat s 65536
  refine kquo (by decide) (by rw [q3, wrap32 (by omega) (by omega)]) ?_
  rw [q3]
  refine krem (by decide) ?_
  have q4 : (((s / 65536 : Nat) : Int)).tmod 65521 = ((s / 65536 % 65521 : Nat) : Int) := tmod_nat _ 65521
  rw [q4]
  refine sl.len ?_
  have b1 : s % 65536 % 65521 < 65521 := Nat.mod_lt _ (by decide)
  have b2 : s / 65536 % 65521 < 65521 := Nat.mod_lt _ (by decide)
  unfold sumMore at r
  generalize s % 65536 % 65521 = lo0 at *
  generalize s / 65536 % 65521 = hi0 at *
  refine lop (σ := Nat) (fun i => [.int .u32 ((l.take i).foldl sumStep (lo0, hi0)).1, .int .u32 ((l.take i).foldl sumStep (lo0, hi0)).2, int i]) (fun i h' => h' = h ∧ i ≤ l.length) (fun i => l.length - i) 0 (by simp) ⟨rfl, Nat.zero_le _⟩ ?_
  rintro i h1 N ⟨rfl, hi⟩ hN
  have hb := sum_fold_lt (l.take i) (lo0, hi0) b1 b2
  simp only [m_check_More_l7, gv_zero, gv_succ]
  rw [BiP_lss]
  refine cdp (fun hlt => ?_) (fun hge => ?_)
  · have g1 : l[i]? = some l[i] := List.getElem?_eq_getElem (by omega)
    have hnext : (l.take (i + 1)).foldl sumStep (lo0, hi0) = sumStep ((l.take i).foldl sumStep (lo0, hi0)) l[i] := by
      rw [List.take_add_one, g1, List.foldl_append]; rfl
    have hN := hN (i + 1) h1 ⟨rfl, by omega⟩ (by omega)
    rw [hnext] at hN
    generalize (l.take i).foldl sumStep (lo0, hi0) = p at *
    obtain ⟨lo, hi⟩ := p
    simp only at hb
    refine sl.ei (by omega) (by rw [Int.toNat_natCast]; exact g1) rfl ?_
    generalize l[i] = c at *
    have hc := c.toNat_lt
    rw [CvP_int, wrap32 (by omega) (by omega)]
    refine kadd (wrap32 (by omega) (by omega)) ?_
    rw [← Int.natCast_add]
    refine krem (by decide) ?_
    have q5 : (((lo + c.toNat : Nat) : Int)).tmod 65521 = (((lo + c.toNat) % 65521 : Nat) : Int) := tmod_nat _ 65521
    rw [q5]
    have b3 : (lo + c.toNat) % 65521 < 65521 := Nat.mod_lt _ (by decide)
    refine kadd (wrap32 (by omega) (by omega)) ?_
    rw [← Int.natCast_add]
    refine krem (by decide) ?_
    have q6 : (((hi + (lo + c.toNat) % 65521 : Nat) : Int)).tmod 65521 = (((hi + (lo + c.toNat) % 65521) % 65521 : Nat) : Int) := tmod_nat _ 65521
    rw [q6]
    refine add64 (by omega) ?_
    exact hN
  · have : i = l.length := by omega
    subst this
    rw [List.take_length] at *
    unfold m_check_More_j19
    exact shl_or (by omega) (by omega) r
end
end Go.Sg
namespace Go.Sg
open Go Vc
section
variable {α : Type} [El α] {t e : TypeId} {by' : Nat} {h : Heap} {K : Kt} {n0 : Nat}
theorem madeCells_rep {z : Value} {a : α} (hz : z.cells.toList = El.enc a) (n : Nat) : (madeCells z.cells (n * El.z α)).toList = cells (List.replicate n a) := by
  have hsz : z.cells.size = El.z α := by have := congrArg List.length hz; rw [El.len] at this; simpa using this
  rw [← zeroCells_rep hz n]
  unfold madeCells Builtin.zeroCells
  rw [hsz]
theorem mkn (T : SlT α t e by') {n : Nat} {kl kc} {z0 : α} (hz0 : ∀ i z, Pg.info? e = some i → i.zero = some z → z.cells.toList = El.enc z0) (hn : n0 ≤ h.size) (hl : n * El.z α ≤ 2 ^ 24) (hby : by' ≤ 64)
    (r : ∀ g h', g = h.size → Own g n e h' (List.replicate n z0) → Ext h h' → K (.slice (some ⟨g, 0, none⟩) n n) h') : VH Pg (Instr.makeSlice t (.int kl (n : Int)) (.int kc (n : Int))) h K := by
  obtain ⟨i, z, hi, hz, hs, hb, hzs⟩ := T.info
  intro w hw
  subst hw
  have hp := El.pos (α := α)
  have hn24 : n ≤ 2 ^ 24 := Nat.le_trans (Nat.le_mul_of_pos_right n hp) hl
  have hlb : by' * n ≤ 64 * 2 ^ 24 := Nat.mul_le_mul hby hn24
  obtain ⟨w', h1, h2, h3⟩ := run_makeSlice_full (P := Pg) w w.heap.size t e i z (El.z α) T.und hi hz hs kl kc n (by omega) (by rw [hb]; omega) (by simp only [maxLen]; omega) (Nat.le_refl _)
  rw [madeCells_rep (hz0 i z hi hz)] at h2
  have ow : Ow w.heap.size e w'.heap _ (List.replicate n z0) := Ow.of h2
  rcases ow.cases' with ⟨h, _⟩ | ⟨g, cap, hv, hg, ow⟩
  · cases h
  · simp only [List.length_replicate, Value.slice.injEq, Option.some.injEq, Addr.mk.injEq, true_and, and_true] at hv
    obtain ⟨rfl, rfl⟩ := hv
    exact ⟨_, w', h1, grown_kin h3, r _ _ rfl ow ⟨h3.size, fun b hb _ => h3.block b hb (by simp)⟩⟩
end
theorem z_byte : ∀ i z, Pg.info? t_uint8 = some i → i.zero = some z → z.cells.toList = El.enc (0 : UInt8) := by
  have h : (Pg.info? t_uint8).bind (fun i => i.zero.map fun z => z.cells.toList) = some [.int .u8 0] := by kernel_rfl
  intro i z hi hz
  rw [hi] at h
  simp only [Option.bind_some, hz, Option.map_some, Option.some.injEq] at h
  exact h
def Rd (rb : Nat) (h : Heap) (l : List UInt8) (er : Int) : Prop := ∃ v, Blk h rb [v, int er] ∧ Sl (fun b => rb ≤ b) h v l
abbrev only (rb : Nat) : Nat → Prop := fun b => b = rb
theorem Rd.ex {M : Nat → Prop} {rb : Nat} {h h' : Heap} {l : List UInt8} {er : Int} (r : Rd rb h l er) (e : Ex M h h') (hm : ∀ b, b ≤ rb → ¬ M b) : Rd rb h' l er := by
  obtain ⟨v, h1, h2⟩ := r
  refine ⟨v, h1.ex e (hm rb (Nat.le_refl _)), h2.ex e (fun b _ hb => ?_) (fun _ _ x => x)⟩
  exact Nat.le_of_lt (Nat.lt_of_not_le fun hq => hm b hq hb)
theorem Rd.ext {rb h h' l er} (r : Rd rb h l er) (e : Ext h h') : Rd rb h' l er := by
  obtain ⟨v, h1, h2⟩ := r; exact ⟨v, h1.ext e, h2.ext e⟩
section
variable {h : Heap} {K : Kt} {U : Nat → Prop} {rb : Nat} {l : List UInt8} {er : Int}
theorem c_word_right {n : Int} (r : K (.bool (decide (n = 1 ∨ n = 2 ∨ n = 4 ∨ n = 8))) h) : Ca f_word_right #[int n] h K := by
  refine m_word_right_ok ?_
  unfold m_word_right
  rw [BiP_eql]
  refine cdp (fun h1 => ?_) (fun h1 => ?_)
  · rw [decide_eq_true (.inl h1)] at r; exact r
  · rw [BiP_eql]
    refine cdp (fun h2 => ?_) (fun h2 => ?_)
    · rw [decide_eq_true (.inr (.inl h2))] at r; exact r
    · rw [BiP_eql]
      refine cdp (fun h3 => ?_) (fun h3 => ?_)
      · rw [decide_eq_true (.inr (.inr (.inl h3)))] at r; exact r
      · rw [BiP_eql]
        have : decide (n = 1 ∨ n = 2 ∨ n = 4 ∨ n = 8) = decide (n = 8) := by simp [h1, h2, h3]
        rw [this] at r; exact r
theorem c_word_Open {x : Value} (s : Sl U h x l) (hl : l.length ≤ 2 ^ 40) (r : ∀ rb h', rb ≥ h.size → Rd rb h' l 0 → Ext h h' → K (ptr rb 0) h') : Ca f_word_Open #[x] h K := by
  refine m_word_Open_ok (c_Clone_byte s hl fun v1 h1 o1 e1 => ?_)
  have hv : ∃ cs, v1.cells = #[v1] ∧ cs = #[v1] := by
    rcases o1.cases' with ⟨rfl, _⟩ | ⟨g, cap, rfl, _⟩ <;> exact ⟨_, rfl, rfl⟩
  obtain ⟨_, hv, _⟩ := hv
  refine ⟨_, #[v1, int 0], rfl, ?_, ?_⟩
  · rcases o1.cases' with ⟨rfl, _⟩ | ⟨g, cap, rfl, _⟩ <;> rfl
  · refine bxa (cs := [v1, int 0]) fun b h2 e2 hb k2 _ => ?_
    refine r b h2 (by have := e1.le; omega) ⟨v1, k2, ?_⟩ (e1.trans e2)
    exact (o1.sl (U := No) fun _ _ h => h).ex e2 (fun _ _ h => h) (fun x hx hb' => by omega)
theorem c_word_Err (rd : Rd rb h l er) (r : K (int er) h) : Ca f_word_Reader_Err #[ptr rb 0] h K := by
  refine m_word_Reader_Err_ok (eq_ptr_nil (by kernel_rfl) ?_)
  obtain ⟨v, k, s⟩ := rd
  exact fl (by rw [k.get]; rfl) r
theorem c_word_spoil {n : Int} (rd : Rd rb h l er) (r : ∀ h', Rd rb h' [] (if er = 0 then n else er) → Ex (only rb) h h' → K (.tuple #[]) h') : Ca f_word_Reader_spoil #[ptr rb 0, int n] h K := by
  refine m_word_Reader_spoil_ok ?_
  obtain ⟨v, k, s⟩ := rd
  refine fl (by rw [k.get]; rfl) ?_
  rw [BiP_eql]
  have fin : ∀ (h1 : Heap) (v : Value) (er' : Int), er' = (if er = 0 then n else er) → Blk h1 rb [v, int er'] → Ex (only rb) h h1 → m_word_Reader_spoil_j9 (ptr rb 0) h1 K := by
    intro h1 v er' he k1 e1
    unfold m_word_Reader_spoil_j9
    refine Fs_b k1 (by simp) rfl fun h2 _ e2 k2 => r h2 ⟨.slice none 0 0, ?_, Sl.nil _ _⟩ (e1.trans e2)
    rw [← he]; exact k2
  refine cdp (fun h0 => ?_) (fun h0 => ?_)
  · refine Fs_b k (by simp) rfl fun h1 _ e1 k1 => ?_
    exact fin h1 v n (by rw [if_pos h0]) k1 e1
  · exact fin h v er (by rw [if_neg h0]) k (Ex.refl _ _)
theorem Rd.ne {rb : Nat} {h : Heap} {l : List UInt8} {er : Int} (r : Rd rb h l er) : rb < h.size := by obtain ⟨v, h1, _⟩ := r; exact h1.lt
theorem c_word_Raw {n : Nat} (rd : Rd rb h l 0) (hn : n ≤ l.length) (hl : n ≤ 2 ^ 24) (r : ∀ v h', Ow h.size t_uint8 h' v (l.take n) → Rd rb h' (l.drop n) 0 → Ex (only rb) h h' → K v h') : Ca f_word_Reader_Raw #[ptr rb 0, int n] h K := by
  refine m_word_Reader_Raw_ok (eq_ptr_nil (by kernel_rfl) ?_)
  have hrb := rd.ne
  obtain ⟨v, k, s⟩ := rd
  refine fl (by rw [k.get]; rfl) ?_
  rw [BiP_neq]
  refine cdp (fun h => absurd rfl h) fun _ => ?_
  rw [BiP_lss]
  refine cdp (fun h => absurd h (by omega)) fun _ => ?_
  refine fl (by rw [k.get]; rfl) ?_
  refine s.len ?_
  rw [BiP_gtr]
  refine cdp (fun h => absurd h (by omega)) fun _ => ?_
  unfold m_word_Reader_Raw_j22
  refine mkn (n0 := h.size) T_byte z_byte (Nat.le_refl _) (by simpa [El.z] using hl) (by decide) fun g h1 hg o1 e1 => ?_
  have k1 := k.ext e1
  have s1 := s.ext e1
  refine fl (by rw [k1.get]; rfl) ?_
  refine copy_own (k := 0) T_byte o1 s1 (Nat.zero_le _) (by omega) fun h2 o2 e2 => ?_
  have hz : (List.replicate n (0 : UInt8)).take 0 ++ l.take n ++ (List.replicate n (0 : UInt8)).drop (0 + min l.length n) = l.take n := by
    rw [Nat.zero_add, Nat.min_eq_right hn, List.drop_eq_nil_of_le (by simp), List.append_nil]; rfl
  rw [hz] at o2
  have k2 := k1.ex e2 (by omega : ¬ rb = g)
  refine fl (by rw [k2.get]; rfl) ?_
  refine s.part (a := n) (b := l.length) bnd_nat rfl hn (Nat.le_refl _) fun v3 s3 => ?_
  rw [List.take_length] at s3
  have hv3 : one' v3 = true := by obtain ⟨a, cap, rfl, _⟩ := s3.out; rfl
  refine Fs_b k2 (by simp) hv3 fun h3 _ e3 k3 => ?_
  have e02 : Ext h h2 := e1.andThen e2 fun x hx => by omega
  have e03 : Ex (only rb) h h3 := e02.toM.trans e3
  have o3 := o2.ex e3 (by omega : ¬ g = rb)
  have hlen : (l.take n).length = n := by rw [List.length_take]; omega
  refine r _ h3 (o3.ow' (by omega) hlen) ⟨v3, k3, ?_⟩ e03
  exact s3.keep e03 fun b hb => Nat.le_of_eq (Eq.symm hb)
theorem c_word_Raw_short {n : Nat} (rd : Rd rb h l 0) (hn : l.length < n) (r : ∀ h', Rd rb h' [] 5 → Ex (only rb) h h' → K (.slice none 0 0) h') : Ca f_word_Reader_Raw #[ptr rb 0, int n] h K := by
  refine m_word_Reader_Raw_ok (eq_ptr_nil (by kernel_rfl) ?_)
  have rd' := rd
  obtain ⟨v, k, s⟩ := rd
  refine fl (by rw [k.get]; rfl) ?_
  rw [BiP_neq]
  refine cdp (fun h => absurd rfl h) fun _ => ?_
  rw [BiP_lss]
  refine cdp (fun h => absurd h (by omega)) fun _ => ?_
  refine fl (by rw [k.get]; rfl) ?_
  refine s.len ?_
  rw [BiP_gtr]
  refine cdp (fun _ => ?_) fun h => absurd (by omega) h
  exact c_word_spoil rd' fun h' r' e' => r h' r' e'
theorem c_word_Raw_err {n : Int} (rd : Rd rb h l er) (he : er ≠ 0) (r : K (.slice none 0 0) h) : Ca f_word_Reader_Raw #[ptr rb 0, int n] h K := by
  refine m_word_Reader_Raw_ok (eq_ptr_nil (by kernel_rfl) ?_)
  obtain ⟨v, k, s⟩ := rd
  refine fl (by rw [k.get]; rfl) ?_
  rw [BiP_neq]
  refine cdp (fun _ => ?_) fun h => absurd he h
  exact r
end
end Go.Sg
namespace Go.Sg
open Go Vc
def rawOf (l : List UInt8) (er : Int) (n : Nat) : List UInt8 × List UInt8 × Int :=
  if er ≠ 0 then ([], l, er) else if n ≤ l.length then (l.take n, l.drop n, 0) else ([], [], 5)
def numOf (l : List UInt8) : Nat := l.foldl (fun v c => v * 256 + c.toNat) 0
theorem numOf_snoc (l : List UInt8) (c : UInt8) : numOf (l ++ [c]) = numOf l * 256 + c.toNat := by simp [numOf, List.foldl_append]
theorem numOf_lt (l : List UInt8) : numOf l < 256 ^ l.length := by
  generalize hn : l.length = n
  induction n generalizing l with
  | zero => have := List.eq_nil_of_length_eq_zero hn; subst this; simp [numOf]
  | succ n ih =>
    obtain ⟨m, c, rfl⟩ : ∃ m c, l = m ++ [c] := ⟨l.dropLast, l.getLast (by rintro rfl; simp at hn), (List.dropLast_concat_getLast _).symm⟩
    rw [numOf_snoc]
    have := ih m (by simpa using hn)
    have hc := c.toNat_lt
    rw [Nat.pow_succ]; omega
section
variable {h : Heap} {K : Kt} {U : Nat → Prop} {rb : Nat} {l : List UInt8} {er : Int}
theorem c_Raw {n : Nat} (rd : Rd rb h l er) (hl : n ≤ 2 ^ 24) (r : ∀ v h', Ow h.size t_uint8 h' v (rawOf l er n).1 → Rd rb h' (rawOf l er n).2.1 (rawOf l er n).2.2 → Ex (only rb) h h' → K v h') : Ca f_word_Reader_Raw #[ptr rb 0, int n] h K := by
  unfold rawOf at r
  by_cases he : er = 0
  · subst he
    rw [if_neg (by simp)] at r
    by_cases hn : n ≤ l.length
    · rw [if_pos hn] at r; exact c_word_Raw rd hn hl r
    · rw [if_neg hn] at r; exact c_word_Raw_short rd (by omega) fun h' r' e' => r _ _ (Ow.nil _ _ _) r' e'
  · rw [if_pos he] at r
    exact c_word_Raw_err rd he (r _ _ (Ow.nil _ _ _) rd (Ex.refl _ _))
theorem shl8_or {v c : Nat} {R : Value → Prop} (h1 : v < 2 ^ 56) (h2 : c < 256) (r : R (.int .u64 ((v * 256 + c : Nat) : Int))) :
    BiP .shl (.int .u64 v) (.int .u64 8) fun x => BiP .or x (.int .u64 c) R := by
  have w64 : ∀ {n : Int}, 0 ≤ n → n < 18446744073709551616 → IntKind.wrap .u64 n = n := fun a b => wrapU rfl a (by simpa [IntKind.bits] using b)
  have e1 : binVal .shl (.int .u64 (v : Int)) (.int .u64 8) = some (.int .u64 ((v * 256 : Nat) : Int)) := by
    simp only [binVal]
    rw [if_neg (by decide)]
    have : (v : Int) * 2 ^ (min (Int.toNat 8) (IntKind.bits .u64)) = ((v * 256 : Nat) : Int) := by
      have h3 : (2 : Int) ^ (min (Int.toNat 8) (IntKind.bits .u64)) = 256 := by decide
      rw [h3]; omega
    rw [this, w64 (by omega) (by omega)]
  have e2 : binVal .or (.int .u64 ((v * 256 : Nat) : Int)) (.int .u64 (c : Int)) = some (.int .u64 ((v * 256 + c : Nat) : Int)) := by
    have h3 : ((BitVec.ofInt 64 ((v * 256 : Nat) : Int) ||| BitVec.ofInt 64 (c : Int)).toNat : Int) = ((v * 256 + c : Nat) : Int) := by
      rw [BitVec.ofInt_natCast, BitVec.ofInt_natCast, BitVec.toNat_or, BitVec.toNat_ofNat, BitVec.toNat_ofNat, Nat.mod_eq_of_lt (by omega), Nat.mod_eq_of_lt (by omega)]
      have := Nat.two_pow_add_eq_or_of_lt (i := 8) (b := c) (by omega) v
      rw [Nat.mul_comm v 256]
      exact congrArg Nat.cast this.symm
    simp only [binVal]
    rw [if_neg (by simp)]
    show some (Value.int .u64 (IntKind.wrap .u64 ((BitVec.ofInt 64 ((v * 256 : Nat) : Int) ||| BitVec.ofInt 64 (c : Int)).toNat : Int))) = _
    rw [h3, w64 (by omega) (by omega)]
  rw [BiP_some e1, BiP_some e2]; exact r
theorem c_word_Num {n : Nat} (rd : Rd rb h l er) (hn : n = 1 ∨ n = 2 ∨ n = 4 ∨ n = 8) (r : ∀ h', Rd rb h' (rawOf l er n).2.1 (rawOf l er n).2.2 → Ex (only rb) h h' → K (.int .u64 (numOf (rawOf l er n).1)) h') : Ca f_word_Reader_Num #[ptr rb 0, int n] h K := by
  refine m_word_Reader_Num_ok (c_word_right ?_)
  rw [decide_eq_true (by omega), UnP_not, Bool.not_true, CdP_false]
  unfold m_word_Reader_Num_j5
  refine c_Raw rd (by omega) fun v h1 o1 rd1 e1 => ?_
  have hlen : (rawOf l er n).1.length ≤ n := by
    unfold rawOf; split
    · simp
    · split
      · simp; omega
      · simp
  have s1 : Sl No h1 v (rawOf l er n).1 := o1.sl fun _ _ h => h
  have r := r h1 rd1 e1
  generalize (rawOf l er n).1 = q at *
  refine s1.len ?_
  refine lop (σ := Nat) (fun i => [.int .u64 (numOf (q.take i)), int i]) (fun i h' => h' = h1 ∧ i ≤ q.length) (fun i => q.length - i) 0 (by simp [numOf]) ⟨rfl, Nat.zero_le _⟩ ?_
  rintro i h2 N ⟨rfl, hi⟩ hN
  simp only [m_word_Reader_Num_l10, gv_zero, gv_succ]
  rw [BiP_lss]
  refine cdp (fun hlt => ?_) (fun hge => ?_)
  · have g1 : q[i]? = some q[i] := List.getElem?_eq_getElem (by omega)
    have hnext : numOf (q.take (i + 1)) = numOf (q.take i) * 256 + q[i].toNat := by
      rw [List.take_add_one, g1]; exact numOf_snoc _ _
    have hN := hN (i + 1) h2 ⟨rfl, by omega⟩ (by omega)
    rw [hnext] at hN
    have hv := numOf_lt (q.take i)
    have hv2 : numOf (q.take i) < 2 ^ 56 := by
      refine Nat.lt_of_lt_of_le hv ?_
      have h7 : (q.take i).length ≤ 7 := by rw [List.length_take]; omega
      calc 256 ^ (q.take i).length ≤ 256 ^ 7 := Nat.pow_le_pow_right (by decide) h7
        _ = 2 ^ 56 := by decide
    refine s1.ei (by omega) (by rw [Int.toNat_natCast]; exact g1) rfl ?_
    generalize q[i] = c at *
    have hc := c.toNat_lt
    have w64 : IntKind.wrap .u64 (c.toNat : Int) = (c.toNat : Int) := wrapU rfl (by omega) (by simp only [IntKind.bits]; omega)
    have := shl8_or (R := fun x18 => BiP .add (int i) (.int .i64 1) fun x19 => N [x18, x19] h2) hv2 (by omega : c.toNat < 256) (add64 (by omega) (by simpa using hN))
    simp only [CvP_int, w64]
    exact this
  · have : i = q.length := by omega
    subst this
    unfold m_word_Reader_Num_j20
    rw [List.take_length]; exact r
end
end Go.Sg
