/-
  Part 11 of a proof: own texts, merged by program.
-/
import Derived.Test.YtfdephgpijheoaaGreatDoorP10
set_option linter.unusedVariables false
set_option linter.unusedSimpArgs false
set_option maxRecDepth 100000
namespace Go.Sg
open Go Vc Go.Proofs
def m_mount_Mount_Sync (x0_ : Value) (h : Heap) (K : Kt) : Prop :=
 Ca f_mount_Mount_none #[x0_] h fun x2 h1 =>
 CdP x2
 (K (.int .i64 1) h1)
 (Ca f_mount_Mount_Head #[x0_] h1 fun x4 h3 =>
 Ca f_head_Encode #[x4] h3 fun x6 h5 =>
 ExP x6 0 fun x7 =>
 ExP x6 1 fun x8 =>
 BiP .neq x8 (.int .i64 0) fun x9 =>
 CdP x9
 (K x8 h5)
 (Fl 1 x0_ h5 fun x12 =>
 Ca f_tree_Tree_Shelf #[x12] h5 fun x14 h13 =>
 Ca f_shelf_Shelf_Flush #[x14] h13 fun x16 h15 =>
 BiP .neq x16 (.int .i64 0) fun x17 =>
 CdP x17
 (K x16 h15)
 (Fl 0 x0_ h15 fun x20 =>
 Ca f_dev_Device_Write #[x20, (.int .u32 0), x7] h15 fun x22 h21 =>
 K x22 h21)))
theorem m_mount_Mount_Sync_ok {x0_ : Value} {h : Heap} {K : Kt} (hh : m_mount_Mount_Sync x0_ h K) : Ca f_mount_Mount_Sync #[x0_] h K := cv Tryz.func39 (by kernel_rfl) hh
def m_mount_Mount_Device (x0_ : Value) (h : Heap) (K : Kt) : Prop :=
 Ca f_mount_Mount_none #[x0_] h fun x2 h1 =>
 CdP x2
 (K (.pointer none) h1)
 (Fl 0 x0_ h1 fun x5 =>
 K x5 h1)
theorem m_mount_Mount_Device_ok {x0_ : Value} {h : Heap} {K : Kt} (hh : m_mount_Mount_Device x0_ h K) : Ca f_mount_Mount_Device #[x0_] h K := cv Tryz.func40 (by kernel_rfl) hh
def m_scan_Range_j12 (x0_ x1_ x3_ x6_ : Value) (h : Heap) (K : Kt) : Prop :=
 BlP bt_scan_scanner [(0, x0_), (1, x3_)] fun x13 =>
 BxP t_scan_scanner x13 h fun x15 h14 =>
 LdA 3 x6_ h14 fun x16 =>
 Ca f_scan_scanner_visit #[x15, x1_, (.int .i64 (-1)), x16, (.slice none 0 0)] h14 fun x18 h17 =>
 BiP .neq x18 (.int .i64 0) fun x19 =>
 CdP x19
 (K (.tuple #[(.slice none 0 0), x18]) h17)
 (Fl 2 x15 h17 fun x22 =>
 K (.tuple #[x22, (.int .i64 0)]) h17)
def m_scan_Range_j11 (x0_ x1_ x3_ x6_ x17_ : Value) (h : Heap) (K : Kt) : Prop :=
 CdP x17_
 (K (.tuple #[(.slice none 0 0), (.int .i64 0)]) h)
 (m_scan_Range_j12 x0_ x1_ x3_ x6_ h K)
def m_scan_Range (x0_ x1_ x2_ x3_ : Value) (h : Heap) (K : Kt) : Prop :=
 BxP t_api_Span x2_ h fun x2 h1 =>
 BiP .lss x3_ (.int .i64 1) fun x5 =>
 CdP x5
 (m_scan_Range_j11 x0_ x1_ x3_ x2 (.bool true) h1 K)
 (LdA 3 x2 h1 fun x7 =>
 Ca f_lex_Empty #[x7] h1 fun x9 h8 =>
 m_scan_Range_j11 x0_ x1_ x3_ x2 x9 h8 K)
theorem m_scan_Range_ok {x0_ x1_ x2_ x3_ : Value} {h : Heap} {K : Kt} (hh : m_scan_Range x0_ x1_ x2_ x3_ h K) : Ca f_scan_Range #[x0_, x1_, x2_, x3_] h K := cv Tryz.func59 (by kernel_rfl) hh
def m_mount_Mount_Tree (x0_ : Value) (h : Heap) (K : Kt) : Prop :=
 Ca f_mount_Mount_none #[x0_] h fun x2 h1 =>
 CdP x2
 (K (.pointer none) h1)
 (Fl 1 x0_ h1 fun x5 =>
 K x5 h1)
theorem m_mount_Mount_Tree_ok {x0_ : Value} {h : Heap} {K : Kt} (hh : m_mount_Mount_Tree x0_ h K) : Ca f_mount_Mount_Tree #[x0_] h K := cv Tryz.func60 (by kernel_rfl) hh
def m_tree_Tree_Shelf (x0_ : Value) (h : Heap) (K : Kt) : Prop :=
 Ca f_tree_Tree_none #[x0_] h fun x2 h1 =>
 CdP x2
 (K (.pointer none) h1)
 (Fl 0 x0_ h1 fun x5 =>
 K x5 h1)
theorem m_tree_Tree_Shelf_ok {x0_ : Value} {h : Heap} {K : Kt} (hh : m_tree_Tree_Shelf x0_ h K) : Ca f_tree_Tree_Shelf #[x0_] h K := cv Tryz.func61 (by kernel_rfl) hh
def m_tree_Tree_Root (x0_ : Value) (h : Heap) (K : Kt) : Prop :=
 Ca f_tree_Tree_none #[x0_] h fun x2 h1 =>
 CdP x2
 (K (.int .u32 0) h1)
 (Fl 1 x0_ h1 fun x5 =>
 K x5 h1)
theorem m_tree_Tree_Root_ok {x0_ : Value} {h : Heap} {K : Kt} (hh : m_tree_Tree_Root x0_ h K) : Ca f_tree_Tree_Root #[x0_] h K := cv Tryz.func62 (by kernel_rfl) hh
def m_mount_Format (x0_ : Value) (h : Heap) (K : Kt) : Prop :=
 BxP t_api_Config x0_ h fun x2 h1 =>
 LdA 8 x2 h1 fun x3 =>
 Ca f_conf_Check #[x3] h1 fun x5 h4 =>
 BiP .neq x5 (.int .i64 0) fun x6 =>
 CdP x6
 (K (.tuple #[(.pointer none), x5]) h4)
 (Fv 0 x2 h4 fun x8 =>
 Fv 1 x2 h4 fun x10 =>
 Ca f_dev_New #[x8, x10] h4 fun x12 h11 =>
 ExP x12 0 fun x13 =>
 ExP x12 1 fun x14 =>
 BiP .neq x14 (.int .i64 0) fun x15 =>
 CdP x15
 (K (.tuple #[(.pointer none), x14]) h11)
 (LdA 8 x2 h11 fun x16 =>
 Ca f_shelf_New #[x16, x13] h11 fun x18 h17 =>
 ExP x18 0 fun x19 =>
 ExP x18 1 fun x20 =>
 BiP .neq x20 (.int .i64 0) fun x21 =>
 CdP x21
 (K (.tuple #[(.pointer none), x20]) h17)
 (Ca f_tree_New #[x19] h17 fun x23 h22 =>
 ExP x23 0 fun x24 =>
 ExP x23 1 fun x25 =>
 BiP .neq x25 (.int .i64 0) fun x26 =>
 CdP x26
 (K (.tuple #[(.pointer none), x25]) h22)
 (BlP bt_mount_Mount [(0, x13), (1, x24)] fun x27 =>
 BxP t_mount_Mount x27 h22 fun x29 h28 =>
 Ca f_mount_Mount_Sync #[x29] h28 fun x31 h30 =>
 BiP .neq x31 (.int .i64 0) fun x32 =>
 CdP x32
 (K (.tuple #[(.pointer none), x31]) h30)
 (K (.tuple #[x29, (.int .i64 0)]) h30)))))
theorem m_mount_Format_ok {x0_ : Value} {h : Heap} {K : Kt} (hh : m_mount_Format x0_ h K) : Ca f_mount_Format #[x0_] h K := cv Tryz.func64 (by kernel_rfl) hh
def m_mount_Mount_none_j11 (x2_ : Value) (h : Heap) (K : Kt) : Prop :=
 K x2_ h
def m_mount_Mount_none (x0_ : Value) (h : Heap) (K : Kt) : Prop :=
 EqP .eql t_P_mount_Mount (.tmp 3) (.const (.pointer none)) x0_ (.pointer none) h fun x3 h2 =>
 CdP x3
 (m_mount_Mount_none_j11 (.bool true) h2 K)
 (Fl 1 x0_ h2 fun x7 =>
 EqP .eql t_P_tree_Tree (.tmp 9) (.const (.pointer none)) x7 (.pointer none) h2 fun x9 h8 =>
 m_mount_Mount_none_j11 x9 h8 K)
theorem m_mount_Mount_none_ok {x0_ : Value} {h : Heap} {K : Kt} (hh : m_mount_Mount_none x0_ h K) : Ca f_mount_Mount_none #[x0_] h K := cv Tryz.func80 (by kernel_rfl) hh
def m_mount_Mount_Head (x0_ : Value) (h : Heap) (K : Kt) : Prop :=
 AlP t_head_Head zt_head_Head h fun x2 h1 =>
 Ca f_mount_Mount_none #[x0_] h1 fun x4 h3 =>
 CdP x4
 (BlP bt_head_Head [] fun x5 =>
 StA 10 x2 x5 h3 fun h6 =>
 LdA 10 x2 h6 fun x7 =>
 K x7 h6)
 (∃ X9 : XS,
 NilP x0_ fun x10 =>
 FaP (some 1) x10 fun x11 =>
 LdX X9 x11 h3 fun x12 =>
 NilP x0_ fun x13 =>
 FaP (some 1) x13 fun x14 =>
 LdX X9 x14 h3 fun x15 =>
 NilP x0_ fun x16 =>
 FaP (some 1) x16 fun x17 =>
 LdX X9 x17 h3 fun x18 =>
 Ca f_tree_Tree_Shelf #[x12] h3 fun x20 h19 =>
 Agr X9 h3 h19 ∧ (Ca f_shelf_Shelf_Config #[x20] h19 fun x22 h21 =>
 Agr X9 h3 h21 ∧ (Ca f_tree_Tree_Root #[x15] h21 fun x24 h23 =>
 Agr X9 h3 h23 ∧ (Ca f_tree_Tree_Height #[x18] h23 fun x26 h25 =>
 True ∧ (BlP bt_head_Head [(0, x22), (1, x24), (2, x26)] fun x27 =>
 StA 10 x2 x27 h25 fun h28 =>
 True ∧ (LdA 10 x2 h28 fun x29 =>
 K x29 h28))))))
theorem m_mount_Mount_Head_ok {x0_ : Value} {h : Heap} {K : Kt} (hh : m_mount_Mount_Head x0_ h K) : Ca f_mount_Mount_Head #[x0_] h K := cv Tryz.func82 (by kernel_rfl) hh
def m_mount_Open_j39 (x0_ x8_ : Value) (h : Heap) (K : Kt) : Prop :=
 BlP bt_mount_Mount [(0, x0_), (1, x8_)] fun x40 =>
 BxP t_mount_Mount x40 h fun x42 h41 =>
 K (.tuple #[x42, (.int .i64 0)]) h41
def m_mount_Open_j38 (x0_ x8_ x48_ : Value) (h : Heap) (K : Kt) : Prop :=
 CdP x48_
 (K (.tuple #[(.pointer none), (.int .i64 12)]) h)
 (m_mount_Open_j39 x0_ x8_ h K)
def m_mount_Open (x0_ : Value) (h : Heap) (K : Kt) : Prop :=
 Ca f_dev_Device_Read #[x0_, (.int .u32 0)] h fun x2 h1 =>
 ExP x2 0 fun x3 =>
 ExP x2 1 fun x4 =>
 BiP .neq x4 (.int .i64 0) fun x5 =>
 CdP x5
 (K (.tuple #[(.pointer none), x4]) h1)
 (Ca f_head_Decode #[x3] h1 fun x7 h6 =>
 ExP x7 0 fun x8 =>
 ExP x7 1 fun x9 =>
 AlP t_head_Head zt_head_Head h6 fun x11 h10 =>
 StA 10 x11 x8 h10 fun h12 =>
 BiP .neq x9 (.int .i64 0) fun x13 =>
 CdP x13
 (K (.tuple #[(.pointer none), (.int .i64 12)]) h12)
 (Fva 0 8 x11 h12 fun x15 =>
 Ca f_shelf_New #[x15, x0_] h12 fun x17 h16 =>
 ExP x17 0 fun x18 =>
 ExP x17 1 fun x19 =>
 BiP .neq x19 (.int .i64 0) fun x20 =>
 CdP x20
 (K (.tuple #[(.pointer none), (.int .i64 12)]) h16)
 (Fv 8 x11 h16 fun x22 =>
 Ca f_tree_Open #[x18, x22] h16 fun x24 h23 =>
 ExP x24 0 fun x25 =>
 ExP x24 1 fun x26 =>
 ∃ X29 : XS,
 BiP .neq x26 (.int .i64 0) fun x30 =>
 CdP x30
 (m_mount_Open_j38 x0_ x25 (.bool true) h23 K)
 (FaP (some 9) x11 fun x32 =>
 LdX X29 x32 h23 fun x33 =>
 Ca f_tree_Tree_Height #[x25] h23 fun x35 h34 =>
 Agr X29 h23 h34 ∧ (BiP .neq x35 x33 fun x36 =>
 m_mount_Open_j38 x0_ x25 x36 h34 K)))))
theorem m_mount_Open_ok {x0_ : Value} {h : Heap} {K : Kt} (hh : m_mount_Open x0_ h K) : Ca f_mount_Open #[x0_] h K := cv Tryz.func91 (by kernel_rfl) hh
def m_scan_scanner_visit_j101 (x0_ x4_ x8_ x10_ x11_ x83_ x84_ x85_ : Value) (h : Heap) (nx71 : Nt) (K : Kt) : Prop :=
 BiP .add x85_ (.int .i64 1) fun x102 =>
 nx71 [x10_, x102] h
def m_scan_scanner_visit_j103 (h : Heap) (K : Kt) : Prop :=
 K (.int .i64 0) h
def m_scan_scanner_visit_l70 (vs : List Value) (x0_ x4_ x8_ x11_ x83_ x84_ : Value) (h : Heap) (nx71 : Nt) (K : Kt) : Prop :=
 BiP .lss (gv vs 1) x84_ fun x72 =>
 CdP x72
 (Ei 1 x83_ (gv vs 1) h fun x75 =>
 Fv 2 x11_ h fun x77 =>
 LdA 3 x8_ h fun x78 =>
 Ca f_fan_Span #[x77, (gv vs 1), x78] h fun x80 h79 =>
 ExP x80 0 fun x81 =>
 ExP x80 1 fun x82 =>
 AlP t_api_Span zt_api_Span h79 fun x84 h83 =>
 StA 3 x84 x81 h83 fun h85 =>
 UnP .not x82 fun x86 =>
 CdP x86
 (m_scan_scanner_visit_j101 x0_ x4_ x8_ (gv vs 0) x11_ x83_ x84_ (gv vs 1) h85 nx71 K)
 (Ca f_scan_scanner_full #[x0_] h85 fun x88 h87 =>
 CdP x88
 (K (.int .i64 0) h87)
 (∃ X90 : XS,
 FaP (some 0) x11_ fun x91 =>
 LdX X90 x91 h87 fun x92 =>
 BiP .sub x92 (.int .i64 1) fun x93 =>
 LaX X90 3 x84 h87 fun x94 =>
 LaX X90 3 x84 h87 fun x95 =>
 Ca f_buf_Part #[x4_, x95] h87 fun x97 h96 =>
 Agr X90 h87 h96 ∧ (Ca f_scan_scanner_visit #[x0_, x75, x93, x94, x97] h96 fun x99 h98 =>
 True ∧ (BiP .neq x99 (.int .i64 0) fun x100 =>
 CdP x100
 (K x99 h98)
 (m_scan_scanner_visit_j101 x0_ x4_ x8_ (gv vs 0) x11_ x83_ x84_ (gv vs 1) h98 nx71 K))))))
 (m_scan_scanner_visit_j103 h K)
def m_scan_scanner_visit_j23 (x0_ x4_ x8_ x11_ : Value) (h : Heap) (K : Kt) : Prop :=
 Fv 0 x11_ h fun x25 =>
 BiP .eql x25 (.int .i64 0) fun x26 =>
 CdP x26
 (Fv 4 x11_ h fun x28 =>
 LdA 3 x8_ h fun x29 =>
 Fv 4 x11_ h fun x31 =>
 LenP (some true) x31 fun x32 =>
 Ca f_leaf_Part #[x28, x29, x32] h fun x34 h33 =>
 Ca f_leaf_Apply #[x34, x4_] h33 fun x36 h35 =>
 ∃ X38 : XS,
 NilP x0_ fun x39 =>
 FaP (some 2) x39 fun x40 =>
 LdX X38 x40 h35 fun x41 =>
 LenP (some true) x36 fun x42 =>
 NilP x0_ fun x43 =>
 FaP (some 1) x43 fun x44 =>
 LdX X38 x44 h35 fun x45 =>
 NilP x0_ fun x46 =>
 FaP (some 2) x46 fun x47 =>
 LdX X38 x47 h35 fun x48 =>
 LenP (some true) x48 fun x49 =>
 BiP .sub x45 x49 fun x50 =>
 VH Pg (Builtin.min_ #[t_int, t_int] t_int #[x42, x50]) h35 fun x52 h51 =>
 Agr X38 h35 h51 ∧ (SlP 2 x36 none (some x52) fun x53 =>
 VH Pg (Builtin.append_ #[t_S_api_Pair, t_S_api_Pair] t_S_api_Pair #[x41, x53]) h51 fun x55 h54 =>
 True ∧ (Fs 2 x0_ x55 h54 fun h58 =>
 True ∧ (K (.int .i64 0) h58))))
 (Fv 3 x11_ h fun x60 =>
 LdA 3 x8_ h fun x61 =>
 Ca f_buf_Part #[x60, x61] h fun x63 h62 =>
 Ca f_buf_Merge #[x4_, x63] h62 fun x65 h64 =>
 Fv 1 x11_ h64 fun x68 =>
 LenP (some true) x68 fun x69 =>
 LoP (fun vt h nx71 => m_scan_scanner_visit_l70 vt x0_ x65 x8_ x11_ x68 x69 h nx71 K) [(.int .i64 0), (.int .i64 0)] h64)
def m_scan_scanner_visit_j22 (x0_ x4_ x8_ x11_ x32_ : Value) (h : Heap) (K : Kt) : Prop :=
 CdP x32_
 (K (.int .i64 12) h)
 (m_scan_scanner_visit_j23 x0_ x4_ x8_ x11_ h K)
def m_scan_scanner_visit (x0_ x1_ x2_ x3_ x4_ : Value) (h : Heap) (K : Kt) : Prop :=
 BxP t_api_Span x3_ h fun x2 h1 =>
 Fl 0 x0_ h1 fun x5 =>
 Ca f_shelf_Shelf_Load #[x5, x1_] h1 fun x7 h6 =>
 ExP x7 0 fun x8 =>
 ExP x7 1 fun x9 =>
 AlP t_api_Node zt_api_Node h6 fun x11 h10 =>
 StA 5 x11 x8 h10 fun h12 =>
 BiP .neq x9 (.int .i64 0) fun x14 =>
 CdP x14
 (K x9 h12)
 (BiP .geq x2_ (.int .i64 0) fun x16 =>
 CdP x16
 (Fv 0 x11 h12 fun x18 =>
 BiP .neq x18 x2_ fun x19 =>
 m_scan_scanner_visit_j22 x0_ x4_ x2 x11 x19 h12 K)
 (m_scan_scanner_visit_j22 x0_ x4_ x2 x11 (.bool false) h12 K))
theorem m_scan_scanner_visit_ok {x0_ x1_ x2_ x3_ x4_ : Value} {h : Heap} {K : Kt} (hh : m_scan_scanner_visit x0_ x1_ x2_ x3_ x4_ h K) : Ca f_scan_scanner_visit #[x0_, x1_, x2_, x3_, x4_] h K := cv Tryz.func105 (by kernel_rfl) hh
def m_tree_Tree_none_j11 (x2_ : Value) (h : Heap) (K : Kt) : Prop :=
 K x2_ h
def m_tree_Tree_none (x0_ : Value) (h : Heap) (K : Kt) : Prop :=
 EqP .eql t_P_tree_Tree (.tmp 3) (.const (.pointer none)) x0_ (.pointer none) h fun x3 h2 =>
 CdP x3
 (m_tree_Tree_none_j11 (.bool true) h2 K)
 (Fl 0 x0_ h2 fun x7 =>
 EqP .eql t_P_shelf_Shelf (.tmp 9) (.const (.pointer none)) x7 (.pointer none) h2 fun x9 h8 =>
 m_tree_Tree_none_j11 x9 h8 K)
theorem m_tree_Tree_none_ok {x0_ : Value} {h : Heap} {K : Kt} (hh : m_tree_Tree_none x0_ h K) : Ca f_tree_Tree_none #[x0_] h K := cv Tryz.func106 (by kernel_rfl) hh
def m_tree_New (x0_ : Value) (h : Heap) (K : Kt) : Prop :=
 BlP bt_api_Node [] fun x1 =>
 Ca f_shelf_Shelf_Make #[x0_, x1] h fun x3 h2 =>
 ExP x3 0 fun x4 =>
 ExP x3 1 fun x5 =>
 BiP .neq x5 (.int .i64 0) fun x6 =>
 CdP x6
 (K (.tuple #[(.pointer none), x5]) h2)
 (BlP bt_tree_Tree [(0, x0_), (1, x4)] fun x7 =>
 BxP t_tree_Tree x7 h2 fun x9 h8 =>
 Ca f_shelf_Shelf_Keep #[x0_, x4] h8 fun x11 h10 =>
 K (.tuple #[x9, x11]) h10)
theorem m_tree_New_ok {x0_ : Value} {h : Heap} {K : Kt} (hh : m_tree_New x0_ h K) : Ca f_tree_New #[x0_] h K := cv Tryz.func114 (by kernel_rfl) hh
def m_tree_Tree_Height (x0_ : Value) (h : Heap) (K : Kt) : Prop :=
 Ca f_tree_Tree_none #[x0_] h fun x2 h1 =>
 CdP x2
 (K (.int .i64 0) h1)
 (Fl 2 x0_ h1 fun x5 =>
 BiP .add x5 (.int .i64 1) fun x6 =>
 K x6 h1)
theorem m_tree_Tree_Height_ok {x0_ : Value} {h : Heap} {K : Kt} (hh : m_tree_Tree_Height x0_ h K) : Ca f_tree_Tree_Height #[x0_] h K := cv Tryz.func128 (by kernel_rfl) hh
def m_tree_Open_j51 (x4_ x5_ : Value) (h : Heap) (K : Kt) : Prop :=
 K (.tuple #[x4_, x5_]) h
def m_tree_Open_j29 (x0_ x1_ : Value) (h : Heap) (K : Kt) : Prop :=
 Ca f_shelf_Shelf_Load #[x0_, x1_] h fun x31 h30 =>
 ExP x31 0 fun x32 =>
 ExP x31 1 fun x33 =>
 AlP t_api_Node zt_api_Node h30 fun x35 h34 =>
 StA 5 x35 x32 h34 fun h36 =>
 BiP .neq x33 (.int .i64 0) fun x37 =>
 CdP x37
 (K (.tuple #[(.pointer none), x33]) h36)
 (∃ X39 : XS,
 FaP (some 0) x35 fun x40 =>
 LdX X39 x40 h36 fun x41 =>
 BlP bt_tree_Tree [(0, x0_), (1, x1_), (2, x41)] fun x42 =>
 (BxP t_tree_Tree x42 h36 fun x44 h43 =>
 True ∧ (Ca f_shelf_Shelf_Keep #[x0_, x1_] h43 fun x46 h45 =>
 Agr X39 h36 h45 ∧ (m_tree_Open_j51 x44 x46 h45 K))) ∧
 (Ca f_shelf_Shelf_Keep #[x0_, x1_] h36 fun x48 h47 =>
 Agr X39 h36 h47 ∧ (BxP t_tree_Tree x42 h47 fun x50 h49 =>
 True ∧ (m_tree_Open_j51 x50 x48 h49 K))))
def m_tree_Open_l20 (vs : List Value) (x0_ x1_ x32_ x33_ : Value) (h : Heap) (nx21 : Nt) (K : Kt) : Prop :=
 BiP .lss (gv vs 0) x33_ fun x22 =>
 CdP x22
 (Ei 1 x32_ (gv vs 0) h fun x25 =>
 Ca f_shelf_Shelf_Mark #[x0_, x25] h fun x27 h26 =>
 BiP .add (gv vs 0) (.int .i64 1) fun x28 =>
 nx21 [x28] h26)
 (m_tree_Open_j29 x0_ x1_ h K)
def m_tree_Open_j17 (x0_ x1_ x6_ : Value) (h : Heap) (K : Kt) : Prop :=
 LenP (some true) x6_ fun x19 =>
 LoP (fun vt h nx21 => m_tree_Open_l20 vt x0_ x1_ x6_ x19 h nx21 K) [(.int .i64 0)] h
def m_tree_Open_l8 (vs : List Value) (x0_ x1_ x6_ x22_ x23_ : Value) (h : Heap) (nx9 : Nt) (K : Kt) : Prop :=
 BiP .lss (gv vs 2) x23_ fun x10 =>
 CdP x10
 (Ei 1 x22_ (gv vs 2) h fun x13 =>
 Ca f_shelf_Shelf_Has #[x0_, x13] h fun x15 h14 =>
 CdP x15
 (K (.tuple #[(.pointer none), (.int .i64 10)]) h14)
 (BiP .add (gv vs 2) (.int .i64 1) fun x16 =>
 nx9 [(gv vs 0), (gv vs 1), x16] h14))
 (m_tree_Open_j17 x0_ x1_ x6_ h K)
def m_tree_Open (x0_ x1_ : Value) (h : Heap) (K : Kt) : Prop :=
 Ca f_walk_Blocks #[x0_, x1_] h fun x2 h1 =>
 ExP x2 0 fun x3 =>
 ExP x2 1 fun x4 =>
 BiP .neq x4 (.int .i64 0) fun x5 =>
 CdP x5
 (K (.tuple #[(.pointer none), x4]) h1)
 (LenP (some true) x3 fun x7 =>
 LoP (fun vt h nx9 => m_tree_Open_l8 vt x0_ x1_ x3 x3 x7 h nx9 K) [(.pointer none), (.int .i64 0), (.int .i64 0)] h1)
theorem m_tree_Open_ok {x0_ x1_ : Value} {h : Heap} {K : Kt} (hh : m_tree_Open x0_ x1_ h K) : Ca f_tree_Open #[x0_, x1_] h K := cv Tryz.func136 (by kernel_rfl) hh
def m_tree_Tree_Put_j32 (x0_ x3_ x5_ x6_ : Value) (h : Heap) (K : Kt) : Prop :=
 BiP .neq x6_ (.int .i64 0) fun x33 =>
 CdP x33
 (K x6_ h)
 (LdA 5 x5_ h fun x34 =>
 LdA 3 x3_ h fun x35 =>
 Ca f_tree_Tree_direct #[x0_, x34, x35] h fun x37 h36 =>
 ExP x37 0 fun x38 =>
 ExP x37 1 fun x39 =>
 ExP x37 2 fun x40 =>
 AlP t_api_Node zt_api_Node h36 fun x42 h41 =>
 StA 5 x42 x39 h41 fun h43 =>
 BiP .neq x40 (.int .i64 0) fun x45 =>
 CdP x45
 (K x40 h43)
 (CdP x38
 (NilP x0_ fun x46 =>
 FaP (some 3) x46 fun x47 =>
 Fv 0 x47 h43 fun x49 =>
 BiP .add x49 (.int .i64 1) fun x50 =>
 NilP x0_ fun x51 =>
 FaP (some 3) x51 fun x52 =>
 FaP (some 0) x52 fun x53 =>
 StP x53 x50 h43 fun h54 =>
 K (.int .i64 0) h54)
 (∃ X55 : XS,
 NilP x0_ fun x56 =>
 FaP (some 0) x56 fun x57 =>
 LdX X55 x57 h43 fun x58 =>
 FaP (some 0) x5_ fun x59 =>
 LdX X55 x59 h43 fun x60 =>
 BiP .add x60 (.int .i64 3) fun x61 =>
 Ca f_shelf_Shelf_Left #[x58] h43 fun x63 h62 =>
 Agr X55 h43 h62 ∧ (BiP .lss x63 x61 fun x64 =>
 CdP x64
 (K (.int .i64 11) h62)
 (Fv 0 x5_ h62 fun x66 =>
 BiP .eql x66 (.int .i64 0) fun x67 =>
 CdP x67
 (LdA 5 x42 h62 fun x68 =>
 Ca f_tree_Tree_raise #[x0_, x68] h62 fun x70 h69 =>
 BiP .neq x70 (.int .i64 0) fun x71 =>
 CdP x71
 (K x70 h69)
 (NilP x0_ fun x72 =>
 FaP (some 3) x72 fun x73 =>
 Fv 0 x73 h69 fun x75 =>
 BiP .add x75 (.int .i64 1) fun x76 =>
 NilP x0_ fun x77 =>
 FaP (some 3) x77 fun x78 =>
 FaP (some 0) x78 fun x79 =>
 StP x79 x76 h69 fun h80 =>
 K (.int .i64 0) h80))
 (LdA 3 x3_ h62 fun x81 =>
 Ca f_tree_Tree_drain #[x0_, x81] h62 fun x83 h82 =>
 K x83 h82))))))
def m_tree_Tree_Put (x0_ x1_ : Value) (h : Heap) (K : Kt) : Prop :=
 BxP t_api_Msg x1_ h fun x2 h1 =>
 Ca f_tree_Tree_none #[x0_] h1 fun x5 h4 =>
 CdP x5
 (K (.int .i64 1) h4)
 (LdA 3 x2 h4 fun x6 =>
 Ca f_tree_Tree_may #[x0_, x6] h4 fun x8 h7 =>
 UnP .not x8 fun x9 =>
 CdP x9
 (K (.int .i64 2) h7)
 (∃ X11 : XS,
 NilP x0_ fun x12 =>
 FaP (some 0) x12 fun x13 =>
 LdX X11 x13 h7 fun x14 =>
 NilP x0_ fun x15 =>
 FaP (some 1) x15 fun x16 =>
 LdX X11 x16 h7 fun x17 =>
 (Ca f_shelf_Shelf_Load #[x14, x17] h7 fun x19 h18 =>
 True ∧ (ExP x19 0 fun x20 =>
 ExP x19 1 fun x21 =>
 AlP t_api_Node zt_api_Node h18 fun x23 h22 =>
 Agr X11 h7 h22 ∧ (StA 5 x23 x20 h22 fun h24 =>
 True ∧ (m_tree_Tree_Put_j32 x0_ x2 x23 x21 h24 K)))) ∧
 (AlP t_api_Node zt_api_Node h7 fun x26 h25 =>
 Agr X11 h7 h25 ∧ (Ca f_shelf_Shelf_Load #[x14, x17] h25 fun x28 h27 =>
 True ∧ (ExP x28 0 fun x29 =>
 ExP x28 1 fun x30 =>
 StA 5 x26 x29 h27 fun h31 =>
 True ∧ (m_tree_Tree_Put_j32 x0_ x2 x26 x30 h31 K))))))
theorem m_tree_Tree_Put_ok {x0_ x1_ : Value} {h : Heap} {K : Kt} (hh : m_tree_Tree_Put x0_ x1_ h K) : Ca f_tree_Tree_Put #[x0_, x1_] h K := cv Tryz.func166 (by kernel_rfl) hh
def m_walk_Blocks (x0_ x1_ : Value) (h : Heap) (K : Kt) : Prop :=
 AlP t_S_uint32 zt_S_uint32 h fun x2 h1 =>
 Ca f_walk_All #[x0_, x1_, (.func (.func f_walk_Blocks_1) #[] #[x2])] h1 fun x4 h3 =>
 BiP .neq x4 (.int .i64 0) fun x5 =>
 CdP x5
 (K (.tuple #[(.slice none 0 0), x4]) h3)
 (LdP x2 h3 fun x6 =>
 Ca f_slices_Sort_uint32 #[x6] h3 fun x8 h7 =>
 LdP x2 h7 fun x9 =>
 K (.tuple #[x9, (.int .i64 0)]) h7)
theorem m_walk_Blocks_ok {x0_ x1_ : Value} {h : Heap} {K : Kt} (hh : m_walk_Blocks x0_ x1_ h K) : Ca f_walk_Blocks #[x0_, x1_] h K := cv Tryz.func180 (by kernel_rfl) hh
def m_tree_Tree_may_j38 (x4_ : Value) (h : Heap) (K : Kt) : Prop :=
 K x4_ h
def m_tree_Tree_may (x0_ x1_ : Value) (h : Heap) (K : Kt) : Prop :=
 BxP t_api_Msg x1_ h fun x2 h1 =>
 Fl 0 x0_ h1 fun x5 =>
 Ca f_shelf_Shelf_Config #[x5] h1 fun x7 h6 =>
 AlP t_api_Config zt_api_Config h6 fun x9 h8 =>
 StA 8 x9 x7 h8 fun h10 =>
 LdA 8 x9 h10 fun x12 =>
 Fv 0 x2 h10 fun x14 =>
 Ca f_node_Key #[x12, x14] h10 fun x16 h15 =>
 CdP x16
 (Fv 2 x2 h15 fun x18 =>
 LenP (some false) x18 fun x19 =>
 Fv 7 x9 h15 fun x21 =>
 BiP .leq x19 x21 fun x22 =>
 CdP x22
 (Fv 1 x2 h15 fun x25 =>
 CdP x25
 (Fv 2 x2 h15 fun x27 =>
 BiP .neq x27 (.string { data := #[] }) fun x28 =>
 UnP .not x28 fun x30 =>
 m_tree_Tree_may_j38 x30 h15 K)
 (UnP .not (.bool false) fun x33 =>
 m_tree_Tree_may_j38 x33 h15 K))
 (undef = undef ∧ (undef = undef ∧ (undef = undef ∧ (m_tree_Tree_may_j38 (.bool false) h15 K)))))
 (undef = undef ∧ (undef = undef ∧ (undef = undef ∧ (m_tree_Tree_may_j38 (.bool false) h15 K))))
theorem m_tree_Tree_may_ok {x0_ x1_ : Value} {h : Heap} {K : Kt} (hh : m_tree_Tree_may x0_ x1_ h K) : Ca f_tree_Tree_may #[x0_, x1_] h K := cv Tryz.func220 (by kernel_rfl) hh
def m_tree_Tree_direct_j62 (x0_ x4_ x7_ x10_ : Value) (h : Heap) (K : Kt) : Prop :=
 UnP .not x10_ fun x63 =>
 CdP x63
 (LdA 5 x4_ h fun x64 =>
 StA 5 x7_ x64 h fun h65 =>
 True ∧ (LdA 5 x7_ h65 fun x66 =>
 K (.tuple #[(.bool false), x66, (.int .i64 0)]) h65))
 (∃ X68 : XS,
 LaX X68 5 x4_ h fun x69 =>
 NilP x0_ fun x70 =>
 FaP (some 0) x70 fun x71 =>
 LdX X68 x71 h fun x72 =>
 NilP x0_ fun x73 =>
 FaP (some 1) x73 fun x74 =>
 LdX X68 x74 h fun x75 =>
 LaX X68 5 x4_ h fun x76 =>
 Ca f_shelf_Shelf_Save #[x72, x75, x76] h fun x78 h77 =>
 Agr X68 h h77 ∧ (StA 5 x7_ x69 h77 fun h79 =>
 True ∧ (LdA 5 x7_ h79 fun x80 =>
 K (.tuple #[(.bool true), x80, x78]) h79)))
def m_tree_Tree_direct_j54 (x0_ x4_ x5_ x7_ x10_ : Value) (h : Heap) (K : Kt) : Prop :=
 CdP x10_
 (Fv 3 x4_ h fun x56 =>
 LdA 3 x5_ h fun x57 =>
 Ca f_buf_Put #[x56, x57] h fun x59 h58 =>
 FaP (some 3) x4_ fun x60 =>
 StP x60 x59 h58 fun h61 =>
 m_tree_Tree_direct_j62 x0_ x4_ x7_ x10_ h61 K)
 (m_tree_Tree_direct_j62 x0_ x4_ x7_ x10_ h K)
def m_tree_Tree_direct (x0_ x1_ x2_ : Value) (h : Heap) (K : Kt) : Prop :=
 BxP t_api_Node x1_ h fun x2 h1 =>
 BxP t_api_Msg x2_ h1 fun x4 h3 =>
 AlP t_api_Node zt_api_Node h3 fun x6 h5 =>
 Fl 0 x0_ h5 fun x9 =>
 Ca f_shelf_Shelf_Config #[x9] h5 fun x11 h10 =>
 AlP t_api_Config zt_api_Config h10 fun x13 h12 =>
 StA 8 x13 x11 h12 fun h14 =>
 Fv 0 x2 h14 fun x17 =>
 BiP .eql x17 (.int .i64 0) fun x18 =>
 CdP x18
 (Fv 4 x2 h14 fun x20 =>
 LdA 3 x4 h14 fun x21 =>
 BsP st_S_api_Msg 1 [(0, x21)] h14 fun x23 h22 =>
 Ca f_leaf_Apply #[x20, x23] h22 fun x25 h24 =>
 FaP (some 4) x2 fun x26 =>
 StP x26 x25 h24 fun h27 =>
 Fv 4 x2 h27 fun x29 =>
 LenP (some true) x29 fun x30 =>
 Fv 5 x13 h27 fun x32 =>
 BiP .leq x30 x32 fun x33 =>
 m_tree_Tree_direct_j62 x0_ x2 x6 x33 h27 K)
 (Fv 3 x2 h14 fun x35 =>
 Fv 0 x4 h14 fun x37 =>
 Ca f_buf_Find #[x35, x37] h14 fun x39 h38 =>
 ExP x39 0 fun x40 =>
 ExP x39 1 fun x41 =>
 AlP t_api_Msg zt_api_Msg h38 fun x43 h42 =>
 StA 3 x43 x40 h42 fun h44 =>
 CdP x41
 (m_tree_Tree_direct_j54 x0_ x2 x4 x6 (.bool true) h44 K)
 (Fv 3 x2 h44 fun x48 =>
 LenP (some true) x48 fun x49 =>
 Fv 4 x13 h44 fun x51 =>
 BiP .lss x49 x51 fun x52 =>
 m_tree_Tree_direct_j54 x0_ x2 x4 x6 x52 h44 K))
theorem m_tree_Tree_direct_ok {x0_ x1_ x2_ : Value} {h : Heap} {K : Kt} (hh : m_tree_Tree_direct x0_ x1_ x2_ h K) : Ca f_tree_Tree_direct #[x0_, x1_, x2_] h K := cv Tryz.func221 (by kernel_rfl) hh
def m_walk_All (x0_ x1_ x2_ : Value) (h : Heap) (K : Kt) : Prop :=
 VH Pg (Instr.makeMap t_M_uint32_bool none) h fun x2 h1 =>
 BlP bt_walk_walker [(0, x0_), (1, x2), (2, x2_)] fun x3 =>
 BxP t_walk_walker x3 h1 fun x5 h4 =>
 Ca f_lex_All #[] h4 fun x7 h6 =>
 Ca f_walk_walker_visit #[x5, x1_, (.int .i64 (-1)), x7] h6 fun x9 h8 =>
 K x9 h8
theorem m_walk_All_ok {x0_ x1_ x2_ : Value} {h : Heap} {K : Kt} (hh : m_walk_All x0_ x1_ x2_ h K) : Ca f_walk_All #[x0_, x1_, x2_] h K := cv Tryz.func231 (by kernel_rfl) hh
def m_walk_Blocks_1 (x0_ x1_ x2_ x3_ : Value) (h : Heap) (K : Kt) : Prop :=
 BxP t_api_Node x1_ h fun x2 h1 =>
 BxP t_api_Span x2_ h1 fun x4 h3 =>
 LdP x3_ h3 fun x5 =>
 BsP st_S_uint32 1 [(0, x0_)] h3 fun x7 h6 =>
 VH Pg (Builtin.append_ #[t_S_uint32, t_S_uint32] t_S_uint32 #[x5, x7]) h6 fun x9 h8 =>
 StP x3_ x9 h8 fun h10 =>
 K (.bool true) h10
theorem m_walk_Blocks_1_ok {x0_ x1_ x2_ x3_ : Value} {h : Heap} {K : Kt} (hh : m_walk_Blocks_1 x0_ x1_ x2_ x3_ h K) : Ca f_walk_Blocks_1 #[x0_, x1_, x2_, x3_] h K := cv Tryz.func232 (by kernel_rfl) hh
def m_walk_walker_visit_j122 (h : Heap) (K : Kt) : Prop :=
 K (.int .i64 0) h
def m_walk_walker_visit_l90 (vs : List Value) (x0_ x7_ x9_ x83_ x84_ : Value) (h : Heap) (nx91 : Nt) (K : Kt) : Prop :=
 BiP .lss (gv vs 1) x84_ fun x92 =>
 CdP x92
 (Ei 1 x83_ (gv vs 1) h fun x95 =>
 Fl 3 x0_ h fun x98 =>
 CdP x98
 (m_walk_walker_visit_j122 h K)
 (Fv 2 x9_ h fun x100 =>
 LdA 3 x7_ h fun x101 =>
 Ca f_fan_Span #[x100, (gv vs 1), x101] h fun x103 h102 =>
 ExP x103 0 fun x104 =>
 ExP x103 1 fun x105 =>
 AlP t_api_Span zt_api_Span h102 fun x107 h106 =>
 StA 3 x107 x104 h106 fun h108 =>
 Fl 1 x0_ h108 fun x111 =>
 VH Pg (Instr.lookup t_M_uint32_bool x111 x95 false) h108 fun x113 h112 =>
 CdP x113
 (K (.int .i64 12) h112)
 (Fv 0 x9_ h112 fun x115 =>
 BiP .sub x115 (.int .i64 1) fun x116 =>
 LdA 3 x107 h112 fun x117 =>
 Ca f_walk_walker_visit #[x0_, x95, x116, x117] h112 fun x119 h118 =>
 BiP .neq x119 (.int .i64 0) fun x120 =>
 CdP x120
 (K x119 h118)
 (BiP .add (gv vs 1) (.int .i64 1) fun x121 =>
 nx91 [(gv vs 0), x121] h118))))
 (m_walk_walker_visit_j122 h K)
def m_walk_walker_visit_j85 (x0_ x7_ x9_ : Value) (h : Heap) (K : Kt) : Prop :=
 Fv 1 x9_ h fun x88 =>
 LenP (some true) x88 fun x89 =>
 LoP (fun vt h nx91 => m_walk_walker_visit_l90 vt x0_ x7_ x9_ x88 x89 h nx91 K) [(.int .i64 0), (.int .i64 0)] h
def m_walk_walker_visit_j81 (x0_ x7_ x9_ x78_ : Value) (h : Heap) (K : Kt) : Prop :=
 CdP x78_
 (Fs 3 x0_ (.bool true) h fun h84 =>
 m_walk_walker_visit_j85 x0_ x7_ x9_ h84 K)
 (m_walk_walker_visit_j85 x0_ x7_ x9_ h K)
def m_walk_walker_visit_j56 (x0_ x1_ x7_ x9_ : Value) (h : Heap) (K : Kt) : Prop :=
 Fl 1 x0_ h fun x59 =>
 UH Pg (Instr.mapUpdate t_M_uint32_bool x59 x1_ (.bool true)) h fun h60 =>
 ∃ X63 : XS,
 NilP x0_ fun x64 =>
 FaP (some 2) x64 fun x65 =>
 LdX X63 x65 h60 fun x66 =>
 EqP .neq t_func_ca11b6 (.tmp 65) (.const .nilFunc) x66 .nilFunc h60 fun x68 h67 =>
 Agr X63 h60 h67 ∧ (CdP x68
 (NilP x0_ fun x69 =>
 FaP (some 2) x69 fun x70 =>
 LdX X63 x70 h60 fun x71 =>
 LaX X63 5 x9_ h60 fun x72 =>
 LaX X63 3 x7_ h60 fun x73 =>
 Ca f_node_Clone #[x72] h67 fun x75 h74 =>
 Agr X63 h60 h74 ∧ (CvH Pg x71 #[x1_, x75, x73] h74 fun x77 h76 =>
 True ∧ (UnP .not x77 fun x78 =>
 m_walk_walker_visit_j81 x0_ x7_ x9_ x78 h76 K)))
 (m_walk_walker_visit_j81 x0_ x7_ x9_ (.bool false) h67 K))
def m_walk_walker_visit_j55 (x0_ x1_ x7_ x9_ x29_ : Value) (h : Heap) (K : Kt) : Prop :=
 CdP x29_
 (K (.int .i64 12) h)
 (m_walk_walker_visit_j56 x0_ x1_ x7_ x9_ h K)
def m_walk_walker_visit (x0_ x1_ x2_ x3_ : Value) (h : Heap) (K : Kt) : Prop :=
 BxP t_api_Span x3_ h fun x2 h1 =>
 Fl 0 x0_ h1 fun x5 =>
 Ca f_shelf_Shelf_Load #[x5, x1_] h1 fun x7 h6 =>
 ExP x7 0 fun x8 =>
 ExP x7 1 fun x9 =>
 AlP t_api_Node zt_api_Node h6 fun x11 h10 =>
 StA 5 x11 x8 h10 fun h12 =>
 BiP .neq x9 (.int .i64 0) fun x14 =>
 CdP x14
 (K x9 h12)
 (∃ X16 : XS,
 NilP x0_ fun x17 =>
 FaP (some 1) x17 fun x18 =>
 LdX X16 x18 h12 fun x19 =>
 VH Pg (Instr.lookup t_M_uint32_bool x19 x1_ false) h12 fun x21 h20 =>
 Agr X16 h12 h20 ∧ (CdP x21
 (undef = undef ∧ (undef = undef ∧ (undef = undef ∧ (undef = undef ∧ (m_walk_walker_visit_j55 x0_ x1_ x2 x11 (.bool true) h20 K)))))
 (BiP .geq x2_ (.int .i64 0) fun x24 =>
 CdP x24
 (FaP (some 0) x11 fun x25 =>
 LdX X16 x25 h12 fun x26 =>
 BiP .neq x26 x2_ fun x27 =>
 CdP x27
 (m_walk_walker_visit_j55 x0_ x1_ x2 x11 (.bool true) h20 K)
 (NilP x0_ fun x31 =>
 FaP (some 0) x31 fun x32 =>
 LdX X16 x32 h12 fun x33 =>
 LaX X16 3 x2 h12 fun x34 =>
 LaX X16 5 x11 h12 fun x35 =>
 Ca f_shelf_Shelf_Config #[x33] h20 fun x37 h36 =>
 Agr X16 h12 h36 ∧ (Ca f_node_Right #[x37, x34, x35] h36 fun x39 h38 =>
 True ∧ (UnP .not x39 fun x40 =>
 m_walk_walker_visit_j55 x0_ x1_ x2 x11 x40 h38 K))))
 (NilP x0_ fun x44 =>
 FaP (some 0) x44 fun x45 =>
 LdX X16 x45 h12 fun x46 =>
 LaX X16 3 x2 h12 fun x47 =>
 LaX X16 5 x11 h12 fun x48 =>
 Ca f_shelf_Shelf_Config #[x46] h20 fun x50 h49 =>
 Agr X16 h12 h49 ∧ (Ca f_node_Right #[x50, x47, x48] h49 fun x52 h51 =>
 True ∧ (UnP .not x52 fun x53 =>
 m_walk_walker_visit_j55 x0_ x1_ x2 x11 x53 h51 K))))))
theorem m_walk_walker_visit_ok {x0_ x1_ x2_ x3_ : Value} {h : Heap} {K : Kt} (hh : m_walk_walker_visit x0_ x1_ x2_ x3_ h K) : Ca f_walk_walker_visit #[x0_, x1_, x2_, x3_] h K := cv Tryz.func271 (by kernel_rfl) hh
end Go.Sg
namespace Go.Sg
open Go Vc
def padOf (s : Str) (n : Nat) : Str := s ++ List.replicate (n - s.length) 0
def pairOf (c : Config) (key val : Str) : List UInt8 := bytesOf 1 key.length ++ bytesOf 2 val.length ++ padOf key c.key.toNat ++ padOf val c.val.toNat
def frontOf (kind level count buf : Nat) : List UInt8 := bytesOf 1 kind ++ bytesOf 1 level ++ bytesOf 2 count ++ bytesOf 2 buf ++ bytesOf 2 0
def outerOf (c : Config) (n : Node) : List UInt8 := frontOf 1 0 n.pairs.length 0 ++ n.pairs.flatMap fun p => pairOf c p.key p.val
section
variable {h : Heap} {K : Kt} {v : Value} {l : List UInt8} {c : Config}
theorem c_code_num {w x : Nat} (o : Ow 0 t_uint8 h v l) (hw : w = 1 ∨ w = 2 ∨ w = 4 ∨ w = 8) (hx : x < 2 ^ 64) (hl : l.length ≤ 2 ^ 39) (r : ∀ v' h', Ow 0 t_uint8 h' v' (l ++ bytesOf w x) → Bld h v h' v' → K v' h') :
    Ca f_code_num #[v, int w, .int .u64 x] h K := by
  refine m_code_num_ok (c_word_Put (Sl.nil No h) hw hx (by simp) fun y h1 o1 e1 => ?_)
  rw [List.nil_append] at o1
  refine bld_app (o.ext e1) (o1.sl (U := No) fun _ _ h => h) (by rw [bytesOf_length]; omega) fun v' h2 o2 b2 => ?_
  exact r v' h2 o2 ((Bld.ext e1).trans b2)
theorem c_code_text {s : Str} {n : Nat} (o : Ow 0 t_uint8 h v l) (hs : s.length ≤ n) (hn : n ≤ 2 ^ 30) (hl : l.length ≤ 2 ^ 39) (r : ∀ v' h', Ow 0 t_uint8 h' v' (l ++ padOf s n) → Bld h v h' v' → K v' h') :
    Ca f_code_text #[v, str s, int n] h K := by
  refine m_code_text_ok (bld_str o (by omega) fun v1 h1 o1 b1 => ?_)
  rw [LenP_str]
  refine sub64 (by omega) ?_
  have e : (n : Int) - (s.length : Int) = ((n - s.length : Nat) : Int) := by omega
  rw [e]
  refine bld_zer o1 (by simp; omega) fun v2 h2 o2 b2 => ?_
  rw [List.append_assoc] at o2
  exact r v2 h2 o2 (b1.trans b2)
theorem c_code_pair {key val : Str} (o : Ow 0 t_uint8 h v l) (hc : c.Sized) (hk : (key.length : Int) ≤ c.key) (hv : (val.length : Int) ≤ c.val) (hl : l.length ≤ 2 ^ 38) (r : ∀ v' h', Ow 0 t_uint8 h' v' (l ++ pairOf c key val) → Bld h v h' v' → K v' h') :
    Ca f_code_pair #[c.v, v, str key, str val] h K := by
  unfold Config.Sized at hc
  have hob : ∀ b, v.ownBlock = some b → b < h.size := fun b hb => by
    rcases o with ⟨q, _⟩ | ⟨g, cap, cur, q1, q2, q3, q4⟩
    · rw [q] at hb; cases hb
    · rw [q1] at hb; cases hb; exact (Array.getElem?_eq_some_iff.1 q3).1
  refine m_code_pair_ok (bxa (cs := c.cs) fun b h1 e1 hb k1 _ => ?_)
  have hvb : v.ownBlock ≠ some b := fun he => by have := hob b he; omega
  rw [LenP_str, CvP_int, wrapU rfl (by omega) (by show _ < (2 : Int) ^ 64; omega)]
  refine c_code_num (w := 1) (o.ext e1) (.inl rfl) (by omega) (by omega) fun v2 h2 o2 b2 => ?_
  rw [LenP_str, CvP_int, wrapU rfl (by omega) (by show _ < (2 : Int) ^ 64; omega)]
  refine c_code_num (w := 2) o2 (.inr (.inl rfl)) (by omega) (by simp [bytesOf_length]; omega) fun v3 h3 o3 b3 => ?_
  have b13 := b2.trans b3
  have k3 := b13.blk k1 hvb
  refine ⟨fun b' _ => b' = b, ?_⟩
  rw [FaP_ptr]
  refine LdX_b (v := int c.key) k3 rfl (fun _ => rfl) ?_
  rw [FaP_ptr]
  refine LdX_b (v := int c.val) k3 rfl (fun _ => rfl) ?_
  have ek : c.key = (c.key.toNat : Int) := by omega
  have ev : c.val = (c.val.toNat : Int) := by omega
  rw [ek, ev]
  refine c_code_text o3 (by omega) (by omega) (by simp [bytesOf_length]; omega) fun v4 h4 o4 b4 => ⟨?_, ?_⟩
  · have hv3 := b13.ne (b := b) (by have := k1.lt; exact this) hvb
    exact agr_b b4.ex k3.lt hv3
  refine c_code_text o4 (by omega) (by omega) (by simp [bytesOf_length, padOf]; omega) fun v5 h5 o5 b5 => ⟨trivial, ?_⟩
  refine r v5 h5 ?_ (((Bld.ext e1).trans b13).trans (b4.trans b5))
  have : l ++ bytesOf 1 key.length ++ bytesOf 2 val.length ++ padOf key c.key.toNat ++ padOf val c.val.toNat = l ++ pairOf c key val := by simp [pairOf, List.append_assoc]
  rw [this] at o5; exact o5
theorem c_code_front {a b d e : Nat} (ha : a < 256) (hb : b < 2 ^ 60) (hd : d < 2 ^ 60) (he : e < 2 ^ 60) (r : ∀ v' h', Ow 0 t_uint8 h' v' (frontOf a b d e) → Bld h (.slice none 0 0) h' v' → K v' h') :
    Ca f_code_front #[int a, int b, int d, int e] h K := by
  refine m_code_front_ok ?_
  unfold m_code_front
  rw [CvP_int, wrapU rfl (by omega) (by show _ < (2 : Int) ^ 64; omega)]
  refine c_code_num (w := 1) (Ow.nil 0 t_uint8 h) (.inl rfl) (by omega) (by simp) fun v1 h1 o1 b1 => ?_
  rw [CvP_int, wrapU rfl (by omega) (by show _ < (2 : Int) ^ 64; omega)]
  refine c_code_num (w := 1) o1 (.inl rfl) (by omega) (by simp [bytesOf_length]) fun v2 h2 o2 b2 => ?_
  rw [CvP_int, wrapU rfl (by omega) (by show _ < (2 : Int) ^ 64; omega)]
  refine c_code_num (w := 2) o2 (.inr (.inl rfl)) (by omega) (by simp [bytesOf_length]) fun v3 h3 o3 b3 => ?_
  rw [CvP_int, wrapU rfl (by omega) (by show _ < (2 : Int) ^ 64; omega)]
  refine c_code_num (w := 2) o3 (.inr (.inl rfl)) (by omega) (by simp [bytesOf_length]) fun v4 h4 o4 b4 => ?_
  refine c_code_num (w := 2) (x := 0) o4 (.inr (.inl rfl)) (by omega) (by simp [bytesOf_length]) fun v5 h5 o5 b5 => ?_
  exact r v5 h5 (by simpa [frontOf] using o5) ((((b1.trans b2).trans b3).trans b4).trans b5)
theorem pair_len (hc : c.Sized) {k v : Str} (hk : (k.length : Int) ≤ c.key) (hv : (v.length : Int) ≤ c.val) : (pairOf c k v).length = 3 + c.key.toNat + c.val.toNat := by
  unfold Config.Sized at hc
  simp [pairOf, padOf, bytesOf_length]; omega
theorem pairs_len (hc : c.Sized) : ∀ (l : List Pair), (∀ p ∈ l, (p.key.length : Int) ≤ c.key ∧ (p.val.length : Int) ≤ c.val) → (l.flatMap fun p => pairOf c p.key p.val).length = l.length * (3 + c.key.toNat + c.val.toNat)
  | [], _ => by simp
  | p :: l, h => by
    rw [List.flatMap_cons, List.length_append, pairs_len hc l (fun q hq => h q (by simp [hq])), pair_len hc (h p (by simp)).1 (h p (by simp)).2, List.length_cons, Nat.add_mul]; omega
theorem c_code_writeOuter {U : Nat → Prop} {n : Node} {x : Value} (d : Nd U h x n) (hc : c.Sized) (hl : n.pairs.length ≤ 1024) (hp : ∀ p ∈ n.pairs, (p.key.length : Int) ≤ c.key ∧ (p.val.length : Int) ≤ c.val)
    (r : ∀ v' h', Ow h.size t_uint8 h' v' (outerOf c n) → Ext h h' → K v' h') : Ca f_code_writeOuter #[c.v, x] h K := by
  obtain ⟨vk, vp, vb, vl, rfl, q1, q2, q3, q4⟩ := d.out
  have hs := hc
  unfold Config.Sized at hs
  refine m_code_writeOuter_ok (bxa (cs := c.cs) fun b1 h1 e1 hb1 k1 _ => bxa (cs := [int n.level, vk, vp, vb, vl]) fun b2 h2 e2 hb2 k2 _ => ?_)
  have k1 := k1.ext e2
  have e12 := e1.trans e2
  refine fv (by rw [k2.get]; rfl) ((q4.ext e12).len ?_)
  refine c_code_front (a := 1) (b := 0) (d := n.pairs.length) (e := 0) (by omega) (by omega) (by omega) (by omega) fun v3 h3 o3 b3 => ?_
  have e3 : Ext h2 h3 := b3.new rfl
  have k1 := k1.ext e3
  have k2 := k2.ext e3
  have e13 := e12.trans e3
  have s3 := q4.ext e13
  refine fv (by rw [k2.get]; rfl) (s3.len ?_)
  refine lop (σ := Nat × Value) (fun p => [p.2, int p.1]) (fun p h' => p.1 ≤ n.pairs.length ∧ Ow 0 t_uint8 h' p.2 (frontOf 1 0 n.pairs.length 0 ++ (n.pairs.take p.1).flatMap fun p => pairOf c p.key p.val) ∧ Bld h3 v3 h' p.2) (fun p => n.pairs.length - p.1) (0, v3) rfl ⟨Nat.zero_le _, by simpa using o3, Bld.refl _ _⟩ ?_
  rintro ⟨i, v⟩ h4 N ⟨hi, o4, b4⟩ hN
  simp only at hi o4 b4
  simp only [m_code_writeOuter_l14, gv_zero, gv_succ]
  rw [BiP_lss]
  have hv3 : ∀ b, v3.ownBlock = some b → h2.size ≤ b := fun b hb => by
    rcases b3.at_ with h | ⟨c, h, hc⟩
    · rw [h] at hb; cases hb
    · rw [h] at hb; cases hb; exact hc
  have nb : ∀ b, b < h2.size → v3.ownBlock ≠ some b := fun b hb he => by have := hv3 b he; omega
  have e34 : Ex (fun b => h2.size ≤ b) h3 h4 := b4.ex.mono fun b _ hb => hv3 b hb
  have e24 : Ext h2 h4 := e3.own e34 (Nat.le_refl _)
  refine cdp (fun hlt => ?_) (fun hge => ?_)
  · have hlt : i < n.pairs.length := by omega
    have hp1 := hp n.pairs[i] (List.getElem_mem hlt)
    have s4 := (q4.ext e12).ext e24
    refine s4.ea (x := n.pairs[i]) (by omega) (by rw [Int.toNat_natCast]; exact List.getElem?_eq_getElem hlt) ?_
    refine alst (vs := El.enc n.pairs[i]) rfl rfl rfl fun b5 h5 e5 hb5 k5 _ => ?_
    have k14 := (b4.blk k1 (nb b1 (by have := e2.le; omega))).ext e5
    refine (LdA_b k14 rfl).2 ?_
    refine fv (by rw [k5.get]; rfl) (fv (by rw [k5.get]; rfl) ?_)
    have hlen : (frontOf 1 0 n.pairs.length 0 ++ (n.pairs.take i).flatMap fun p => pairOf c p.key p.val).length ≤ 2 ^ 38 := by
      rw [List.length_append, pairs_len hc _ (fun p hp' => hp p (List.mem_of_mem_take hp')), List.length_take]
      have : min i n.pairs.length * (3 + c.key.toNat + c.val.toNat) ≤ 1024 * 323 := Nat.mul_le_mul (by omega) (by omega)
      simp [frontOf, bytesOf_length]; omega
    refine c_code_pair (o4.ext e5) hc hp1.1 hp1.2 hlen fun v6 h6 o6 b6 => ?_
    refine add64 (by omega) ?_
    have := hN (i + 1, v6) h6 ⟨by show i + 1 ≤ _; omega, ?_, (b4.trans (Bld.ext e5)).trans b6⟩ (by simp only; omega)
    · simpa using this
    · rw [List.append_assoc] at o6
      have ht : (n.pairs.take i).flatMap (fun p => pairOf c p.key p.val) ++ pairOf c n.pairs[i].key n.pairs[i].val = (n.pairs.take (i + 1)).flatMap fun p => pairOf c p.key p.val := by
        have h1 : n.pairs.take (i + 1) = n.pairs.take i ++ [n.pairs[i]] := by rw [List.take_add_one, List.getElem?_eq_getElem hlt]; rfl
        rw [h1, List.flatMap_append]; simp
      rw [ht] at o6; exact o6
  · have hin : i = n.pairs.length := by omega
    subst hin
    rw [List.take_length] at o4
    unfold m_code_writeOuter_j31
    refine r v h4 ?_ (e12.trans e24)
    refine o4.anew fun b hb => ?_
    have := e12.le
    rcases b4.at_ with h | ⟨c, h, hc⟩
    · rw [h] at hb; have := hv3 b hb; omega
    · rw [h] at hb; cases hb; have := e3.le; omega
end
end Go.Sg
namespace Go.Sg
open Go Vc
theorem num_fold (v : Nat) : ∀ (w a : Nat), (bytesOf w v).foldl (fun v c => v * 256 + c.toNat) a = a * 256 ^ w + v % 256 ^ w
  | 0, a => by simp [bytesOf, Nat.mod_one]
  | w + 1, a => by
    rw [bytesOf, List.foldl_cons, num_fold v w]
    have h1 : (UInt8.ofNat (v / 256 ^ w)).toNat = v / 256 ^ w % 256 := by simp
    have h2 : v % 256 ^ (w + 1) = v % 256 ^ w + 256 ^ w * (v / 256 ^ w % 256) := by rw [Nat.pow_succ, Nat.mod_mul]
    rw [h1, h2, Nat.pow_succ, Nat.add_mul, Nat.mul_assoc, Nat.mul_comm (256 ^ w) 256, Nat.mul_comm (256 ^ w) (v / 256 ^ w % 256)]
    omega
theorem num_bytes {w v : Nat} (hv : v < 256 ^ w) : numOf (bytesOf w v) = v := by
  unfold numOf
  rw [num_fold, Nat.mod_eq_of_lt hv]; omega
theorem raw_app (a b : List UInt8) : rawOf (a ++ b) 0 a.length = (a, b, 0) := by
  unfold rawOf
  rw [if_neg (by simp), if_pos (by simp), List.take_left, List.drop_left]
theorem raw_bytes (w v : Nat) (b : List UInt8) : rawOf (bytesOf w v ++ b) 0 w = (bytesOf w v, b, 0) := by
  have := raw_app (bytesOf w v) b
  rwa [bytesOf_length] at this
theorem text_pad (s : Str) (n : Nat) (hn : s.length ≤ n) (b : List UInt8) : textOf (padOf s n ++ b) 0 s.length n = (s, b, 0) := by
  have hl : (padOf s n).length = n := by simp [padOf]; omega
  have hr := raw_app (padOf s n) b
  rw [hl] at hr
  unfold textOf
  rw [if_neg (by omega), hr]
  simp only
  rw [if_neg (by omega)]
  have hd : (padOf s n).drop s.length = List.replicate (n - s.length) 0 := by unfold padOf; rw [List.drop_left]
  have ht : (padOf s n).take s.length = s := by unfold padOf; rw [List.take_left]
  rw [hd, ht, if_neg]
  simp
theorem zeros_app (n : Nat) (b : List UInt8) : zerosOf (List.replicate n 0 ++ b) 0 n = (b, 0) := by
  have hr := raw_app (List.replicate n (0 : UInt8)) b
  rw [List.length_replicate] at hr
  unfold zerosOf
  rw [hr]
  simp only
  rw [if_neg]
  simp
section
variable {h : Heap} {K : Kt} {U : Nat → Prop} {x y : Value} {rb : Nat} {l : List UInt8} {c : Config} {n : Node}
theorem c_Equal_byte {m : List UInt8} (s : Sl U h x l) (s2 : Sl U h y m) (hl : l.length ≤ 2 ^ 40) (he : l = m) (r : K (.bool true) h) : Ca f_slices_Equal_byte #[x, y] h K := by
  subst he
  refine m_slices_Equal_byte_ok (s.len (s2.len ?_))
  rw [BiP_neq]
  refine cdp (fun h => absurd rfl h) fun _ => ?_
  refine s.len ?_
  refine lop (σ := Nat) (fun i => [.bool false, int i]) (fun i h' => h' = h ∧ i ≤ l.length) (fun i => l.length - i) 0 rfl ⟨rfl, Nat.zero_le _⟩ ?_
  rintro i h1 N ⟨rfl, hi⟩ hN
  simp only [m_slices_Equal_byte_l6, gv_zero, gv_succ]
  rw [BiP_lss]
  refine cdp (fun hlt => ?_) (fun hge => r)
  have hlt : i < l.length := by omega
  have hx := List.getElem?_eq_getElem hlt
  refine s.ei (x := l[i]) (by omega) (by rw [Int.toNat_natCast]; exact hx) rfl (s2.ei (x := l[i]) (by omega) (by rw [Int.toNat_natCast]; exact hx) rfl ?_)
  rw [BiP_neq]
  refine cdp (fun h => absurd rfl h) fun _ => ?_
  refine add64 (by omega) ?_
  have := hN (i + 1) h1 ⟨rfl, by omega⟩ (by omega)
  simpa using this
theorem c_Num {w v : Nat} {rest : List UInt8} (rd : Rd rb h (bytesOf w v ++ rest) 0) (hw : w = 1 ∨ w = 2 ∨ w = 4 ∨ w = 8) (hv : v < 256 ^ w) (r : ∀ h', Rd rb h' rest 0 → Ex (only rb) h h' → K (.int .u64 v) h') : Ca f_word_Reader_Num #[ptr rb 0, int w] h K := by
  refine c_word_Num rd hw fun h' rd' e' => ?_
  rw [raw_bytes] at rd' ⊢
  simp only at rd' ⊢
  rw [num_bytes hv]
  exact r h' rd' e'
theorem c_Text {s : Str} {m : Nat} {rest : List UInt8} (rd : Rd rb h (padOf s m ++ rest) 0) (hs : s.length ≤ m) (hm : m ≤ 2 ^ 24) (r : ∀ h', Rd rb h' rest 0 → Ex (only rb) h h' → K (str s) h') : Ca f_word_Reader_Text #[ptr rb 0, int s.length, int m] h K := by
  refine c_word_Text rd hm (by omega) fun h' rd' e' => ?_
  rw [text_pad s m hs] at rd' ⊢
  exact r h' rd' e'
theorem c_code_readPair {key val : Str} {rest : List UInt8} (rd : Rd rb h (pairOf c key val ++ rest) 0) (hc : c.Sized) (hk : (key.length : Int) ≤ c.key) (hv : (val.length : Int) ≤ c.val) (r : ∀ h', Rd rb h' rest 0 → Ex (only rb) h h' → K (.tuple #[str key, str val]) h') :
    Ca f_code_readPair #[c.v, ptr rb 0] h K := by
  have hs := hc
  unfold Config.Sized at hs
  have hrb := rd.ne
  refine m_code_readPair_ok (bxa (cs := c.cs) fun b h1 e1 hb k1 _ => ?_)
  have hbr : b ≠ rb := by omega
  have rd1 := rd.ext e1
  unfold pairOf at rd1
  simp only [List.append_assoc] at rd1
  refine c_Num (w := 1) rd1 (.inl rfl) (by omega) fun h2 rd2 e2 => ?_
  rw [CvP_int, wrap64 (by omega) (by omega)]
  refine c_Num (w := 2) rd2 (.inr (.inl rfl)) (by omega) fun h3 rd3 e3 => ?_
  rw [CvP_int, wrap64 (by omega) (by omega)]
  have k3 := (k1.ex e2 hbr).ex e3 hbr
  refine ⟨fun b' _ => b' = b, ?_⟩
  rw [FaP_ptr]
  refine LdX_b (v := int c.key) k3 rfl (fun _ => rfl) ?_
  rw [FaP_ptr]
  refine LdX_b (v := int c.val) k3 rfl (fun _ => rfl) ?_
  have ek : c.key = (c.key.toNat : Int) := by omega
  have ev : c.val = (c.val.toNat : Int) := by omega
  rw [ek, ev]
  refine c_Text rd3 (by omega) (by omega) fun h4 rd4 e4 => ⟨agr_b e4 k3.lt hbr, ?_⟩
  refine c_Text rd4 (by omega) (by omega) fun h5 rd5 e5 => ⟨trivial, ?_⟩
  exact r h5 rd5 ((((Ex.toM e1).trans e2).trans e3).trans e4 |>.trans e5)
theorem c_code_readOuter {ps : List Pair} {rest : List UInt8} (rd : Rd rb h ((ps.flatMap fun p => pairOf c p.key p.val) ++ rest) 0) (hc : c.Sized) (hl : (ps.length : Int) ≤ c.leaf) (hp : ∀ p ∈ ps, (p.key.length : Int) ≤ c.key ∧ (p.val.length : Int) ≤ c.val)
    (r : ∀ y h', Ow h.size t_api_Pair h' y ps → Rd rb h' rest 0 → Ex (only rb) h h' → K (.agg #[int 0, .slice none 0 0, .slice none 0 0, .slice none 0 0, y]) h') :
    Ca f_code_readOuter #[c.v, ptr rb 0, int ps.length] h K := by
  have hs := hc
  unfold Config.Sized at hs
  have hrb := rd.ne
  refine m_code_readOuter_ok (bxa (cs := c.cs) fun b1 h1 e1 hb1 k1 _ => ala (cs := [int 0, .slice none 0 0, .slice none 0 0, .slice none 0 0, .slice none 0 0]) fun b2 h2 e2 hb2 k2 _ => ?_)
  refine ⟨_, #[int 0, .slice none 0 0, .slice none 0 0, .slice none 0 0, .slice none 0 0], rfl, rfl, ?_⟩
  refine alst (vs := [int 0, .slice none 0 0, .slice none 0 0, .slice none 0 0, .slice none 0 0]) rfl rfl rfl fun b3 h3 e3 hb3 k3 _ => ?_
  have e13 := (e1.trans e2).trans e3
  have k1 := (k1.ext e2).ext e3
  have k2 := k2.ext e3
  refine fv (by rw [k1.get]; rfl) ?_
  refine min_int ?_
  have hmin : min (ps.length : Int) c.leaf = ps.length := by omega
  rw [hmin]
  have h12 := e1.le
  have h23 := e2.le
  have h34 := e3.le
  refine lop (σ := Nat × Value) (fun p => [int p.1]) (fun p h' => p.1 ≤ ps.length ∧ Blk h' b1 c.cs ∧ Blk h' b2 [int 0, .slice none 0 0, .slice none 0 0, .slice none 0 0, .slice none 0 0] ∧ Blk h' b3 [int 0, .slice none 0 0, .slice none 0 0, .slice none 0 0, p.2] ∧ Ow h3.size t_api_Pair h' p.2 (ps.take p.1) ∧
    Rd rb h' (((ps.drop p.1).flatMap fun p => pairOf c p.key p.val) ++ rest) 0 ∧ Ex (fun b => b = rb ∨ b = b3) h3 h' ∧ p.2.oneCell' = true) (fun p => ps.length - p.1) (0, .slice none 0 0) rfl ⟨Nat.zero_le _, k1, k2, k3, Ow.nil _ _ _, rd.ext e13, Ex.refl _ _, rfl⟩ ?_
  rintro ⟨i, v⟩ h4 N ⟨hi, k14, k24, k34, o4, rd4, e4, hv1⟩ hN
  simp only at hi k34 o4 rd4 hv1
  simp only [m_code_readOuter_l14, gv_zero, gv_succ]
  rw [BiP_lss]
  refine cdp (fun hlt => ?_) (fun hge => ?_)
  · have hlt : i < ps.length := by omega
    have hp1 := hp ps[i] (List.getElem_mem hlt)
    refine (LdA_b k14 rfl).2 ?_
    rw [List.drop_eq_getElem_cons hlt, List.flatMap_cons, List.append_assoc] at rd4
    refine c_code_readPair rd4 hc hp1.1 hp1.2 fun h5 rd5 e5 => ?_
    rw [ex20, ex21]
    have k15 := k14.ex e5 (by omega : ¬ b1 = rb)
    have k25 := k24.ex e5 (by omega : ¬ b2 = rb)
    have k35 := k34.ex e5 (by omega : ¬ b3 = rb)
    refine fv (by rw [k35.get]; rfl) ?_
    refine ⟨_, #[str ps[i].key, str ps[i].val], rfl, rfl, ?_⟩
    refine bs (n0 := h5.size) (e := t_api_Pair) (zs := #[str [], str []]) [ps[i]] rfl (Nat.le_refl _) rfl (by decide) (cs := #[str ps[i].key, str ps[i].val]) (by kernel_rfl) rfl fun v6 h6 o6 e6 => ?_
    have s6 : Sl No h6 v6 [ps[i]] := o6.sl fun _ _ h => h
    have o5 : Ow h3.size t_api_Pair h6 v (ps.take i) := (o4.ex e5 (fun b hb _ hx => by have hx : b = rb := hx; omega)).ext e6
    have hle5 : h3.size ≤ h6.size := by have := e4.le; have := e5.le; have := e6.le; omega
    refine app T_Pair o5 s6 hle5 (by rw [List.length_take]; simp; omega) (by decide) fun v7 h7 o7 e7 _ => ?_
    have k37 := (k35.ext e6).ex e7 (by omega : ¬ h3.size ≤ b3)
    have hv7 : v7.oneCell' = true := by rcases o7.cases' with ⟨rfl, _⟩ | ⟨_, _, rfl, _⟩ <;> rfl
    rw [FaP_ptr]
    refine StP_b k37 (show 0 + 4 < 5 by decide) (by rw [one_eq]; exact hv7) fun h8 _ e8 k8 => ?_
    refine add64 (by omega) ?_
    have ht : ps.take i ++ [ps[i]] = ps.take (i + 1) := by rw [List.take_add_one, List.getElem?_eq_getElem hlt]; rfl
    rw [ht] at o7
    have := hN (i + 1, v7) h8 ⟨by show i + 1 ≤ _; omega, ((k15.ext e6).ex e7 (by omega : ¬ h3.size ≤ b1)).ex e8 (by omega : ¬ b1 = b3), ((k25.ext e6).ex e7 (by omega : ¬ h3.size ≤ b2)).ex e8 (by omega : ¬ b2 = b3), k8, o7.ex e8 (fun b hb _ hx => by have hx : b = b3 := hx; omega), ?_, ?_, hv7⟩ (by simp only; omega)
    · simpa using this
    · exact ((rd5.ext e6).ex e7 (fun b hb hx => by omega)).ex e8 (fun b hb hx => by have hx : b = b3 := hx; omega)
    · refine ⟨by have := e4.le; have := e5.le; have := e6.le; have := e7.le; have := e8.le; omega, fun b hb hm => ?_⟩
      have hm1 : ¬ b = rb := fun e => hm (.inl e)
      have hm2 : ¬ b = b3 := fun e => hm (.inr e)
      have l4 := e4.le
      have l5 := e5.le
      have l6 := e6.le
      have l7 := e7.le
      rw [e8.eq b (by omega) hm2, e7.eq b (by omega) (by omega), e6.eq b (by omega) (fun x => x), e5.eq b (by omega) hm1, e4.eq b hb hm]
  · have hin : i = ps.length := by omega
    subst hin
    rw [List.take_length] at o4
    rw [List.drop_length, List.flatMap_nil, List.nil_append] at rd4
    unfold m_code_readOuter_j33
    refine (LdA_b k34 rfl).2 ?_
    refine StA_b (vs := [int 0, .slice none 0 0, .slice none 0 0, .slice none 0 0, v]) k24 rfl rfl (by
      have hq : one' v = true := by rw [one_eq]; exact hv1
      show (true && (true && (true && (true && (one' v && true))))) = true
      rw [hq]; rfl) fun h5 _ e5 k5 => ?_
    refine (LdA_b k5 rfl).2 ?_
    refine r v h5 ((o4.ex e5 (fun b hb _ hx => by have hx : b = b2 := hx; omega)).low (by omega)) ?_ ?_
    · exact rd4.ex e5 (fun b hb hx => by have hx : b = b2 := hx; omega)
    · refine ⟨by have := e4.le; have := e5.le; omega, fun b hb hm => ?_⟩
      have hm1 : ¬ b = rb := hm
      have l4 := e4.le
      rw [e5.eq b (by omega) (by omega), e4.eq b (by omega) (by omega), e13.eq b hb (fun x => x)]
def leafOf (c : Config) (n : Node) : List UInt8 := outerOf c n ++ List.replicate (c.bytes.toNat - (outerOf c n).length) 0
theorem outer_fits (hr : c.Right) (ho : outerOk c allSpan n = true) : (∀ p ∈ n.pairs, (p.key.length : Int) ≤ c.key ∧ (p.val.length : Int) ≤ c.val) ∧ n.pairs.length ≤ 1024 ∧ (n.pairs.length : Int) ≤ c.leaf ∧ (outerOf c n).length ≤ c.bytes.toNat ∧ n.kids = [] ∧ n.pivots = [] ∧ n.buf = [] := by
  have hs := hr.1
  have hs' := hs
  unfold Config.Sized at hs
  unfold outerOk at ho
  simp only [Bool.and_eq_true, decide_eq_true_eq] at ho
  obtain ⟨⟨⟨h1, h2⟩, h3⟩, h4⟩ := ho
  have hp : ∀ p ∈ n.pairs, (p.key.length : Int) ≤ c.key ∧ (p.val.length : Int) ≤ c.val := fun p hp => by
    have h4 : n.pairs.any (badPair c allSpan) = false := by simpa using h4
    rw [List.any_eq_false] at h4
    have := h4 p hp
    unfold badPair keyOk at this
    simp only [Bool.or_eq_true, Bool.not_eq_true', Bool.and_eq_false_iff, decide_eq_false_iff_not, decide_eq_true_eq, not_or] at this
    obtain ⟨⟨q1, q2⟩, q3⟩ := this
    omega
  refine ⟨hp, by omega, h2, ?_, List.eq_nil_of_length_eq_zero (by omega), List.eq_nil_of_length_eq_zero (by omega), List.eq_nil_of_length_eq_zero (by omega)⟩
  have hb : c.outer ≤ c.bytes := by have := hr.2.2.2.2.2.2; unfold Config.leastBytes at this; omega
  unfold Config.outer at hb
  rw [if_pos hs'] at hb
  have hl := pairs_len hs' n.pairs hp
  unfold outerOf
  rw [List.length_append, hl]
  have hf : (frontOf 1 0 n.pairs.length 0).length = 8 := by simp [frontOf, bytesOf_length]
  rw [hf]
  have hm : n.pairs.length * (3 + c.key.toNat + c.val.toNat) ≤ c.leaf.toNat * (3 + c.key.toNat + c.val.toNat) := Nat.mul_le_mul_right _ (by omega)
  have hc : ((c.leaf.toNat * (3 + c.key.toNat + c.val.toNat) : Nat) : Int) = c.leaf * (3 + c.key + c.val) := by
    rw [Int.natCast_mul]
    have e1 : ((c.leaf.toNat : Nat) : Int) = c.leaf := by omega
    have e2 : ((3 + c.key.toNat + c.val.toNat : Nat) : Int) = 3 + c.key + c.val := by omega
    rw [e1, e2]
  omega
theorem leaf_len (hr : c.Right) (ho : outerOk c allSpan n = true) : (leafOf c n).length = c.bytes.toNat := by
  have := (outer_fits hr ho).2.2.2.1
  unfold leafOf
  rw [List.length_append, List.length_replicate]; omega
theorem c_node_Right_leaf {s : Span} {v : Value} (d : Nd U h v n) (hf : n.fits) (h0 : n.level = 0) (r : ∀ h', Ext h h' → K (.bool (outerOk c s n)) h') : Ca f_node_Right #[c.v, s.v, v] h K := by
  obtain ⟨vk, vp, vb, vl, rfl, q1, q2, q3, q4⟩ := d.out
  refine m_node_Right_ok (bxa (cs := c.cs) fun b1 h1 e1 hb1 k1 _ => bxa (cs := s.cs) fun b2 h2 e2 hb2 k2 _ => bxa (cs := [int n.level, vk, vp, vb, vl]) fun b3 h3 e3 hb3 k3 _ => ?_)
  have e13 := (e1.trans e2).trans e3
  refine fv (by rw [k3.get]; rfl) ?_
  rw [h0, BiP_lss]
  refine cdp (fun h => absurd h (by omega)) fun _ => ?_
  refine fv (by rw [k3.get]; rfl) ?_
  rw [h0, BiP_eql]
  refine cdp (fun _ => ?_) fun h => absurd rfl h
  refine (LdA_b ((k1.ext e2).ext e3) rfl).2 ((LdA_b (k2.ext e3) rfl).2 ((LdA_b k3 rfl).2 ?_))
  exact c_node_outer (d.ext e13) hf fun h' e' => r h' (e13.trans e')
theorem c_code_Encode_leaf {v : Value} (d : Nd U h v n) (hf : n.fits) (hr : c.Right) (h0 : n.level = 0) (ho : outerOk c allSpan n = true) (r : ∀ y h', Ow h.size t_uint8 h' y (leafOf c n) → Ext h h' → K (.tuple #[y, int 0]) h') : Ca f_code_Encode #[c.v, v] h K := by
  have hfit := outer_fits hr ho
  have hd := d
  obtain ⟨vk, vp, vb, vl, rfl, q1, q2, q3, q4⟩ := d.out
  refine m_code_Encode_ok (bxa (cs := c.cs) fun b1 h1 e1 hb1 k1 _ => bxa (cs := [int n.level, vk, vp, vb, vl]) fun b2 h2 e2 hb2 k2 _ => ?_)
  have e12 := e1.trans e2
  refine (LdA_b (k1.ext e2) rfl).2 (c_conf_Check (c := c) fun h3 e3 => ?_)
  rw [if_pos hr, BiP_neq]
  refine cdp (fun h => absurd rfl h) fun _ => ?_
  have e13 := e12.trans e3
  have k1 := (k1.ext e2).ext e3
  have k2 := k2.ext e3
  refine ⟨fun b' _ => b' = b1 ∨ b' = b2, ?_⟩
  refine LaX_b k1 rfl (fun _ => .inl rfl) (LaX_b k2 rfl (fun _ => .inr rfl) ?_)
  refine c_lex_All fun h4 e4 => ⟨?_, ?_⟩
  · rintro x o _
    rename_i hx
    exact hget_eq (e4.eq _ (by rcases hx with rfl | rfl; exact k1.lt; exact k2.lt) (fun x => x)) o
  have e14 := e13.trans e4
  refine c_node_Right_leaf (n := n) (hd.ext e14) hf h0 fun h5 e5 => ⟨trivial, ?_⟩
  rw [ho, UnP_not]
  show CdP (.bool false) _ _
  rw [CdP_false]
  have e15 := e14.trans e5
  have k1 := (k1.ext e4).ext e5
  have k2 := (k2.ext e4).ext e5
  refine fv (by rw [k2.get]; rfl) ?_
  rw [h0, BiP_gtr]
  refine cdp (fun h => absurd h (by omega)) fun _ => ?_
  unfold m_code_Encode_j23
  refine (LdA_b k1 rfl).2 ((LdA_b k2 rfl).2 ?_)
  refine cvhc (by kernel_rfl) ?_
  show Ca f_code_writeOuter #[c.v, .agg [int n.level, vk, vp, vb, vl].toArray] h5 _
  refine c_code_writeOuter (n := n) (hd.ext e15) hr.1 hfit.2.1 hfit.1 fun y h6 o6 e6 => ?_
  refine fv (by rw [(k1.ext e6).get]; rfl) ?_
  have s6 : Sl No h6 y (outerOf c n) := o6.sl fun _ _ h => h
  refine s6.len ?_
  have hb := hr.2.2.2.2.2.1
  have hb0 : 0 ≤ c.bytes := by have := hr.2.2.2.2.2.2; unfold Config.leastBytes at this; omega
  have hle := hfit.2.2.2.1
  refine sub64 (by omega) ?_
  have eb : c.bytes - ((outerOf c n).length : Int) = ((c.bytes.toNat - (outerOf c n).length : Nat) : Int) := by omega
  rw [eb]
  refine bld_zer (o6.low (Nat.zero_le _)) (by omega) fun y7 h7 o7 b7 => ?_
  have hy : ∀ b, y.ownBlock = some b → h5.size ≤ b := o6.block
  have e57 : Ex (fun b => h5.size ≤ b) h6 h7 := b7.ex.mono fun b _ hb => hy b hb
  refine r y7 h7 (o7.anew fun b hb => ?_) ((e15.trans e6).own e57 e15.le)
  have hl5 := e15.le
  rcases b7.at_ with h | ⟨g, h, hg⟩
  · rw [h] at hb; have := hy b hb; omega
  · rw [h] at hb; cases hb; have := e6.le; omega
end
end Go.Sg
namespace Go.Sg
open Go Vc
section
variable {h : Heap} {K : Kt} {U : Nat → Prop} {x : Value} {c : Config} {n : Node}
theorem Sl.no {α : Type} [El α] {U : Nat → Prop} {h : Heap} {v : Value} {l : List α} (s : Sl U h v l) : Sl No h v l := s.ex (Ex.refl No h) (fun _ _ x => x.elim) (fun _ _ x => x.elim)
theorem z2 : bytesOf 2 0 = List.replicate 2 0 := by decide
theorem c_code_Decode_leaf (s : Sl U h x (leafOf c n)) (hr : c.Right) (h0 : n.level = 0) (ho : outerOk c allSpan n = true)
    (r : ∀ y h', Ow h.size t_api_Pair h' y n.pairs → Ext h h' → K (.tuple #[.agg #[int 0, .slice none 0 0, .slice none 0 0, .slice none 0 0, y], int 0]) h') : Ca f_code_Decode #[c.v, x] h K := by
  obtain ⟨f1, f2, f3, f4, f5, f6, f7⟩ := outer_fits hr ho
  have hlen := leaf_len hr ho
  have hb := hr.2.2.2.2.2.1
  have hlv : n = ⟨0, [], [], [], n.pairs⟩ := by cases n; simp only at *; subst h0 f5 f6 f7; rfl
  refine m_code_Decode_ok (bxa (cs := c.cs) fun b1 h1 e1 hb1 k1 _ => ala (cs := [int 0, .slice none 0 0, .slice none 0 0, .slice none 0 0, .slice none 0 0]) fun b2 h2 e2 hb2 k2 _ => ?_)
  have k1 := k1.ext e2
  refine (LdA_b k1 rfl).2 (c_conf_Check (c := c) fun h3 e3 => ?_)
  rw [if_pos hr, BiP_neq]
  refine cdp (fun h => absurd rfl h) fun _ => ?_
  have e13 := (e1.trans e2).trans e3
  have k1 := k1.ext e3
  have k2 := k2.ext e3
  refine c_word_Open (s.ext e13) (by omega) fun rb h4 hrb rd4 e4 => ?_
  have k1 := k1.ext e4
  have k2 := k2.ext e4
  have hl4 := e4.le
  have n1 : ¬ b1 = rb := by have := e2.le; have := e3.le; omega
  have n2 : ¬ b2 = rb := by have := e3.le; omega
  have e14 := e13.trans e4
  have hbs : leafOf c n = bytesOf 1 1 ++ (bytesOf 1 0 ++ (bytesOf 2 n.pairs.length ++ (bytesOf 2 0 ++ (List.replicate 2 0 ++ ((n.pairs.flatMap fun p => pairOf c p.key p.val) ++ List.replicate (c.bytes.toNat - (outerOf c n).length) 0))))) := by
    unfold leafOf outerOf frontOf
    rw [← z2]; simp only [List.append_assoc]
  rw [hbs] at rd4
  refine c_Num (w := 1) (v := 1) rd4 (.inl rfl) (by decide) fun h5 rd5 e5 => ?_
  refine c_Num (w := 1) (v := 0) rd5 (.inl rfl) (by decide) fun h6 rd6 e6 => ?_
  rw [CvP_int, wrap64 (by decide) (by decide)]
  refine c_Num (w := 2) (v := n.pairs.length) rd6 (.inr (.inl rfl)) (by omega) fun h7 rd7 e7 => ?_
  rw [CvP_int, wrap64 (by omega) (by omega)]
  refine c_Num (w := 2) (v := 0) rd7 (.inr (.inl rfl)) (by decide) fun h8 rd8 e8 => ?_
  rw [CvP_int, wrap64 (by decide) (by decide)]
  refine c_word_Zeros (n := 2) rd8 (by decide) fun h9 rd9 e9 => ?_
  rw [zeros_app] at rd9
  simp only at rd9
  have e49 : Ex (only rb) h4 h9 := (((e5.trans e6).trans e7).trans e8).trans e9
  have k1 := k1.ex e49 n1
  have k2 := k2.ex e49 n2
  refine ⟨_, #[int (-1), .slice none 0 0, .slice none 0 0, .slice none 0 0, .slice none 0 0], rfl, rfl, ?_⟩
  refine alst (vs := [int (-1), .slice none 0 0, .slice none 0 0, .slice none 0 0, .slice none 0 0]) rfl rfl rfl fun b3 h10 e10 hb3 k3 _ => ?_
  have k1 := k1.ext e10
  have k2 := k2.ext e10
  have rd10 := rd9.ext e10
  rw [BiP_eql]
  refine cdp (fun _ => ?_) fun h => absurd rfl h
  refine (LdA_b k1 rfl).2 ?_
  have hrl := rd9.ne
  have n3 : ¬ b3 = rb := by omega
  refine c_code_readOuter rd10 hr.1 f3 f1 fun y h11 o11 rd11 e11 => ?_
  have k1 := k1.ex e11 n1
  have k2 := k2.ex e11 n2
  have k3 := k3.ex e11 n3
  have hy1 : one' y = true := by rcases o11.cases' with ⟨rfl, _⟩ | ⟨_, _, rfl, _⟩ <;> rfl
  refine StA_b (vs := [int 0, .slice none 0 0, .slice none 0 0, .slice none 0 0, y]) k3 rfl rfl (by
      show (true && (true && (true && (true && (one' y && true))))) = true
      rw [hy1]; rfl) fun h12 _ e12 k3' => ?_
  have l2 := e2.le
  have l3 := e3.le
  have l9 := e49.le
  have l10 := e10.le
  have l11 := e11.le
  have k1 := k1.ex e12 (by omega : ¬ b1 = b3)
  have k2 := k2.ex e12 (by omega : ¬ b2 = b3)
  have rd12 := rd11.ex e12 (fun b hb hx => by have hx : b = b3 := hx; omega)
  have o12 := o11.ex e12 (fun b hb _ hx => by have hx : b = b3 := hx; omega)
  have eAll : Ext h h12 := by
    refine ⟨by have := e14.le; have := e12.le; omega, fun b hb _ => ?_⟩
    have hlt : b < h3.size := Nat.lt_of_lt_of_le hb e13.le
    rw [e12.eq b (by omega) (by show ¬ b = b3; omega), e11.eq b (by omega) (by show ¬ b = rb; omega), e10.eq b (by omega) (fun x => x), e49.eq b (by omega) (by show ¬ b = rb; omega), e14.eq b hb (fun x => x)]
  unfold m_code_Decode_j44
  refine c_word_Err rd12 ?_
  rw [BiP_neq]
  refine cdp (fun h => absurd rfl h) fun _ => ?_
  refine (LdA_b k1 rfl).2 ((LdA_b k3' rfl).2 ?_)
  have d12 : Nd No h12 (.agg [int 0, .slice none 0 0, .slice none 0 0, .slice none 0 0, y].toArray) n := by
    rw [hlv]
    exact ⟨_, _, _, _, rfl, Sl.nil _ _, Sl.nil _ _, Sl.nil _ _, o12.sl fun _ _ h => h⟩
  have hf : n.fits := by
    refine ⟨by rw [f5]; simp, by rw [f6]; simp, by rw [f7]; simp, by omega⟩
  refine c_code_Encode_leaf d12 hf hr h0 ho fun z h13 o13 e13' => ?_
  rw [ex20, ex21, BiP_neq]
  refine cdp (fun h => absurd rfl h) fun _ => ?_
  have k2 := k2.ext e13'
  have k3' := k3'.ext e13'
  refine c_Equal_byte (o13.sl (U := No) fun _ _ h => h) ((s.ext eAll).ext e13').no (by omega) rfl ?_
  rw [UnP_not]
  show m_code_Decode_j65 _ _ (.bool false) _ _
  unfold m_code_Decode_j65
  rw [CdP_false]
  unfold m_code_Decode_j69
  refine (LdA_b k3' rfl).2 ?_
  refine StA_b (vs := [int 0, .slice none 0 0, .slice none 0 0, .slice none 0 0, y]) k2 rfl rfl (by
      show (true && (true && (true && (true && (one' y && true))))) = true
      rw [hy1]; rfl) fun h14 _ e14' k2' => ?_
  refine (LdA_b k2' rfl).2 ?_
  have o14 := (o12.ext e13').ex e14' (fun b hb _ hx => by have hx : b = b2 := hx; omega)
  refine r y h14 (o14.low (by have := e14.le; omega)) ?_
  exact (eAll.trans e13').andThen e14' fun b hb => by show ¬ b = b2; have := e1.le; omega
end
end Go.Sg
