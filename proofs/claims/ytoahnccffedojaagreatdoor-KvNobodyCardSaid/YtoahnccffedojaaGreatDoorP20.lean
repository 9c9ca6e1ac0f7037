/-
  Part 20 of a proof: own texts, merged by program.
-/
import Derived.Test.YtoahnccffedojaaGreatDoorP03
import Derived.Test.YtoahnccffedojaaGreatDoorP19
set_option linter.unusedVariables false
set_option linter.unusedSimpArgs false
set_option maxRecDepth 100000
namespace Go.Sg
open Go Vc Go.Proofs
/- (*sluicegate/mount.Mount).Sync -/
def m_mount_Mount_Sync (x0_ : Value) (h : Heap) (K : Kt) : Prop :=
 Ca f_mount_Mount_none #[x0_] h fun x2 h1 =>
 CdP x2
 (K (.int .i64 1) h1)
 (Ca f_mount_Mount_Head #[x0_] h1 fun x4 h3 =>
 Ca f_head_Encode #[x4] h3 fun x6 h5 =>
 ExP x6 0 fun x7 =>
 ExP x6 1 fun x8 =>
 BiP .neq x8 (.int .i64 0) fun x9 =>
 CdP x9
 (K x8 h5)
 (Fl 1 x0_ h5 fun x12 =>
 Ca f_tree_Tree_Shelf #[x12] h5 fun x14 h13 =>
 Ca f_shelf_Shelf_Flush #[x14] h13 fun x16 h15 =>
 BiP .neq x16 (.int .i64 0) fun x17 =>
 CdP x17
 (K x16 h15)
 (Fl 0 x0_ h15 fun x20 =>
 Ca f_dev_Device_Write #[x20, (.int .u32 0), x7] h15 fun x22 h21 =>
 K x22 h21)))
theorem m_mount_Mount_Sync_ok {x0_ : Value} {h : Heap} {K : Kt} (hh : m_mount_Mount_Sync x0_ h K) : Ca f_mount_Mount_Sync #[x0_] h K := cv Tryz.func21 (by kernel_rfl) hh
/- (*sluicegate/mount.Mount).Device -/
def m_mount_Mount_Device (x0_ : Value) (h : Heap) (K : Kt) : Prop :=
 Ca f_mount_Mount_none #[x0_] h fun x2 h1 =>
 CdP x2
 (K (.pointer none) h1)
 (Fl 0 x0_ h1 fun x5 =>
 K x5 h1)
theorem m_mount_Mount_Device_ok {x0_ : Value} {h : Heap} {K : Kt} (hh : m_mount_Mount_Device x0_ h K) : Ca f_mount_Mount_Device #[x0_] h K := cv Tryz.func22 (by kernel_rfl) hh
/- sluicegate/walk.Look -/
def m_walk_Look (x0_ x1_ : Value) (h : Heap) (K : Kt) : Prop :=
 AlP t_walk_Report zt_walk_Report h fun x2 h1 =>
 AlP t_walk_Report zt_walk_Report h1 fun x4 h3 =>
 Ca f_walk_All #[x0_, x1_, (.func (.func f_walk_Look_1) #[] #[x4])] h3 fun x6 h5 =>
 BiP .neq x6 (.int .i64 0) fun x7 =>
 CdP x7
 (BlP bt_walk_Report [] fun x8 =>
 StA 5 x2 x8 h5 fun h9 =>
 LdA 5 x2 h9 fun x10 =>
 K (.tuple #[x10, x6]) h9)
 (LdA 5 x4 h5 fun x11 =>
 StA 5 x2 x11 h5 fun h12 =>
 LdA 5 x2 h12 fun x13 =>
 K (.tuple #[x13, (.int .i64 0)]) h12)
theorem m_walk_Look_ok {x0_ x1_ : Value} {h : Heap} {K : Kt} (hh : m_walk_Look x0_ x1_ h K) : Ca f_walk_Look #[x0_, x1_] h K := cv Tryz.func25 (by kernel_rfl) hh
/- (*sluicegate/mount.Mount).Tree -/
def m_mount_Mount_Tree (x0_ : Value) (h : Heap) (K : Kt) : Prop :=
 Ca f_mount_Mount_none #[x0_] h fun x2 h1 =>
 CdP x2
 (K (.pointer none) h1)
 (Fl 1 x0_ h1 fun x5 =>
 K x5 h1)
theorem m_mount_Mount_Tree_ok {x0_ : Value} {h : Heap} {K : Kt} (hh : m_mount_Mount_Tree x0_ h K) : Ca f_mount_Mount_Tree #[x0_] h K := cv Tryz.func26 (by kernel_rfl) hh
/- (*sluicegate/tree.Tree).Shelf -/
def m_tree_Tree_Shelf (x0_ : Value) (h : Heap) (K : Kt) : Prop :=
 Ca f_tree_Tree_none #[x0_] h fun x2 h1 =>
 CdP x2
 (K (.pointer none) h1)
 (Fl 0 x0_ h1 fun x5 =>
 K x5 h1)
theorem m_tree_Tree_Shelf_ok {x0_ : Value} {h : Heap} {K : Kt} (hh : m_tree_Tree_Shelf x0_ h K) : Ca f_tree_Tree_Shelf #[x0_] h K := cv Tryz.func27 (by kernel_rfl) hh
/- (*sluicegate/tree.Tree).Root -/
def m_tree_Tree_Root (x0_ : Value) (h : Heap) (K : Kt) : Prop :=
 Ca f_tree_Tree_none #[x0_] h fun x2 h1 =>
 CdP x2
 (K (.int .u32 0) h1)
 (Fl 1 x0_ h1 fun x5 =>
 K x5 h1)
theorem m_tree_Tree_Root_ok {x0_ : Value} {h : Heap} {K : Kt} (hh : m_tree_Tree_Root x0_ h K) : Ca f_tree_Tree_Root #[x0_] h K := cv Tryz.func28 (by kernel_rfl) hh
/- (*sluicegate/tree.Tree).Height -/
def m_tree_Tree_Height (x0_ : Value) (h : Heap) (K : Kt) : Prop :=
 Ca f_tree_Tree_none #[x0_] h fun x2 h1 =>
 CdP x2
 (K (.int .i64 0) h1)
 (Fl 2 x0_ h1 fun x5 =>
 BiP .add x5 (.int .i64 1) fun x6 =>
 K x6 h1)
theorem m_tree_Tree_Height_ok {x0_ : Value} {h : Heap} {K : Kt} (hh : m_tree_Tree_Height x0_ h K) : Ca f_tree_Tree_Height #[x0_] h K := cv Tryz.func29 (by kernel_rfl) hh
/- (*sluicegate/tree.Tree).Get -/
def m_tree_Tree_Get (x0_ x1_ : Value) (h : Heap) (K : Kt) : Prop :=
 Ca f_tree_Tree_none #[x0_] h fun x2 h1 =>
 CdP x2
 (K (.tuple #[(.string { data := #[] }), (.bool false), (.int .i64 1)]) h1)
 (Fl 0 x0_ h1 fun x5 =>
 Fl 1 x0_ h1 fun x8 =>
 Ca f_seek_Get #[x5, x8, x1_] h1 fun x10 h9 =>
 True ∧ (ExP x10 0 fun x11 =>
 ExP x10 1 fun x12 =>
 ExP x10 2 fun x13 =>
 K (.tuple #[x11, x12, x13]) h9))
theorem m_tree_Tree_Get_ok {x0_ x1_ : Value} {h : Heap} {K : Kt} (hh : m_tree_Tree_Get x0_ x1_ h K) : Ca f_tree_Tree_Get #[x0_, x1_] h K := cv Tryz.func36 (by kernel_rfl) hh
/- sluicegate/scan.Range -/
def m_scan_Range_j12 (x0_ x1_ x3_ x6_ : Value) (h : Heap) (K : Kt) : Prop :=
 BlP bt_scan_scanner [(0, x0_), (1, x3_)] fun x13 =>
 BxP t_scan_scanner x13 h fun x15 h14 =>
 LdA 3 x6_ h14 fun x16 =>
 Ca f_scan_scanner_visit #[x15, x1_, (.int .i64 (-1)), x16, (.slice none 0 0)] h14 fun x18 h17 =>
 BiP .neq x18 (.int .i64 0) fun x19 =>
 CdP x19
 (K (.tuple #[(.slice none 0 0), x18]) h17)
 (Fl 2 x15 h17 fun x22 =>
 K (.tuple #[x22, (.int .i64 0)]) h17)
def m_scan_Range_j11 (x0_ x1_ x3_ x6_ x17_ : Value) (h : Heap) (K : Kt) : Prop :=
 CdP x17_
 (K (.tuple #[(.slice none 0 0), (.int .i64 0)]) h)
 (m_scan_Range_j12 x0_ x1_ x3_ x6_ h K)
def m_scan_Range (x0_ x1_ x2_ x3_ : Value) (h : Heap) (K : Kt) : Prop :=
 BxP t_api_Span x2_ h fun x2 h1 =>
 BiP .lss x3_ (.int .i64 1) fun x5 =>
 CdP x5
 (m_scan_Range_j11 x0_ x1_ x3_ x2 (.bool true) h1 K)
 (LdA 3 x2 h1 fun x7 =>
 Ca f_lex_Empty #[x7] h1 fun x9 h8 =>
 m_scan_Range_j11 x0_ x1_ x3_ x2 x9 h8 K)
theorem m_scan_Range_ok {x0_ x1_ x2_ x3_ : Value} {h : Heap} {K : Kt} (hh : m_scan_Range x0_ x1_ x2_ x3_ h K) : Ca f_scan_Range #[x0_, x1_, x2_, x3_] h K := cv Tryz.func39 (by kernel_rfl) hh
/- sluicegate/mount.Open -/
def m_mount_Open_j39 (x0_ x8_ : Value) (h : Heap) (K : Kt) : Prop :=
 BlP bt_mount_Mount [(0, x0_), (1, x8_)] fun x40 =>
 BxP t_mount_Mount x40 h fun x42 h41 =>
 K (.tuple #[x42, (.int .i64 0)]) h41
def m_mount_Open_j38 (x0_ x8_ x48_ : Value) (h : Heap) (K : Kt) : Prop :=
 CdP x48_
 (K (.tuple #[(.pointer none), (.int .i64 12)]) h)
 (m_mount_Open_j39 x0_ x8_ h K)
def m_mount_Open (x0_ : Value) (h : Heap) (K : Kt) : Prop :=
 Ca f_dev_Device_Read #[x0_, (.int .u32 0)] h fun x2 h1 =>
 ExP x2 0 fun x3 =>
 ExP x2 1 fun x4 =>
 BiP .neq x4 (.int .i64 0) fun x5 =>
 CdP x5
 (K (.tuple #[(.pointer none), x4]) h1)
 (Ca f_head_Decode #[x3] h1 fun x7 h6 =>
 ExP x7 0 fun x8 =>
 ExP x7 1 fun x9 =>
 AlP t_head_Head zt_head_Head h6 fun x11 h10 =>
 StA 10 x11 x8 h10 fun h12 =>
 BiP .neq x9 (.int .i64 0) fun x13 =>
 CdP x13
 (K (.tuple #[(.pointer none), (.int .i64 12)]) h12)
 (Fva 0 8 x11 h12 fun x15 =>
 Ca f_shelf_New #[x15, x0_] h12 fun x17 h16 =>
 ExP x17 0 fun x18 =>
 ExP x17 1 fun x19 =>
 BiP .neq x19 (.int .i64 0) fun x20 =>
 CdP x20
 (K (.tuple #[(.pointer none), (.int .i64 12)]) h16)
 (Fv 8 x11 h16 fun x22 =>
 Ca f_tree_Open #[x18, x22] h16 fun x24 h23 =>
 ExP x24 0 fun x25 =>
 ExP x24 1 fun x26 =>
 ∃ X29 : XS,
 BiP .neq x26 (.int .i64 0) fun x30 =>
 CdP x30
 (m_mount_Open_j38 x0_ x25 (.bool true) h23 K)
 (FaP (some 9) x11 fun x32 =>
 LdX X29 x32 h23 fun x33 =>
 Ca f_tree_Tree_Height #[x25] h23 fun x35 h34 =>
 Agr X29 h23 h34 ∧ (BiP .neq x35 x33 fun x36 =>
 m_mount_Open_j38 x0_ x25 x36 h34 K)))))
theorem m_mount_Open_ok {x0_ : Value} {h : Heap} {K : Kt} (hh : m_mount_Open x0_ h K) : Ca f_mount_Open #[x0_] h K := cv Tryz.func43 (by kernel_rfl) hh
/- (*sluicegate/mount.Mount).none -/
def m_mount_Mount_none_j11 (x2_ : Value) (h : Heap) (K : Kt) : Prop :=
 K x2_ h
def m_mount_Mount_none (x0_ : Value) (h : Heap) (K : Kt) : Prop :=
 EqP .eql t_P_mount_Mount (.tmp 3) (.const (.pointer none)) x0_ (.pointer none) h fun x3 h2 =>
 CdP x3
 (m_mount_Mount_none_j11 (.bool true) h2 K)
 (Fl 1 x0_ h2 fun x7 =>
 EqP .eql t_P_tree_Tree (.tmp 9) (.const (.pointer none)) x7 (.pointer none) h2 fun x9 h8 =>
 m_mount_Mount_none_j11 x9 h8 K)
theorem m_mount_Mount_none_ok {x0_ : Value} {h : Heap} {K : Kt} (hh : m_mount_Mount_none x0_ h K) : Ca f_mount_Mount_none #[x0_] h K := cv Tryz.func47 (by kernel_rfl) hh
/- (*sluicegate/mount.Mount).Head -/
def m_mount_Mount_Head (x0_ : Value) (h : Heap) (K : Kt) : Prop :=
 AlP t_head_Head zt_head_Head h fun x2 h1 =>
 Ca f_mount_Mount_none #[x0_] h1 fun x4 h3 =>
 CdP x4
 (BlP bt_head_Head [] fun x5 =>
 StA 10 x2 x5 h3 fun h6 =>
 LdA 10 x2 h6 fun x7 =>
 K x7 h6)
 (∃ X9 : XS,
 NilP x0_ fun x10 =>
 FaP (some 1) x10 fun x11 =>
 LdX X9 x11 h3 fun x12 =>
 NilP x0_ fun x13 =>
 FaP (some 1) x13 fun x14 =>
 LdX X9 x14 h3 fun x15 =>
 NilP x0_ fun x16 =>
 FaP (some 1) x16 fun x17 =>
 LdX X9 x17 h3 fun x18 =>
 Ca f_tree_Tree_Shelf #[x12] h3 fun x20 h19 =>
 Agr X9 h3 h19 ∧ (Ca f_shelf_Shelf_Config #[x20] h19 fun x22 h21 =>
 Agr X9 h3 h21 ∧ (Ca f_tree_Tree_Root #[x15] h21 fun x24 h23 =>
 Agr X9 h3 h23 ∧ (Ca f_tree_Tree_Height #[x18] h23 fun x26 h25 =>
 True ∧ (BlP bt_head_Head [(0, x22), (1, x24), (2, x26)] fun x27 =>
 StA 10 x2 x27 h25 fun h28 =>
 True ∧ (LdA 10 x2 h28 fun x29 =>
 K x29 h28))))))
theorem m_mount_Mount_Head_ok {x0_ : Value} {h : Heap} {K : Kt} (hh : m_mount_Mount_Head x0_ h K) : Ca f_mount_Mount_Head #[x0_] h K := cv Tryz.func49 (by kernel_rfl) hh
/- sluicegate/walk.All -/
def m_walk_All (x0_ x1_ x2_ : Value) (h : Heap) (K : Kt) : Prop :=
 VH Pg (Instr.makeMap t_M_uint32_bool none) h fun x2 h1 =>
 BlP bt_walk_walker [(0, x0_), (1, x2), (2, x2_)] fun x3 =>
 BxP t_walk_walker x3 h1 fun x5 h4 =>
 Ca f_lex_All #[] h4 fun x7 h6 =>
 Ca f_walk_walker_visit #[x5, x1_, (.int .i64 (-1)), x7] h6 fun x9 h8 =>
 K x9 h8
theorem m_walk_All_ok {x0_ x1_ x2_ : Value} {h : Heap} {K : Kt} (hh : m_walk_All x0_ x1_ x2_ h K) : Ca f_walk_All #[x0_, x1_, x2_] h K := cv Tryz.func53 (by kernel_rfl) hh
/- sluicegate/walk.Look$1 -/
def m_walk_Look_1_j28 (x3_ x5_ : Value) (h : Heap) (K : Kt) : Prop :=
 Fv 3 x3_ h fun x30 =>
 Fv 4 x5_ h fun x32 =>
 LenP (some true) x32 fun x33 =>
 BiP .add x30 x33 fun x34 =>
 FaP (some 3) x3_ fun x35 =>
 StP x35 x34 h fun h36 =>
 Fv 4 x3_ h36 fun x38 =>
 Fv 3 x5_ h36 fun x40 =>
 LenP (some true) x40 fun x41 =>
 BiP .add x38 x41 fun x42 =>
 FaP (some 4) x3_ fun x43 =>
 StP x43 x42 h36 fun h44 =>
 K (.bool true) h44
def m_walk_Look_1 (x0_ x1_ x2_ x3_ : Value) (h : Heap) (K : Kt) : Prop :=
 BxP t_api_Node x1_ h fun x2 h1 =>
 BxP t_api_Span x2_ h1 fun x4 h3 =>
 Fv 0 x3_ h3 fun x6 =>
 Fv 0 x2 h3 fun x8 =>
 BiP .add x8 (.int .i64 1) fun x9 =>
 VH Pg (Builtin.max_ #[t_int, t_int] t_int #[x6, x9]) h3 fun x11 h10 =>
 FaP (some 0) x3_ fun x12 =>
 StP x12 x11 h10 fun h13 =>
 Fv 1 x3_ h13 fun x15 =>
 BiP .add x15 (.int .i64 1) fun x16 =>
 FaP (some 1) x3_ fun x17 =>
 StP x17 x16 h13 fun h18 =>
 Fv 0 x2 h18 fun x21 =>
 BiP .eql x21 (.int .i64 0) fun x22 =>
 CdP x22
 (Fv 2 x3_ h18 fun x24 =>
 BiP .add x24 (.int .i64 1) fun x25 =>
 FaP (some 2) x3_ fun x26 =>
 StP x26 x25 h18 fun h27 =>
 m_walk_Look_1_j28 x3_ x2 h27 K)
 (m_walk_Look_1_j28 x3_ x2 h18 K)
theorem m_walk_Look_1_ok {x0_ x1_ x2_ x3_ : Value} {h : Heap} {K : Kt} (hh : m_walk_Look_1 x0_ x1_ x2_ x3_ h K) : Ca f_walk_Look_1 #[x0_, x1_, x2_, x3_] h K := cv Tryz.func54 (by kernel_rfl) hh
/- (*sluicegate/tree.Tree).none -/
def m_tree_Tree_none_j11 (x2_ : Value) (h : Heap) (K : Kt) : Prop :=
 K x2_ h
def m_tree_Tree_none (x0_ : Value) (h : Heap) (K : Kt) : Prop :=
 EqP .eql t_P_tree_Tree (.tmp 3) (.const (.pointer none)) x0_ (.pointer none) h fun x3 h2 =>
 CdP x3
 (m_tree_Tree_none_j11 (.bool true) h2 K)
 (Fl 0 x0_ h2 fun x7 =>
 EqP .eql t_P_shelf_Shelf (.tmp 9) (.const (.pointer none)) x7 (.pointer none) h2 fun x9 h8 =>
 m_tree_Tree_none_j11 x9 h8 K)
theorem m_tree_Tree_none_ok {x0_ : Value} {h : Heap} {K : Kt} (hh : m_tree_Tree_none x0_ h K) : Ca f_tree_Tree_none #[x0_] h K := cv Tryz.func55 (by kernel_rfl) hh
/- sluicegate/mount.Format -/
def m_mount_Format (x0_ : Value) (h : Heap) (K : Kt) : Prop :=
 BxP t_api_Config x0_ h fun x2 h1 =>
 LdA 8 x2 h1 fun x3 =>
 Ca f_conf_Check #[x3] h1 fun x5 h4 =>
 BiP .neq x5 (.int .i64 0) fun x6 =>
 CdP x6
 (K (.tuple #[(.pointer none), x5]) h4)
 (Fv 0 x2 h4 fun x8 =>
 Fv 1 x2 h4 fun x10 =>
 Ca f_dev_New #[x8, x10] h4 fun x12 h11 =>
 ExP x12 0 fun x13 =>
 ExP x12 1 fun x14 =>
 BiP .neq x14 (.int .i64 0) fun x15 =>
 CdP x15
 (K (.tuple #[(.pointer none), x14]) h11)
 (LdA 8 x2 h11 fun x16 =>
 Ca f_shelf_New #[x16, x13] h11 fun x18 h17 =>
 ExP x18 0 fun x19 =>
 ExP x18 1 fun x20 =>
 BiP .neq x20 (.int .i64 0) fun x21 =>
 CdP x21
 (K (.tuple #[(.pointer none), x20]) h17)
 (Ca f_tree_New #[x19] h17 fun x23 h22 =>
 ExP x23 0 fun x24 =>
 ExP x23 1 fun x25 =>
 BiP .neq x25 (.int .i64 0) fun x26 =>
 CdP x26
 (K (.tuple #[(.pointer none), x25]) h22)
 (BlP bt_mount_Mount [(0, x13), (1, x24)] fun x27 =>
 BxP t_mount_Mount x27 h22 fun x29 h28 =>
 Ca f_mount_Mount_Sync #[x29] h28 fun x31 h30 =>
 BiP .neq x31 (.int .i64 0) fun x32 =>
 CdP x32
 (K (.tuple #[(.pointer none), x31]) h30)
 (K (.tuple #[x29, (.int .i64 0)]) h30)))))
theorem m_mount_Format_ok {x0_ : Value} {h : Heap} {K : Kt} (hh : m_mount_Format x0_ h K) : Ca f_mount_Format #[x0_] h K := cv Tryz.func57 (by kernel_rfl) hh
/- (*sluicegate/tree.Tree).Put -/
def m_tree_Tree_Put_j32 (x0_ x3_ x5_ x6_ : Value) (h : Heap) (K : Kt) : Prop :=
 BiP .neq x6_ (.int .i64 0) fun x33 =>
 CdP x33
 (K x6_ h)
 (LdA 5 x5_ h fun x34 =>
 LdA 3 x3_ h fun x35 =>
 Ca f_tree_Tree_direct #[x0_, x34, x35] h fun x37 h36 =>
 ExP x37 0 fun x38 =>
 ExP x37 1 fun x39 =>
 ExP x37 2 fun x40 =>
 AlP t_api_Node zt_api_Node h36 fun x42 h41 =>
 StA 5 x42 x39 h41 fun h43 =>
 BiP .neq x40 (.int .i64 0) fun x45 =>
 CdP x45
 (K x40 h43)
 (CdP x38
 (NilP x0_ fun x46 =>
 FaP (some 3) x46 fun x47 =>
 Fv 0 x47 h43 fun x49 =>
 BiP .add x49 (.int .i64 1) fun x50 =>
 NilP x0_ fun x51 =>
 FaP (some 3) x51 fun x52 =>
 FaP (some 0) x52 fun x53 =>
 StP x53 x50 h43 fun h54 =>
 K (.int .i64 0) h54)
 (∃ X55 : XS,
 NilP x0_ fun x56 =>
 FaP (some 0) x56 fun x57 =>
 LdX X55 x57 h43 fun x58 =>
 FaP (some 0) x5_ fun x59 =>
 LdX X55 x59 h43 fun x60 =>
 BiP .add x60 (.int .i64 3) fun x61 =>
 Ca f_shelf_Shelf_Left #[x58] h43 fun x63 h62 =>
 Agr X55 h43 h62 ∧ (BiP .lss x63 x61 fun x64 =>
 CdP x64
 (K (.int .i64 11) h62)
 (Fv 0 x5_ h62 fun x66 =>
 BiP .eql x66 (.int .i64 0) fun x67 =>
 CdP x67
 (LdA 5 x42 h62 fun x68 =>
 Ca f_tree_Tree_raise #[x0_, x68] h62 fun x70 h69 =>
 BiP .neq x70 (.int .i64 0) fun x71 =>
 CdP x71
 (K x70 h69)
 (NilP x0_ fun x72 =>
 FaP (some 3) x72 fun x73 =>
 Fv 0 x73 h69 fun x75 =>
 BiP .add x75 (.int .i64 1) fun x76 =>
 NilP x0_ fun x77 =>
 FaP (some 3) x77 fun x78 =>
 FaP (some 0) x78 fun x79 =>
 StP x79 x76 h69 fun h80 =>
 K (.int .i64 0) h80))
 (LdA 3 x3_ h62 fun x81 =>
 Ca f_tree_Tree_drain #[x0_, x81] h62 fun x83 h82 =>
 K x83 h82))))))
def m_tree_Tree_Put (x0_ x1_ : Value) (h : Heap) (K : Kt) : Prop :=
 BxP t_api_Msg x1_ h fun x2 h1 =>
 Ca f_tree_Tree_none #[x0_] h1 fun x5 h4 =>
 CdP x5
 (K (.int .i64 1) h4)
 (LdA 3 x2 h4 fun x6 =>
 Ca f_tree_Tree_may #[x0_, x6] h4 fun x8 h7 =>
 UnP .not x8 fun x9 =>
 CdP x9
 (K (.int .i64 2) h7)
 (∃ X11 : XS,
 NilP x0_ fun x12 =>
 FaP (some 0) x12 fun x13 =>
 LdX X11 x13 h7 fun x14 =>
 NilP x0_ fun x15 =>
 FaP (some 1) x15 fun x16 =>
 LdX X11 x16 h7 fun x17 =>
 (Ca f_shelf_Shelf_Load #[x14, x17] h7 fun x19 h18 =>
 True ∧ (ExP x19 0 fun x20 =>
 ExP x19 1 fun x21 =>
 AlP t_api_Node zt_api_Node h18 fun x23 h22 =>
 Agr X11 h7 h22 ∧ (StA 5 x23 x20 h22 fun h24 =>
 True ∧ (m_tree_Tree_Put_j32 x0_ x2 x23 x21 h24 K)))) ∧
 (AlP t_api_Node zt_api_Node h7 fun x26 h25 =>
 Agr X11 h7 h25 ∧ (Ca f_shelf_Shelf_Load #[x14, x17] h25 fun x28 h27 =>
 True ∧ (ExP x28 0 fun x29 =>
 ExP x28 1 fun x30 =>
 StA 5 x26 x29 h27 fun h31 =>
 True ∧ (m_tree_Tree_Put_j32 x0_ x2 x26 x30 h31 K))))))
theorem m_tree_Tree_Put_ok {x0_ x1_ : Value} {h : Heap} {K : Kt} (hh : m_tree_Tree_Put x0_ x1_ h K) : Ca f_tree_Tree_Put #[x0_, x1_] h K := cv Tryz.func60 (by kernel_rfl) hh
/- sluicegate/seek.Get -/
def m_seek_Get (x0_ x1_ x2_ : Value) (h : Heap) (K : Kt) : Prop :=
 BxP t_string x2_ h fun x2 h1 =>
 AlP t_S_api_Node zt_S_api_Node h1 fun x4 h3 =>
 LdP x2 h3 fun x5 =>
 Ca f_seek_down #[x0_, x1_, x5, (.func (.func f_seek_Get_1) #[] #[x4, x2])] h3 fun x7 h6 =>
 BiP .neq x7 (.int .i64 0) fun x8 =>
 CdP x8
 (K (.tuple #[(.string { data := #[] }), (.bool false), x7]) h6)
 (LdP x4 h6 fun x9 =>
 LdP x2 h6 fun x10 =>
 Ca f_pour_Value #[x9, x10] h6 fun x12 h11 =>
 ExP x12 0 fun x13 =>
 ExP x12 1 fun x14 =>
 K (.tuple #[x13, x14, (.int .i64 0)]) h11)
theorem m_seek_Get_ok {x0_ x1_ x2_ : Value} {h : Heap} {K : Kt} (hh : m_seek_Get x0_ x1_ x2_ h K) : Ca f_seek_Get #[x0_, x1_, x2_] h K := cv Tryz.func61 (by kernel_rfl) hh
/- (*sluicegate/scan.scanner).visit -/
def m_scan_scanner_visit_j101 (x0_ x4_ x8_ x10_ x11_ x83_ x84_ x85_ : Value) (h : Heap) (nx71 : Nt) (K : Kt) : Prop :=
 BiP .add x85_ (.int .i64 1) fun x102 =>
 nx71 [x10_, x102] h
def m_scan_scanner_visit_j103 (h : Heap) (K : Kt) : Prop :=
 K (.int .i64 0) h
def m_scan_scanner_visit_l70 (vs : List Value) (x0_ x4_ x8_ x11_ x83_ x84_ : Value) (h : Heap) (nx71 : Nt) (K : Kt) : Prop :=
 BiP .lss (gv vs 1) x84_ fun x72 =>
 CdP x72
 (Ei 1 x83_ (gv vs 1) h fun x75 =>
 Fv 2 x11_ h fun x77 =>
 LdA 3 x8_ h fun x78 =>
 Ca f_fan_Span #[x77, (gv vs 1), x78] h fun x80 h79 =>
 ExP x80 0 fun x81 =>
 ExP x80 1 fun x82 =>
 AlP t_api_Span zt_api_Span h79 fun x84 h83 =>
 StA 3 x84 x81 h83 fun h85 =>
 UnP .not x82 fun x86 =>
 CdP x86
 (m_scan_scanner_visit_j101 x0_ x4_ x8_ (gv vs 0) x11_ x83_ x84_ (gv vs 1) h85 nx71 K)
 (Ca f_scan_scanner_full #[x0_] h85 fun x88 h87 =>
 CdP x88
 (K (.int .i64 0) h87)
 (∃ X90 : XS,
 FaP (some 0) x11_ fun x91 =>
 LdX X90 x91 h87 fun x92 =>
 BiP .sub x92 (.int .i64 1) fun x93 =>
 LaX X90 3 x84 h87 fun x94 =>
 LaX X90 3 x84 h87 fun x95 =>
 Ca f_buf_Part #[x4_, x95] h87 fun x97 h96 =>
 Agr X90 h87 h96 ∧ (Ca f_scan_scanner_visit #[x0_, x75, x93, x94, x97] h96 fun x99 h98 =>
 True ∧ (BiP .neq x99 (.int .i64 0) fun x100 =>
 CdP x100
 (K x99 h98)
 (m_scan_scanner_visit_j101 x0_ x4_ x8_ (gv vs 0) x11_ x83_ x84_ (gv vs 1) h98 nx71 K))))))
 (m_scan_scanner_visit_j103 h K)
def m_scan_scanner_visit_j23 (x0_ x4_ x8_ x11_ : Value) (h : Heap) (K : Kt) : Prop :=
 Fv 0 x11_ h fun x25 =>
 BiP .eql x25 (.int .i64 0) fun x26 =>
 CdP x26
 (Fv 4 x11_ h fun x28 =>
 LdA 3 x8_ h fun x29 =>
 Fv 4 x11_ h fun x31 =>
 LenP (some true) x31 fun x32 =>
 Ca f_leaf_Part #[x28, x29, x32] h fun x34 h33 =>
 Ca f_leaf_Apply #[x34, x4_] h33 fun x36 h35 =>
 ∃ X38 : XS,
 NilP x0_ fun x39 =>
 FaP (some 2) x39 fun x40 =>
 LdX X38 x40 h35 fun x41 =>
 LenP (some true) x36 fun x42 =>
 NilP x0_ fun x43 =>
 FaP (some 1) x43 fun x44 =>
 LdX X38 x44 h35 fun x45 =>
 NilP x0_ fun x46 =>
 FaP (some 2) x46 fun x47 =>
 LdX X38 x47 h35 fun x48 =>
 LenP (some true) x48 fun x49 =>
 BiP .sub x45 x49 fun x50 =>
 VH Pg (Builtin.min_ #[t_int, t_int] t_int #[x42, x50]) h35 fun x52 h51 =>
 Agr X38 h35 h51 ∧ (SlP 2 x36 none (some x52) fun x53 =>
 VH Pg (Builtin.append_ #[t_S_api_Pair, t_S_api_Pair] t_S_api_Pair #[x41, x53]) h51 fun x55 h54 =>
 True ∧ (Fs 2 x0_ x55 h54 fun h58 =>
 True ∧ (K (.int .i64 0) h58))))
 (Fv 3 x11_ h fun x60 =>
 LdA 3 x8_ h fun x61 =>
 Ca f_buf_Part #[x60, x61] h fun x63 h62 =>
 Ca f_buf_Merge #[x4_, x63] h62 fun x65 h64 =>
 Fv 1 x11_ h64 fun x68 =>
 LenP (some true) x68 fun x69 =>
 LoP (fun vt h nx71 => m_scan_scanner_visit_l70 vt x0_ x65 x8_ x11_ x68 x69 h nx71 K) [(.int .i64 0), (.int .i64 0)] h64)
def m_scan_scanner_visit_j22 (x0_ x4_ x8_ x11_ x32_ : Value) (h : Heap) (K : Kt) : Prop :=
 CdP x32_
 (K (.int .i64 12) h)
 (m_scan_scanner_visit_j23 x0_ x4_ x8_ x11_ h K)
def m_scan_scanner_visit (x0_ x1_ x2_ x3_ x4_ : Value) (h : Heap) (K : Kt) : Prop :=
 BxP t_api_Span x3_ h fun x2 h1 =>
 Fl 0 x0_ h1 fun x5 =>
 Ca f_shelf_Shelf_Load #[x5, x1_] h1 fun x7 h6 =>
 ExP x7 0 fun x8 =>
 ExP x7 1 fun x9 =>
 AlP t_api_Node zt_api_Node h6 fun x11 h10 =>
 StA 5 x11 x8 h10 fun h12 =>
 BiP .neq x9 (.int .i64 0) fun x14 =>
 CdP x14
 (K x9 h12)
 (BiP .geq x2_ (.int .i64 0) fun x16 =>
 CdP x16
 (Fv 0 x11 h12 fun x18 =>
 BiP .neq x18 x2_ fun x19 =>
 m_scan_scanner_visit_j22 x0_ x4_ x2 x11 x19 h12 K)
 (m_scan_scanner_visit_j22 x0_ x4_ x2 x11 (.bool false) h12 K))
theorem m_scan_scanner_visit_ok {x0_ x1_ x2_ x3_ x4_ : Value} {h : Heap} {K : Kt} (hh : m_scan_scanner_visit x0_ x1_ x2_ x3_ x4_ h K) : Ca f_scan_scanner_visit #[x0_, x1_, x2_, x3_, x4_] h K := cv Tryz.func64 (by kernel_rfl) hh
/- sluicegate/tree.Open -/
def m_tree_Open_j51 (x4_ x5_ : Value) (h : Heap) (K : Kt) : Prop :=
 K (.tuple #[x4_, x5_]) h
def m_tree_Open_j29 (x0_ x1_ : Value) (h : Heap) (K : Kt) : Prop :=
 Ca f_shelf_Shelf_Load #[x0_, x1_] h fun x31 h30 =>
 ExP x31 0 fun x32 =>
 ExP x31 1 fun x33 =>
 AlP t_api_Node zt_api_Node h30 fun x35 h34 =>
 StA 5 x35 x32 h34 fun h36 =>
 BiP .neq x33 (.int .i64 0) fun x37 =>
 CdP x37
 (K (.tuple #[(.pointer none), x33]) h36)
 (∃ X39 : XS,
 FaP (some 0) x35 fun x40 =>
 LdX X39 x40 h36 fun x41 =>
 BlP bt_tree_Tree [(0, x0_), (1, x1_), (2, x41)] fun x42 =>
 (BxP t_tree_Tree x42 h36 fun x44 h43 =>
 True ∧ (Ca f_shelf_Shelf_Keep #[x0_, x1_] h43 fun x46 h45 =>
 Agr X39 h36 h45 ∧ (m_tree_Open_j51 x44 x46 h45 K))) ∧
 (Ca f_shelf_Shelf_Keep #[x0_, x1_] h36 fun x48 h47 =>
 Agr X39 h36 h47 ∧ (BxP t_tree_Tree x42 h47 fun x50 h49 =>
 True ∧ (m_tree_Open_j51 x50 x48 h49 K))))
def m_tree_Open_l20 (vs : List Value) (x0_ x1_ x32_ x33_ : Value) (h : Heap) (nx21 : Nt) (K : Kt) : Prop :=
 BiP .lss (gv vs 0) x33_ fun x22 =>
 CdP x22
 (Ei 1 x32_ (gv vs 0) h fun x25 =>
 Ca f_shelf_Shelf_Mark #[x0_, x25] h fun x27 h26 =>
 BiP .add (gv vs 0) (.int .i64 1) fun x28 =>
 nx21 [x28] h26)
 (m_tree_Open_j29 x0_ x1_ h K)
def m_tree_Open_j17 (x0_ x1_ x6_ : Value) (h : Heap) (K : Kt) : Prop :=
 LenP (some true) x6_ fun x19 =>
 LoP (fun vt h nx21 => m_tree_Open_l20 vt x0_ x1_ x6_ x19 h nx21 K) [(.int .i64 0)] h
def m_tree_Open_l8 (vs : List Value) (x0_ x1_ x6_ x22_ x23_ : Value) (h : Heap) (nx9 : Nt) (K : Kt) : Prop :=
 BiP .lss (gv vs 2) x23_ fun x10 =>
 CdP x10
 (Ei 1 x22_ (gv vs 2) h fun x13 =>
 Ca f_shelf_Shelf_Has #[x0_, x13] h fun x15 h14 =>
 CdP x15
 (K (.tuple #[(.pointer none), (.int .i64 10)]) h14)
 (BiP .add (gv vs 2) (.int .i64 1) fun x16 =>
 nx9 [(gv vs 0), (gv vs 1), x16] h14))
 (m_tree_Open_j17 x0_ x1_ x6_ h K)
def m_tree_Open (x0_ x1_ : Value) (h : Heap) (K : Kt) : Prop :=
 Ca f_walk_Blocks #[x0_, x1_] h fun x2 h1 =>
 ExP x2 0 fun x3 =>
 ExP x2 1 fun x4 =>
 BiP .neq x4 (.int .i64 0) fun x5 =>
 CdP x5
 (K (.tuple #[(.pointer none), x4]) h1)
 (LenP (some true) x3 fun x7 =>
 LoP (fun vt h nx9 => m_tree_Open_l8 vt x0_ x1_ x3 x3 x7 h nx9 K) [(.pointer none), (.int .i64 0), (.int .i64 0)] h1)
theorem m_tree_Open_ok {x0_ x1_ : Value} {h : Heap} {K : Kt} (hh : m_tree_Open x0_ x1_ h K) : Ca f_tree_Open #[x0_, x1_] h K := cv Tryz.func69 (by kernel_rfl) hh
/- (*sluicegate/walk.walker).visit -/
def m_walk_walker_visit_j122 (h : Heap) (K : Kt) : Prop :=
 K (.int .i64 0) h
def m_walk_walker_visit_l90 (vs : List Value) (x0_ x7_ x9_ x83_ x84_ : Value) (h : Heap) (nx91 : Nt) (K : Kt) : Prop :=
 BiP .lss (gv vs 1) x84_ fun x92 =>
 CdP x92
 (Ei 1 x83_ (gv vs 1) h fun x95 =>
 Fl 3 x0_ h fun x98 =>
 CdP x98
 (m_walk_walker_visit_j122 h K)
 (Fv 2 x9_ h fun x100 =>
 LdA 3 x7_ h fun x101 =>
 Ca f_fan_Span #[x100, (gv vs 1), x101] h fun x103 h102 =>
 ExP x103 0 fun x104 =>
 ExP x103 1 fun x105 =>
 AlP t_api_Span zt_api_Span h102 fun x107 h106 =>
 StA 3 x107 x104 h106 fun h108 =>
 Fl 1 x0_ h108 fun x111 =>
 VH Pg (Instr.lookup t_M_uint32_bool x111 x95 false) h108 fun x113 h112 =>
 CdP x113
 (K (.int .i64 12) h112)
 (Fv 0 x9_ h112 fun x115 =>
 BiP .sub x115 (.int .i64 1) fun x116 =>
 LdA 3 x107 h112 fun x117 =>
 Ca f_walk_walker_visit #[x0_, x95, x116, x117] h112 fun x119 h118 =>
 BiP .neq x119 (.int .i64 0) fun x120 =>
 CdP x120
 (K x119 h118)
 (BiP .add (gv vs 1) (.int .i64 1) fun x121 =>
 nx91 [(gv vs 0), x121] h118))))
 (m_walk_walker_visit_j122 h K)
def m_walk_walker_visit_j85 (x0_ x7_ x9_ : Value) (h : Heap) (K : Kt) : Prop :=
 Fv 1 x9_ h fun x88 =>
 LenP (some true) x88 fun x89 =>
 LoP (fun vt h nx91 => m_walk_walker_visit_l90 vt x0_ x7_ x9_ x88 x89 h nx91 K) [(.int .i64 0), (.int .i64 0)] h
def m_walk_walker_visit_j81 (x0_ x7_ x9_ x78_ : Value) (h : Heap) (K : Kt) : Prop :=
 CdP x78_
 (Fs 3 x0_ (.bool true) h fun h84 =>
 m_walk_walker_visit_j85 x0_ x7_ x9_ h84 K)
 (m_walk_walker_visit_j85 x0_ x7_ x9_ h K)
def m_walk_walker_visit_j56 (x0_ x1_ x7_ x9_ : Value) (h : Heap) (K : Kt) : Prop :=
 Fl 1 x0_ h fun x59 =>
 UH Pg (Instr.mapUpdate t_M_uint32_bool x59 x1_ (.bool true)) h fun h60 =>
 ∃ X63 : XS,
 NilP x0_ fun x64 =>
 FaP (some 2) x64 fun x65 =>
 LdX X63 x65 h60 fun x66 =>
 EqP .neq t_func_ca11b6 (.tmp 65) (.const .nilFunc) x66 .nilFunc h60 fun x68 h67 =>
 Agr X63 h60 h67 ∧ (CdP x68
 (NilP x0_ fun x69 =>
 FaP (some 2) x69 fun x70 =>
 LdX X63 x70 h60 fun x71 =>
 LaX X63 5 x9_ h60 fun x72 =>
 LaX X63 3 x7_ h60 fun x73 =>
 Ca f_node_Clone #[x72] h67 fun x75 h74 =>
 Agr X63 h60 h74 ∧ (CvH Pg x71 #[x1_, x75, x73] h74 fun x77 h76 =>
 True ∧ (UnP .not x77 fun x78 =>
 m_walk_walker_visit_j81 x0_ x7_ x9_ x78 h76 K)))
 (m_walk_walker_visit_j81 x0_ x7_ x9_ (.bool false) h67 K))
def m_walk_walker_visit_j55 (x0_ x1_ x7_ x9_ x29_ : Value) (h : Heap) (K : Kt) : Prop :=
 CdP x29_
 (K (.int .i64 12) h)
 (m_walk_walker_visit_j56 x0_ x1_ x7_ x9_ h K)
def m_walk_walker_visit (x0_ x1_ x2_ x3_ : Value) (h : Heap) (K : Kt) : Prop :=
 BxP t_api_Span x3_ h fun x2 h1 =>
 Fl 0 x0_ h1 fun x5 =>
 Ca f_shelf_Shelf_Load #[x5, x1_] h1 fun x7 h6 =>
 ExP x7 0 fun x8 =>
 ExP x7 1 fun x9 =>
 AlP t_api_Node zt_api_Node h6 fun x11 h10 =>
 StA 5 x11 x8 h10 fun h12 =>
 BiP .neq x9 (.int .i64 0) fun x14 =>
 CdP x14
 (K x9 h12)
 (∃ X16 : XS,
 NilP x0_ fun x17 =>
 FaP (some 1) x17 fun x18 =>
 LdX X16 x18 h12 fun x19 =>
 VH Pg (Instr.lookup t_M_uint32_bool x19 x1_ false) h12 fun x21 h20 =>
 Agr X16 h12 h20 ∧ (CdP x21
 (undef = undef ∧ (undef = undef ∧ (undef = undef ∧ (undef = undef ∧ (m_walk_walker_visit_j55 x0_ x1_ x2 x11 (.bool true) h20 K)))))
 (BiP .geq x2_ (.int .i64 0) fun x24 =>
 CdP x24
 (FaP (some 0) x11 fun x25 =>
 LdX X16 x25 h12 fun x26 =>
 BiP .neq x26 x2_ fun x27 =>
 CdP x27
 (m_walk_walker_visit_j55 x0_ x1_ x2 x11 (.bool true) h20 K)
 (NilP x0_ fun x31 =>
 FaP (some 0) x31 fun x32 =>
 LdX X16 x32 h12 fun x33 =>
 LaX X16 3 x2 h12 fun x34 =>
 LaX X16 5 x11 h12 fun x35 =>
 Ca f_shelf_Shelf_Config #[x33] h20 fun x37 h36 =>
 Agr X16 h12 h36 ∧ (Ca f_node_Right #[x37, x34, x35] h36 fun x39 h38 =>
 True ∧ (UnP .not x39 fun x40 =>
 m_walk_walker_visit_j55 x0_ x1_ x2 x11 x40 h38 K))))
 (NilP x0_ fun x44 =>
 FaP (some 0) x44 fun x45 =>
 LdX X16 x45 h12 fun x46 =>
 LaX X16 3 x2 h12 fun x47 =>
 LaX X16 5 x11 h12 fun x48 =>
 Ca f_shelf_Shelf_Config #[x46] h20 fun x50 h49 =>
 Agr X16 h12 h49 ∧ (Ca f_node_Right #[x50, x47, x48] h49 fun x52 h51 =>
 True ∧ (UnP .not x52 fun x53 =>
 m_walk_walker_visit_j55 x0_ x1_ x2 x11 x53 h51 K))))))
theorem m_walk_walker_visit_ok {x0_ x1_ x2_ x3_ : Value} {h : Heap} {K : Kt} (hh : m_walk_walker_visit x0_ x1_ x2_ x3_ h K) : Ca f_walk_walker_visit #[x0_, x1_, x2_, x3_] h K := cv Tryz.func78 (by kernel_rfl) hh
/- sluicegate/tree.New -/
def m_tree_New (x0_ : Value) (h : Heap) (K : Kt) : Prop :=
 BlP bt_api_Node [] fun x1 =>
 Ca f_shelf_Shelf_Make #[x0_, x1] h fun x3 h2 =>
 ExP x3 0 fun x4 =>
 ExP x3 1 fun x5 =>
 BiP .neq x5 (.int .i64 0) fun x6 =>
 CdP x6
 (K (.tuple #[(.pointer none), x5]) h2)
 (BlP bt_tree_Tree [(0, x0_), (1, x4)] fun x7 =>
 BxP t_tree_Tree x7 h2 fun x9 h8 =>
 Ca f_shelf_Shelf_Keep #[x0_, x4] h8 fun x11 h10 =>
 K (.tuple #[x9, x11]) h10)
theorem m_tree_New_ok {x0_ : Value} {h : Heap} {K : Kt} (hh : m_tree_New x0_ h K) : Ca f_tree_New #[x0_] h K := cv Tryz.func85 (by kernel_rfl) hh
/- (*sluicegate/tree.Tree).may -/
def m_tree_Tree_may_j38 (x4_ : Value) (h : Heap) (K : Kt) : Prop :=
 K x4_ h
def m_tree_Tree_may (x0_ x1_ : Value) (h : Heap) (K : Kt) : Prop :=
 BxP t_api_Msg x1_ h fun x2 h1 =>
 Fl 0 x0_ h1 fun x5 =>
 Ca f_shelf_Shelf_Config #[x5] h1 fun x7 h6 =>
 AlP t_api_Config zt_api_Config h6 fun x9 h8 =>
 StA 8 x9 x7 h8 fun h10 =>
 LdA 8 x9 h10 fun x12 =>
 Fv 0 x2 h10 fun x14 =>
 Ca f_node_Key #[x12, x14] h10 fun x16 h15 =>
 CdP x16
 (Fv 2 x2 h15 fun x18 =>
 LenP (some false) x18 fun x19 =>
 Fv 7 x9 h15 fun x21 =>
 BiP .leq x19 x21 fun x22 =>
 CdP x22
 (Fv 1 x2 h15 fun x25 =>
 CdP x25
 (Fv 2 x2 h15 fun x27 =>
 BiP .neq x27 (.string { data := #[] }) fun x28 =>
 UnP .not x28 fun x30 =>
 m_tree_Tree_may_j38 x30 h15 K)
 (UnP .not (.bool false) fun x33 =>
 m_tree_Tree_may_j38 x33 h15 K))
 (undef = undef ∧ (undef = undef ∧ (undef = undef ∧ (m_tree_Tree_may_j38 (.bool false) h15 K)))))
 (undef = undef ∧ (undef = undef ∧ (undef = undef ∧ (m_tree_Tree_may_j38 (.bool false) h15 K))))
theorem m_tree_Tree_may_ok {x0_ x1_ : Value} {h : Heap} {K : Kt} (hh : m_tree_Tree_may x0_ x1_ h K) : Ca f_tree_Tree_may #[x0_, x1_] h K := cv Tryz.func86 (by kernel_rfl) hh
/- (*sluicegate/tree.Tree).direct -/
def m_tree_Tree_direct_j62 (x0_ x4_ x7_ x10_ : Value) (h : Heap) (K : Kt) : Prop :=
 UnP .not x10_ fun x63 =>
 CdP x63
 (LdA 5 x4_ h fun x64 =>
 StA 5 x7_ x64 h fun h65 =>
 True ∧ (LdA 5 x7_ h65 fun x66 =>
 K (.tuple #[(.bool false), x66, (.int .i64 0)]) h65))
 (∃ X68 : XS,
 LaX X68 5 x4_ h fun x69 =>
 NilP x0_ fun x70 =>
 FaP (some 0) x70 fun x71 =>
 LdX X68 x71 h fun x72 =>
 NilP x0_ fun x73 =>
 FaP (some 1) x73 fun x74 =>
 LdX X68 x74 h fun x75 =>
 LaX X68 5 x4_ h fun x76 =>
 Ca f_shelf_Shelf_Save #[x72, x75, x76] h fun x78 h77 =>
 Agr X68 h h77 ∧ (StA 5 x7_ x69 h77 fun h79 =>
 True ∧ (LdA 5 x7_ h79 fun x80 =>
 K (.tuple #[(.bool true), x80, x78]) h79)))
def m_tree_Tree_direct_j54 (x0_ x4_ x5_ x7_ x10_ : Value) (h : Heap) (K : Kt) : Prop :=
 CdP x10_
 (Fv 3 x4_ h fun x56 =>
 LdA 3 x5_ h fun x57 =>
 Ca f_buf_Put #[x56, x57] h fun x59 h58 =>
 FaP (some 3) x4_ fun x60 =>
 StP x60 x59 h58 fun h61 =>
 m_tree_Tree_direct_j62 x0_ x4_ x7_ x10_ h61 K)
 (m_tree_Tree_direct_j62 x0_ x4_ x7_ x10_ h K)
def m_tree_Tree_direct (x0_ x1_ x2_ : Value) (h : Heap) (K : Kt) : Prop :=
 BxP t_api_Node x1_ h fun x2 h1 =>
 BxP t_api_Msg x2_ h1 fun x4 h3 =>
 AlP t_api_Node zt_api_Node h3 fun x6 h5 =>
 Fl 0 x0_ h5 fun x9 =>
 Ca f_shelf_Shelf_Config #[x9] h5 fun x11 h10 =>
 AlP t_api_Config zt_api_Config h10 fun x13 h12 =>
 StA 8 x13 x11 h12 fun h14 =>
 Fv 0 x2 h14 fun x17 =>
 BiP .eql x17 (.int .i64 0) fun x18 =>
 CdP x18
 (Fv 4 x2 h14 fun x20 =>
 LdA 3 x4 h14 fun x21 =>
 BsP st_S_api_Msg 1 [(0, x21)] h14 fun x23 h22 =>
 Ca f_leaf_Apply #[x20, x23] h22 fun x25 h24 =>
 FaP (some 4) x2 fun x26 =>
 StP x26 x25 h24 fun h27 =>
 Fv 4 x2 h27 fun x29 =>
 LenP (some true) x29 fun x30 =>
 Fv 5 x13 h27 fun x32 =>
 BiP .leq x30 x32 fun x33 =>
 m_tree_Tree_direct_j62 x0_ x2 x6 x33 h27 K)
 (Fv 3 x2 h14 fun x35 =>
 Fv 0 x4 h14 fun x37 =>
 Ca f_buf_Find #[x35, x37] h14 fun x39 h38 =>
 ExP x39 0 fun x40 =>
 ExP x39 1 fun x41 =>
 AlP t_api_Msg zt_api_Msg h38 fun x43 h42 =>
 StA 3 x43 x40 h42 fun h44 =>
 CdP x41
 (m_tree_Tree_direct_j54 x0_ x2 x4 x6 (.bool true) h44 K)
 (Fv 3 x2 h44 fun x48 =>
 LenP (some true) x48 fun x49 =>
 Fv 4 x13 h44 fun x51 =>
 BiP .lss x49 x51 fun x52 =>
 m_tree_Tree_direct_j54 x0_ x2 x4 x6 x52 h44 K))
theorem m_tree_Tree_direct_ok {x0_ x1_ x2_ : Value} {h : Heap} {K : Kt} (hh : m_tree_Tree_direct x0_ x1_ x2_ h K) : Ca f_tree_Tree_direct #[x0_, x1_, x2_] h K := cv Tryz.func88 (by kernel_rfl) hh
/- (*sluicegate/tree.Tree).raise -/
def m_tree_Tree_raise (x0_ x1_ : Value) (h : Heap) (K : Kt) : Prop :=
 BxP t_api_Node x1_ h fun x2 h1 =>
 Fl 0 x0_ h1 fun x5 =>
 Fl 1 x0_ h1 fun x8 =>
 LdA 5 x2 h1 fun x9 =>
 Ca f_flow_Raise #[x5, x8, x9] h1 fun x11 h10 =>
 True ∧ (ExP x11 0 fun x12 =>
 ExP x11 1 fun x13 =>
 BiP .neq x13 (.int .i64 0) fun x14 =>
 CdP x14
 (K x13 h10)
 (Fs 1 x0_ x12 h10 fun h17 =>
 Fv 0 x2 h17 fun x19 =>
 BiP .add x19 (.int .i64 1) fun x20 =>
 Fs 2 x0_ x20 h17 fun h23 =>
 Fl 0 x0_ h23 fun x26 =>
 Ca f_shelf_Shelf_Keep #[x26, x12] h23 fun x28 h27 =>
 K x28 h27))
theorem m_tree_Tree_raise_ok {x0_ x1_ : Value} {h : Heap} {K : Kt} (hh : m_tree_Tree_raise x0_ x1_ h K) : Ca f_tree_Tree_raise #[x0_, x1_] h K := cv Tryz.func89 (by kernel_rfl) hh
/- (*sluicegate/tree.Tree).drain -/
def m_tree_Tree_drain_j69 (x0_ x7_ : Value) (h : Heap) (K : Kt) : Prop :=
 NilP x0_ fun x70 =>
 FaP (some 3) x70 fun x71 =>
 Fv 0 x71 h fun x73 =>
 BiP .add x73 (.int .i64 1) fun x74 =>
 NilP x0_ fun x75 =>
 FaP (some 3) x75 fun x76 =>
 FaP (some 0) x76 fun x77 =>
 StP x77 x74 h fun h78 =>
 K x7_ h78
def m_tree_Tree_drain_j68 (x0_ x7_ x80_ : Value) (h : Heap) (K : Kt) : Prop :=
 CdP x80_
 (K (.int .i64 11) h)
 (m_tree_Tree_drain_j69 x0_ x7_ h K)
def m_tree_Tree_drain (x0_ x1_ : Value) (h : Heap) (K : Kt) : Prop :=
 BxP t_api_Msg x1_ h fun x2 h1 =>
 Fl 0 x0_ h1 fun x5 =>
 Fl 1 x0_ h1 fun x8 =>
 Ca f_flow_Drain #[x5, x8] h1 fun x10 h9 =>
 True ∧ (ExP x10 0 fun x11 =>
 ExP x10 1 fun x12 =>
 ExP x10 2 fun x13 =>
 BiP .neq x13 (.int .i64 0) fun x14 =>
 CdP x14
 (K x13 h9)
 (Fs 1 x0_ x11 h9 fun h17 =>
 NilP x0_ fun x18 =>
 FaP (some 3) x18 fun x19 =>
 Fv 1 x19 h17 fun x21 =>
 BiP .add x21 (.int .i64 1) fun x22 =>
 NilP x0_ fun x23 =>
 FaP (some 3) x23 fun x24 =>
 FaP (some 1) x24 fun x25 =>
 StP x25 x22 h17 fun h26 =>
 NilP x0_ fun x27 =>
 FaP (some 3) x27 fun x28 =>
 Fv 2 x28 h26 fun x30 =>
 BiP .add x30 x12 fun x31 =>
 NilP x0_ fun x32 =>
 FaP (some 3) x32 fun x33 =>
 FaP (some 2) x33 fun x34 =>
 StP x34 x31 h26 fun h35 =>
 Fl 0 x0_ h35 fun x38 =>
 Ca f_shelf_Shelf_Load #[x38, x11] h35 fun x40 h39 =>
 ExP x40 0 fun x41 =>
 ExP x40 1 fun x42 =>
 AlP t_api_Node zt_api_Node h39 fun x44 h43 =>
 StA 5 x44 x41 h43 fun h45 =>
 BiP .neq x42 (.int .i64 0) fun x46 =>
 CdP x46
 (K x42 h45)
 (Fv 0 x44 h45 fun x48 =>
 Fs 2 x0_ x48 h45 fun h51 =>
 LdA 5 x44 h51 fun x52 =>
 LdA 3 x2 h51 fun x53 =>
 Ca f_tree_Tree_direct #[x0_, x52, x53] h51 fun x55 h54 =>
 ExP x55 0 fun x56 =>
 ExP x55 1 fun x57 =>
 ExP x55 2 fun x58 =>
 AlP t_api_Node zt_api_Node h54 fun x60 h59 =>
 StA 5 x60 x57 h59 fun h61 =>
 BiP .eql x58 (.int .i64 0) fun x64 =>
 CdP x64
 (UnP .not x56 fun x65 =>
 m_tree_Tree_drain_j68 x0_ x58 x65 h61 K)
 (m_tree_Tree_drain_j68 x0_ x58 (.bool false) h61 K))))
theorem m_tree_Tree_drain_ok {x0_ x1_ : Value} {h : Heap} {K : Kt} (hh : m_tree_Tree_drain x0_ x1_ h K) : Ca f_tree_Tree_drain #[x0_, x1_] h K := cv Tryz.func90 (by kernel_rfl) hh
/- sluicegate/seek.down -/
def m_seek_down_j34 (x0_ x2_ x3_ x8_ x11_ : Value) (h : Heap) (nx2 : Nt) (K : Kt) : Prop :=
 Fv 0 x11_ h fun x36 =>
 ∃ X37 : XS,
 FaP (some 1) x11_ fun x38 =>
 LdX X37 x38 h fun x39 =>
 FaP (some 2) x11_ fun x40 =>
 LdX X37 x40 h fun x41 =>
 Ca f_fan_Way #[x41, x2_] h fun x43 h42 =>
 Agr X37 h h42 ∧ (IxP 1 x39 x43 fun x44 =>
 LdX X37 x44 h fun x45 =>
 nx2 [x8_, x36, x45] h42)
def m_seek_down_j33 (x0_ x2_ x3_ x8_ x11_ x41_ : Value) (h : Heap) (nx2 : Nt) (K : Kt) : Prop :=
 CdP x41_
 (K (.int .i64 0) h)
 (m_seek_down_j34 x0_ x2_ x3_ x8_ x11_ h nx2 K)
def m_seek_down_j21 (x0_ x2_ x3_ x8_ x10_ x11_ : Value) (h : Heap) (nx2 : Nt) (K : Kt) : Prop :=
 LdA 5 x11_ h fun x24 =>
 CvH Pg x3_ #[x10_, x24] h fun x26 h25 =>
 UnP .not x26 fun x27 =>
 CdP x27
 (m_seek_down_j33 x0_ x2_ x3_ x8_ x11_ (.bool true) h25 nx2 K)
 (Fv 0 x11_ h25 fun x30 =>
 BiP .eql x30 (.int .i64 0) fun x31 =>
 m_seek_down_j33 x0_ x2_ x3_ x8_ x11_ x31 h25 nx2 K)
def m_seek_down_j20 (x0_ x2_ x3_ x8_ x10_ x11_ x31_ : Value) (h : Heap) (nx2 : Nt) (K : Kt) : Prop :=
 CdP x31_
 (K (.int .i64 12) h)
 (m_seek_down_j21 x0_ x2_ x3_ x8_ x10_ x11_ h nx2 K)
def m_seek_down_l1 (vs : List Value) (x0_ x2_ x3_ : Value) (h : Heap) (nx2 : Nt) (K : Kt) : Prop :=
 Ca f_shelf_Shelf_Load #[x0_, (gv vs 2)] h fun x4 h3 =>
 ExP x4 0 fun x5 =>
 ExP x4 1 fun x6 =>
 AlP t_api_Node zt_api_Node h3 fun x8 h7 =>
 StA 5 x8 x5 h7 fun h9 =>
 BiP .neq x6 (.int .i64 0) fun x10 =>
 CdP x10
 (K x6 h9)
 (BiP .geq (gv vs 1) (.int .i64 0) fun x13 =>
 CdP x13
 (Fv 0 x8 h9 fun x15 =>
 BiP .sub (gv vs 1) (.int .i64 1) fun x16 =>
 BiP .neq x15 x16 fun x17 =>
 m_seek_down_j20 x0_ x2_ x3_ (gv vs 0) (gv vs 2) x8 x17 h9 nx2 K)
 (m_seek_down_j20 x0_ x2_ x3_ (gv vs 0) (gv vs 2) x8 (.bool false) h9 nx2 K))
def m_seek_down (x0_ x1_ x2_ x3_ : Value) (h : Heap) (K : Kt) : Prop :=
 LoP (fun vt h nx2 => m_seek_down_l1 vt x0_ x2_ x3_ h nx2 K) [(.int .i64 0), (.int .i64 (-1)), x1_] h
theorem m_seek_down_ok {x0_ x1_ x2_ x3_ : Value} {h : Heap} {K : Kt} (hh : m_seek_down x0_ x1_ x2_ x3_ h K) : Ca f_seek_down #[x0_, x1_, x2_, x3_] h K := cv Tryz.func91 (by kernel_rfl) hh
/- sluicegate/seek.Get$1 -/
def m_seek_Get_1 (x0_ x1_ x2_ x3_ : Value) (h : Heap) (K : Kt) : Prop :=
 BxP t_api_Node x1_ h fun x2 h1 =>
 LdA 5 x2 h1 fun x3 =>
 BsP st_S_api_Node 1 [(0, x3)] h1 fun x5 h4 =>
 StP x2_ x5 h4 fun h6 =>
 Fv 3 x2 h6 fun x8 =>
 LdP x3_ h6 fun x9 =>
 Ca f_buf_Find #[x8, x9] h6 fun x11 h10 =>
 ExP x11 0 fun x12 =>
 ExP x11 1 fun x13 =>
 AlP t_api_Msg zt_api_Msg h10 fun x15 h14 =>
 StA 3 x15 x12 h14 fun h16 =>
 UnP .not x13 fun x17 =>
 K x17 h16
theorem m_seek_Get_1_ok {x0_ x1_ x2_ x3_ : Value} {h : Heap} {K : Kt} (hh : m_seek_Get_1 x0_ x1_ x2_ x3_ h K) : Ca f_seek_Get_1 #[x0_, x1_, x2_, x3_] h K := cv Tryz.func92 (by kernel_rfl) hh
/- sluicegate/pour.Value -/
def m_pour_Value_j40 (x1_ x4_ x5_ x10_ x11_ x12_ : Value) (h : Heap) (nx4 : Nt) (K : Kt) : Prop :=
 BiP .add x12_ (.int .i64 1) fun x41 =>
 nx4 [x4_, x5_, x41] h
def m_pour_Value_j37 (x1_ x4_ x5_ x8_ x9_ x10_ x11_ x12_ : Value) (h : Heap) (nx4 : Nt) (K : Kt) : Prop :=
 CdP x9_
 (Fv 2 x8_ h fun x39 =>
 K (.tuple #[x39, (.bool true)]) h)
 (m_pour_Value_j40 x1_ x4_ x5_ x10_ x11_ x12_ h nx4 K)
def m_pour_Value_j36 (x1_ x4_ x5_ x8_ x9_ x10_ x11_ x12_ x36_ : Value) (h : Heap) (nx4 : Nt) (K : Kt) : Prop :=
 CdP x36_
 (K (.tuple #[(.string { data := #[] }), (.bool false)]) h)
 (m_pour_Value_j37 x1_ x4_ x5_ x8_ x9_ x10_ x11_ x12_ h nx4 K)
def m_pour_Value_j42 (h : Heap) (K : Kt) : Prop :=
 K (.tuple #[(.string { data := #[] }), (.bool false)]) h
def m_pour_Value_l3 (vs : List Value) (x1_ x10_ x11_ : Value) (h : Heap) (nx4 : Nt) (K : Kt) : Prop :=
 BiP .lss (gv vs 2) x11_ fun x5 =>
 CdP x5
 (Ea 5 x10_ (gv vs 2) h fun x8 =>
 AlP t_api_Node zt_api_Node h fun x10 h9 =>
 StA 5 x10 x8 h9 fun h11 =>
 Fv 0 x10 h11 fun x13 =>
 BiP .eql x13 (.int .i64 0) fun x14 =>
 CdP x14
 (Fv 4 x10 h11 fun x16 =>
 Ca f_leaf_Get #[x16, x1_] h11 fun x18 h17 =>
 ExP x18 0 fun x19 =>
 ExP x18 1 fun x20 =>
 K (.tuple #[x19, x20]) h17)
 (Fv 3 x10 h11 fun x22 =>
 Ca f_buf_Find #[x22, x1_] h11 fun x24 h23 =>
 ExP x24 0 fun x25 =>
 ExP x24 1 fun x26 =>
 AlP t_api_Msg zt_api_Msg h23 fun x28 h27 =>
 StA 3 x28 x25 h27 fun h29 =>
 CdP x26
 (Fv 1 x28 h29 fun x33 =>
 m_pour_Value_j36 x1_ (gv vs 0) (gv vs 1) x28 x26 x10_ x11_ (gv vs 2) x33 h29 nx4 K)
 (m_pour_Value_j36 x1_ (gv vs 0) (gv vs 1) x28 x26 x10_ x11_ (gv vs 2) (.bool false) h29 nx4 K)))
 (m_pour_Value_j42 h K)
def m_pour_Value (x0_ x1_ : Value) (h : Heap) (K : Kt) : Prop :=
 LenP (some true) x0_ fun x2 =>
 LoP (fun vt h nx4 => m_pour_Value_l3 vt x1_ x0_ x2 h nx4 K) [(.string { data := #[] }), (.bool false), (.int .i64 0)] h
theorem m_pour_Value_ok {x0_ x1_ : Value} {h : Heap} {K : Kt} (hh : m_pour_Value x0_ x1_ h K) : Ca f_pour_Value #[x0_, x1_] h K := cv Tryz.func94 (by kernel_rfl) hh
/- (*sluicegate/scan.scanner).full -/
def m_scan_scanner_full (x0_ : Value) (h : Heap) (K : Kt) : Prop :=
 Fl 2 x0_ h fun x3 =>
 LenP (some true) x3 fun x4 =>
 Fl 1 x0_ h fun x7 =>
 BiP .geq x4 x7 fun x8 =>
 K x8 h
theorem m_scan_scanner_full_ok {x0_ : Value} {h : Heap} {K : Kt} (hh : m_scan_scanner_full x0_ h K) : Ca f_scan_scanner_full #[x0_] h K := cv Tryz.func101 (by kernel_rfl) hh
/- sluicegate/walk.Blocks -/
def m_walk_Blocks (x0_ x1_ : Value) (h : Heap) (K : Kt) : Prop :=
 AlP t_S_uint32 zt_S_uint32 h fun x2 h1 =>
 Ca f_walk_All #[x0_, x1_, (.func (.func f_walk_Blocks_1) #[] #[x2])] h1 fun x4 h3 =>
 BiP .neq x4 (.int .i64 0) fun x5 =>
 CdP x5
 (K (.tuple #[(.slice none 0 0), x4]) h3)
 (LdP x2 h3 fun x6 =>
 Ca f_slices_Sort_uint32 #[x6] h3 fun x8 h7 =>
 LdP x2 h7 fun x9 =>
 K (.tuple #[x9, (.int .i64 0)]) h7)
theorem m_walk_Blocks_ok {x0_ x1_ : Value} {h : Heap} {K : Kt} (hh : m_walk_Blocks x0_ x1_ h K) : Ca f_walk_Blocks #[x0_, x1_] h K := cv Tryz.func111 (by kernel_rfl) hh
/- sluicegate/flow.Raise -/
def m_flow_Raise_j38 (x0_ x1_ x5_ x10_ x11_ x12_ : Value) (h : Heap) (K : Kt) : Prop :=
 LdA 5 x11_ h fun x39 =>
 Ca f_shelf_Shelf_Make #[x0_, x39] h fun x41 h40 =>
 ExP x41 0 fun x42 =>
 ExP x41 1 fun x43 =>
 BiP .neq x43 (.int .i64 0) fun x44 =>
 CdP x44
 (K (.tuple #[(.int .u32 0), x43]) h40)
 (Fv 0 x5_ h40 fun x46 =>
 BiP .add x46 (.int .i64 1) fun x47 =>
 BsP st_S_uint32 2 [(0, x1_), (1, x42)] h40 fun x49 h48 =>
 BsP st_S_string 1 [(0, x12_)] h48 fun x51 h50 =>
 BlP bt_api_Node [(0, x47), (1, x49), (2, x51)] fun x52 =>
 Ca f_shelf_Shelf_Make #[x0_, x52] h50 fun x54 h53 =>
 ExP x54 0 fun x55 =>
 ExP x54 1 fun x56 =>
 BiP .neq x56 (.int .i64 0) fun x57 =>
 CdP x57
 (Ca f_shelf_Shelf_Free #[x0_, x42] h53 fun x59 h58 =>
 K (.tuple #[(.int .u32 0), x56]) h58)
 (LdA 5 x10_ h53 fun x60 =>
 Ca f_shelf_Shelf_Save #[x0_, x1_, x60] h53 fun x62 h61 =>
 K (.tuple #[x55, x62]) h61))
def m_flow_Raise_j34 (x0_ x1_ x5_ x10_ x11_ x12_ x32_ : Value) (h : Heap) (K : Kt) : Prop :=
 CdP x32_
 (K (.tuple #[(.int .u32 0), (.int .i64 8)]) h)
 (Ca f_shelf_Shelf_Left #[x0_] h fun x36 h35 =>
 BiP .lss x36 (.int .i64 2) fun x37 =>
 CdP x37
 (K (.tuple #[(.int .u32 0), (.int .i64 11)]) h35)
 (m_flow_Raise_j38 x0_ x1_ x5_ x10_ x11_ x12_ h35 K))
def m_flow_Raise (x0_ x1_ x2_ : Value) (h : Heap) (K : Kt) : Prop :=
 BxP t_api_Node x2_ h fun x2 h1 =>
 Ca f_shelf_Shelf_Load #[x0_, x1_] h1 fun x4 h3 =>
 ExP x4 0 fun x5 =>
 ExP x4 1 fun x6 =>
 AlP t_api_Node zt_api_Node h3 fun x8 h7 =>
 StA 5 x8 x5 h7 fun h9 =>
 BiP .neq x6 (.int .i64 0) fun x10 =>
 CdP x10
 (K (.tuple #[(.int .u32 0), x6]) h9)
 (LdA 5 x2 h9 fun x11 =>
 Ca f_cleave_Halve #[x11] h9 fun x13 h12 =>
 ExP x13 0 fun x14 =>
 ExP x13 1 fun x15 =>
 ExP x13 2 fun x16 =>
 ExP x13 3 fun x17 =>
 AlP t_api_Node zt_api_Node h12 fun x19 h18 =>
 AlP t_api_Node zt_api_Node h18 fun x21 h20 =>
 StA 5 x19 x14 h20 fun h22 =>
 StA 5 x21 x15 h22 fun h23 =>
 UnP .not x17 fun x26 =>
 CdP x26
 (m_flow_Raise_j34 x0_ x1_ x2 x19 x21 x16 (.bool true) h23 K)
 (Fv 0 x2 h23 fun x29 =>
 Fv 0 x8 h23 fun x31 =>
 BiP .neq x29 x31 fun x32 =>
 m_flow_Raise_j34 x0_ x1_ x2 x19 x21 x16 x32 h23 K))
theorem m_flow_Raise_ok {x0_ x1_ x2_ : Value} {h : Heap} {K : Kt} (hh : m_flow_Raise x0_ x1_ x2_ h K) : Ca f_flow_Raise #[x0_, x1_, x2_] h K := cv Tryz.func132 (by kernel_rfl) hh
/- sluicegate/flow.Drain -/
def m_flow_Drain_j55 (x1_ x8_ x9_ : Value) (h : Heap) (K : Kt) : Prop :=
 BiP .neq x8_ (.int .i64 0) fun x56 =>
 CdP x56
 (K (.tuple #[(.int .u32 0), (.int .i64 0), x8_]) h)
 (K (.tuple #[x1_, x9_, (.int .i64 0)]) h)
def m_flow_Drain_j48 (x0_ x1_ x8_ x9_ : Value) (h : Heap) (K : Kt) : Prop :=
 BiP .eql x8_ (.int .i64 0) fun x50 =>
 CdP x50
 (Ca f_flow_fall #[x0_, x1_] h fun x52 h51 =>
 ExP x52 0 fun x53 =>
 ExP x52 1 fun x54 =>
 m_flow_Drain_j55 x53 x54 x9_ h51 K)
 (m_flow_Drain_j55 x1_ x8_ x9_ h K)
def m_flow_Drain_j43 (x0_ x1_ x8_ x9_ : Value) (h : Heap) (K : Kt) : Prop :=
 BiP .eql x8_ (.int .i64 0) fun x45 =>
 CdP x45
 (Ca f_shelf_Shelf_Keep #[x0_, x1_] h fun x47 h46 =>
 m_flow_Drain_j48 x0_ x1_ x47 x9_ h46 K)
 (m_flow_Drain_j48 x0_ x1_ x8_ x9_ h K)
def m_flow_Drain (x0_ x1_ : Value) (h : Heap) (K : Kt) : Prop :=
 Ca f_shelf_Shelf_Load #[x0_, x1_] h fun x2 h1 =>
 ExP x2 0 fun x3 =>
 ExP x2 1 fun x4 =>
 AlP t_api_Node zt_api_Node h1 fun x6 h5 =>
 StA 5 x6 x3 h5 fun h7 =>
 BiP .neq x4 (.int .i64 0) fun x9 =>
 CdP x9
 (K (.tuple #[(.int .u32 0), (.int .i64 0), x4]) h7)
 (Fv 0 x6 h7 fun x11 =>
 BiP .eql x11 (.int .i64 0) fun x12 =>
 CdP x12
 (K (.tuple #[(.int .u32 0), (.int .i64 0), (.int .i64 8)]) h7)
 (∃ X13 : XS,
 FaP (some 0) x6 fun x14 =>
 LdX X13 x14 h7 fun x15 =>
 BiP .add x15 (.int .i64 3) fun x16 =>
 Ca f_shelf_Shelf_Left #[x0_] h7 fun x18 h17 =>
 Agr X13 h7 h17 ∧ (BiP .lss x18 x16 fun x19 =>
 CdP x19
 (K (.tuple #[(.int .u32 0), (.int .i64 0), (.int .i64 11)]) h17)
 (∃ X21 : XS,
 FaP (some 1) x6 fun x22 =>
 LdX X21 x22 h17 fun x23 =>
 LenP (some true) x23 fun x24 =>
 Ca f_shelf_Shelf_Config #[x0_] h17 fun x26 h25 =>
 Agr X21 h17 h25 ∧ (FdT (some 3) .one x26 fun x27 =>
 BiP .geq x24 x27 fun x28 =>
 CdP x28
 (LdA 5 x6 h25 fun x29 =>
 Ca f_flow_Raise #[x0_, x1_, x29] h25 fun x31 h30 =>
 ExP x31 0 fun x32 =>
 ExP x31 1 fun x33 =>
 m_flow_Drain_j43 x0_ x32 x33 (.int .i64 0) h30 K)
 (Ca f_flow_Road #[x0_, x1_] h25 fun x35 h34 =>
 ExP x35 0 fun x36 =>
 ExP x35 1 fun x37 =>
 BiP .eql x37 (.int .i64 0) fun x38 =>
 CdP x38
 (Ca f_flow_steps #[x0_, x36] h34 fun x40 h39 =>
 ExP x40 0 fun x41 =>
 ExP x40 1 fun x42 =>
 m_flow_Drain_j43 x0_ x1_ x42 x41 h39 K)
 (m_flow_Drain_j43 x0_ x1_ x37 (.int .i64 0) h34 K)))))))
theorem m_flow_Drain_ok {x0_ x1_ : Value} {h : Heap} {K : Kt} (hh : m_flow_Drain x0_ x1_ h K) : Ca f_flow_Drain #[x0_, x1_] h K := cv Tryz.func133 (by kernel_rfl) hh
/- sluicegate/walk.Blocks$1 -/
def m_walk_Blocks_1 (x0_ x1_ x2_ x3_ : Value) (h : Heap) (K : Kt) : Prop :=
 BxP t_api_Node x1_ h fun x2 h1 =>
 BxP t_api_Span x2_ h1 fun x4 h3 =>
 LdP x3_ h3 fun x5 =>
 BsP st_S_uint32 1 [(0, x0_)] h3 fun x7 h6 =>
 VH Pg (Builtin.append_ #[t_S_uint32, t_S_uint32] t_S_uint32 #[x5, x7]) h6 fun x9 h8 =>
 StP x3_ x9 h8 fun h10 =>
 K (.bool true) h10
theorem m_walk_Blocks_1_ok {x0_ x1_ x2_ x3_ : Value} {h : Heap} {K : Kt} (hh : m_walk_Blocks_1 x0_ x1_ x2_ x3_ h K) : Ca f_walk_Blocks_1 #[x0_, x1_, x2_, x3_] h K := cv Tryz.func151 (by kernel_rfl) hh
/- sluicegate/cleave.Halve -/
def m_cleave_Halve (x0_ : Value) (h : Heap) (K : Kt) : Prop :=
 BxP t_api_Node x0_ h fun x2 h1 =>
 AlP t_api_Node zt_api_Node h1 fun x4 h3 =>
 AlP t_api_Node zt_api_Node h3 fun x6 h5 =>
 Fv 0 x2 h5 fun x8 =>
 BiP .eql x8 (.int .i64 0) fun x9 =>
 CdP x9
 (Fv 4 x2 h5 fun x11 =>
 Ca f_leaf_Halve #[x11] h5 fun x13 h12 =>
 ExP x13 0 fun x14 =>
 ExP x13 1 fun x15 =>
 ExP x13 2 fun x16 =>
 ExP x13 3 fun x17 =>
 BlP bt_api_Node [(4, x14)] fun x18 =>
 BlP bt_api_Node [(4, x15)] fun x19 =>
 StA 5 x4 x18 h12 fun h20 =>
 StA 5 x6 x19 h20 fun h21 =>
 LdA 5 x4 h21 fun x22 =>
 LdA 5 x6 h21 fun x23 =>
 K (.tuple #[x22, x23, x16, x17]) h21)
 (Fv 1 x2 h5 fun x25 =>
 LenP (some true) x25 fun x26 =>
 BiP .lss x26 (.int .i64 2) fun x27 =>
 CdP x27
 (BlP bt_api_Node [] fun x28 =>
 BlP bt_api_Node [] fun x29 =>
 StA 5 x4 x28 h5 fun h30 =>
 StA 5 x6 x29 h30 fun h31 =>
 LdA 5 x4 h31 fun x32 =>
 LdA 5 x6 h31 fun x33 =>
 K (.tuple #[x32, x33, (.string { data := #[] }), (.bool false)]) h31)
 (Fv 1 x2 h5 fun x35 =>
 LenP (some true) x35 fun x36 =>
 BiP .add x36 (.int .i64 1) fun x37 =>
 BiP .quo x37 (.int .i64 2) fun x38 =>
 Fv 2 x2 h5 fun x40 =>
 BiP .sub x38 (.int .i64 1) fun x41 =>
 Ei 1 x40 x41 h5 fun x43 =>
 Fv 3 x2 h5 fun x45 =>
 Ca f_buf_Split #[x45, x43] h5 fun x47 h46 =>
 ExP x47 0 fun x48 =>
 ExP x47 1 fun x49 =>
 ∃ X51 : XS,
 FaP (some 0) x2 fun x52 =>
 LdX X51 x52 h46 fun x53 =>
 FaP (some 1) x2 fun x54 =>
 LdX X51 x54 h46 fun x55 =>
 SlP 1 x55 none (some x38) fun x56 =>
 FaP (some 2) x2 fun x57 =>
 LdX X51 x57 h46 fun x58 =>
 BiP .sub x38 (.int .i64 1) fun x59 =>
 SlP 1 x58 none (some x59) fun x60 =>
 Ca f_slices_Clone_uint32 #[x56] h46 fun x62 h61 =>
 Agr X51 h46 h61 ∧ (Ca f_slices_Clone_string #[x60] h61 fun x64 h63 =>
 Agr X51 h46 h63 ∧ (BlP bt_api_Node [(0, x53), (1, x62), (2, x64), (3, x48)] fun x65 =>
 StA 5 x4 x65 h63 fun h66 =>
 True ∧ (∃ X68 : XS,
 FaP (some 0) x2 fun x69 =>
 LdX X68 x69 h66 fun x70 =>
 FaP (some 1) x2 fun x71 =>
 LdX X68 x71 h66 fun x72 =>
 SlP 1 x72 (some x38) none fun x73 =>
 FaP (some 2) x2 fun x74 =>
 LdX X68 x74 h66 fun x75 =>
 SlP 1 x75 (some x38) none fun x76 =>
 Ca f_slices_Clone_uint32 #[x73] h66 fun x78 h77 =>
 Agr X68 h66 h77 ∧ (Ca f_slices_Clone_string #[x76] h77 fun x80 h79 =>
 Agr X68 h66 h79 ∧ (BlP bt_api_Node [(0, x70), (1, x78), (2, x80), (3, x49)] fun x81 =>
 StA 5 x6 x81 h79 fun h82 =>
 True ∧ (∃ X84 : XS,
 LaX X84 5 x4 h82 fun x85 =>
 LaX X84 5 x6 h82 fun x86 =>
 StA 5 x4 x85 h82 fun h87 =>
 Agr X84 h82 h87 ∧ (StA 5 x6 x86 h87 fun h88 =>
 True ∧ (LdA 5 x4 h88 fun x89 =>
 LdA 5 x6 h88 fun x90 =>
 K (.tuple #[x89, x90, x43, (.bool true)]) h88))))))))))
theorem m_cleave_Halve_ok {x0_ : Value} {h : Heap} {K : Kt} (hh : m_cleave_Halve x0_ h K) : Ca f_cleave_Halve #[x0_] h K := cv Tryz.func177 (by kernel_rfl) hh
/- sluicegate/flow.Road -/
def m_flow_Road_j66 (x0_ x4_ x5_ x6_ x8_ x9_ x11_ x12_ : Value) (h : Heap) (nx32 : Nt) (K : Kt) : Prop :=
 LdA 5 x12_ h fun x67 =>
 StA 5 x6_ x67 h fun h68 =>
 True ∧ (nx32 [x4_, x5_, x9_, x11_] h68)
def m_flow_Road_j65 (x0_ x4_ x5_ x6_ x8_ x9_ x11_ x12_ x69_ : Value) (h : Heap) (nx32 : Nt) (K : Kt) : Prop :=
 CdP x69_
 (K (.tuple #[x9_, (.int .i64 0)]) h)
 (m_flow_Road_j66 x0_ x4_ x5_ x6_ x8_ x9_ x11_ x12_ h nx32 K)
def m_flow_Road_l31 (vs : List Value) (x0_ x6_ x8_ : Value) (h : Heap) (nx32 : Nt) (K : Kt) : Prop :=
 LdA 5 x6_ h fun x33 =>
 Ca f_flow_next #[x0_, (gv vs 3), x33] h fun x35 h34 =>
 ExP x35 0 fun x36 =>
 ExP x35 1 fun x37 =>
 ExP x35 2 fun x38 =>
 AlP t_api_Node zt_api_Node h34 fun x40 h39 =>
 StA 5 x40 x37 h39 fun h41 =>
 BiP .neq x38 (.int .i64 0) fun x42 =>
 CdP x42
 (K (.tuple #[(.slice none 0 0), x38]) h41)
 (BsP st_S_uint32 1 [(0, x36)] h41 fun x44 h43 =>
 VH Pg (Builtin.append_ #[t_S_uint32, t_S_uint32] t_S_uint32 #[(gv vs 2), x44]) h43 fun x46 h45 =>
 ∃ X49 : XS,
 FaP (some 0) x40 fun x50 =>
 LdX X49 x50 h45 fun x51 =>
 BiP .eql x51 (.int .i64 0) fun x52 =>
 CdP x52
 (m_flow_Road_j65 x0_ (gv vs 0) (gv vs 1) x6_ x8_ x46 x36 x40 (.bool true) h45 nx32 K)
 (FaP (some 3) x40 fun x54 =>
 LdX X49 x54 h45 fun x55 =>
 LenP (some true) x55 fun x56 =>
 FaP (some 4) x8_ fun x57 =>
 LdX X49 x57 h45 fun x58 =>
 LaX X49 8 x8_ h45 fun x59 =>
 Ca f_conf_Move #[x59] h45 fun x61 h60 =>
 Agr X49 h45 h60 ∧ (BiP .sub x58 x61 fun x62 =>
 BiP .leq x56 x62 fun x63 =>
 m_flow_Road_j65 x0_ (gv vs 0) (gv vs 1) x6_ x8_ x46 x36 x40 x63 h60 nx32 K)))
def m_flow_Road_j28 (x0_ x1_ x6_ x8_ : Value) (h : Heap) (K : Kt) : Prop :=
 BsP st_S_uint32 1 [(0, x1_)] h fun x30 h29 =>
 LoP (fun vt h nx32 => m_flow_Road_l31 vt x0_ x6_ x8_ h nx32 K) [(.slice none 0 0), (.int .i64 0), x30, x1_] h29
def m_flow_Road_j27 (x0_ x1_ x6_ x8_ x26_ : Value) (h : Heap) (K : Kt) : Prop :=
 CdP x26_
 (K (.tuple #[(.slice none 0 0), (.int .i64 8)]) h)
 (m_flow_Road_j28 x0_ x1_ x6_ x8_ h K)
def m_flow_Road (x0_ x1_ : Value) (h : Heap) (K : Kt) : Prop :=
 Ca f_shelf_Shelf_Load #[x0_, x1_] h fun x2 h1 =>
 ExP x2 0 fun x3 =>
 ExP x2 1 fun x4 =>
 AlP t_api_Node zt_api_Node h1 fun x6 h5 =>
 StA 5 x6 x3 h5 fun h7 =>
 Ca f_shelf_Shelf_Config #[x0_] h7 fun x9 h8 =>
 AlP t_api_Config zt_api_Config h8 fun x11 h10 =>
 StA 8 x11 x9 h10 fun h12 =>
 BiP .neq x4 (.int .i64 0) fun x14 =>
 CdP x14
 (K (.tuple #[(.slice none 0 0), x4]) h12)
 (Fv 0 x6 h12 fun x17 =>
 BiP .eql x17 (.int .i64 0) fun x18 =>
 CdP x18
 (m_flow_Road_j27 x0_ x1_ x6 x11 (.bool true) h12 K)
 (Fv 1 x6 h12 fun x21 =>
 LenP (some true) x21 fun x22 =>
 Fv 3 x11 h12 fun x24 =>
 BiP .geq x22 x24 fun x25 =>
 m_flow_Road_j27 x0_ x1_ x6 x11 x25 h12 K))
theorem m_flow_Road_ok {x0_ x1_ : Value} {h : Heap} {K : Kt} (hh : m_flow_Road x0_ x1_ h K) : Ca f_flow_Road #[x0_, x1_] h K := cv Tryz.func179 (by kernel_rfl) hh
/- sluicegate/flow.steps -/
def m_flow_steps_j20 (x6_ : Value) (h : Heap) (K : Kt) : Prop :=
 K (.tuple #[x6_, (.int .i64 0)]) h
def m_flow_steps_l4 (vs : List Value) (x0_ x1_ : Value) (h : Heap) (nx5 : Nt) (K : Kt) : Prop :=
 BiP .gtr (gv vs 3) (.int .i64 0) fun x6 =>
 CdP x6
 (BiP .sub (gv vs 3) (.int .i64 1) fun x8 =>
 Ei 1 x1_ x8 h fun x10 =>
 Ei 1 x1_ (gv vs 3) h fun x12 =>
 Ca f_sluice_Step #[x0_, x10, x12] h fun x14 h13 =>
 True ∧ (ExP x14 0 fun x15 =>
 ExP x14 1 fun x16 =>
 BiP .neq x16 (.int .i64 0) fun x17 =>
 CdP x17
 (K (.tuple #[(.int .i64 0), x16]) h13)
 (BiP .add (gv vs 2) x15 fun x18 =>
 BiP .sub (gv vs 3) (.int .i64 1) fun x19 =>
 nx5 [(gv vs 0), (gv vs 1), x18, x19] h13)))
 (m_flow_steps_j20 (gv vs 2) h K)
def m_flow_steps (x0_ x1_ : Value) (h : Heap) (K : Kt) : Prop :=
 LenP (some true) x1_ fun x2 =>
 BiP .sub x2 (.int .i64 1) fun x3 =>
 LoP (fun vt h nx5 => m_flow_steps_l4 vt x0_ x1_ h nx5 K) [(.int .i64 0), (.int .i64 0), (.int .i64 0), x3] h
theorem m_flow_steps_ok {x0_ x1_ : Value} {h : Heap} {K : Kt} (hh : m_flow_steps x0_ x1_ h K) : Ca f_flow_steps #[x0_, x1_] h K := cv Tryz.func180 (by kernel_rfl) hh
/- sluicegate/flow.fall -/
def m_flow_fall_j89 (x0_ x1_ x4_ x5_ x6_ x9_ x10_ : Value) (h : Heap) (nx7 : Nt) (K : Kt) : Prop :=
 LdA 5 x10_ h fun x90 =>
 Ca f_shelf_Shelf_Save #[x0_, x9_, x90] h fun x92 h91 =>
 BiP .neq x92 (.int .i64 0) fun x93 =>
 CdP x93
 (K (.tuple #[(.int .u32 0), x92]) h91)
 (Ca f_shelf_Shelf_Keep #[x0_, x9_] h91 fun x95 h94 =>
 BiP .neq x95 (.int .i64 0) fun x96 =>
 CdP x96
 (K (.tuple #[(.int .u32 0), x95]) h94)
 (Ca f_shelf_Shelf_Free #[x0_, x1_] h94 fun x98 h97 =>
 BiP .neq x98 (.int .i64 0) fun x99 =>
 CdP x99
 (K (.tuple #[(.int .u32 0), x98]) h97)
 (nx7 [x9_, x4_, x5_] h97)))
def m_flow_fall_j80 (x0_ x1_ x4_ x5_ x6_ x7_ x9_ x10_ x69_ : Value) (h : Heap) (nx7 : Nt) (K : Kt) : Prop :=
 CdP x69_
 (Fv 3 x7_ h fun x82 =>
 Fv 3 x10_ h fun x84 =>
 Ca f_buf_Merge #[x82, x84] h fun x86 h85 =>
 FaP (some 3) x10_ fun x87 =>
 StP x87 x86 h85 fun h88 =>
 m_flow_fall_j89 x0_ x1_ x4_ x5_ x6_ x9_ x10_ h88 nx7 K)
 (K (.tuple #[x1_, (.int .i64 0)]) h)
def m_flow_fall_j55 (x0_ x1_ x4_ x5_ x6_ x7_ x9_ x10_ x47_ : Value) (h : Heap) (nx7 : Nt) (K : Kt) : Prop :=
 CdP x47_
 (Fv 4 x10_ h fun x57 =>
 Fv 3 x7_ h fun x59 =>
 Ca f_leaf_Apply #[x57, x59] h fun x61 h60 =>
 FaP (some 4) x10_ fun x62 =>
 StP x62 x61 h60 fun h63 =>
 m_flow_fall_j89 x0_ x1_ x4_ x5_ x6_ x9_ x10_ h63 nx7 K)
 (Fv 0 x10_ h fun x66 =>
 BiP .gtr x66 (.int .i64 0) fun x67 =>
 CdP x67
 (Fv 3 x10_ h fun x69 =>
 LenP (some true) x69 fun x70 =>
 Fv 3 x7_ h fun x72 =>
 LenP (some true) x72 fun x73 =>
 BiP .add x70 x73 fun x74 =>
 Fv 4 x6_ h fun x76 =>
 BiP .lss x74 x76 fun x77 =>
 m_flow_fall_j80 x0_ x1_ x4_ x5_ x6_ x7_ x9_ x10_ x77 h nx7 K)
 (m_flow_fall_j80 x0_ x1_ x4_ x5_ x6_ x7_ x9_ x10_ (.bool false) h nx7 K))
def m_flow_fall_j25 (x0_ x1_ x4_ x5_ x6_ x7_ : Value) (h : Heap) (nx7 : Nt) (K : Kt) : Prop :=
 Fv 1 x7_ h fun x27 =>
 Ei 1 x27 (.int .i64 0) h fun x29 =>
 Ca f_shelf_Shelf_Load #[x0_, x29] h fun x31 h30 =>
 ExP x31 0 fun x32 =>
 ExP x31 1 fun x33 =>
 AlP t_api_Node zt_api_Node h30 fun x35 h34 =>
 StA 5 x35 x32 h34 fun h36 =>
 BiP .neq x33 (.int .i64 0) fun x38 =>
 CdP x38
 (K (.tuple #[(.int .u32 0), x33]) h36)
 (Fv 0 x35 h36 fun x41 =>
 BiP .eql x41 (.int .i64 0) fun x42 =>
 CdP x42
 (Fv 4 x35 h36 fun x44 =>
 LenP (some true) x44 fun x45 =>
 Fv 3 x7_ h36 fun x47 =>
 LenP (some true) x47 fun x48 =>
 BiP .add x45 x48 fun x49 =>
 Fv 5 x6_ h36 fun x51 =>
 BiP .lss x49 x51 fun x52 =>
 m_flow_fall_j55 x0_ x1_ x4_ x5_ x6_ x7_ x29 x35 x52 h36 nx7 K)
 (m_flow_fall_j55 x0_ x1_ x4_ x5_ x6_ x7_ x29 x35 (.bool false) h36 nx7 K))
def m_flow_fall_j24 (x0_ x1_ x4_ x5_ x6_ x7_ x8_ x29_ : Value) (h : Heap) (nx7 : Nt) (K : Kt) : Prop :=
 CdP x29_
 (K (.tuple #[x1_, x8_]) h)
 (m_flow_fall_j25 x0_ x1_ x4_ x5_ x6_ x7_ h nx7 K)
def m_flow_fall_l6 (vs : List Value) (x0_ x6_ : Value) (h : Heap) (nx7 : Nt) (K : Kt) : Prop :=
 Ca f_shelf_Shelf_Load #[x0_, (gv vs 0)] h fun x9 h8 =>
 ExP x9 0 fun x10 =>
 ExP x9 1 fun x11 =>
 AlP t_api_Node zt_api_Node h8 fun x13 h12 =>
 StA 5 x13 x10 h12 fun h14 =>
 BiP .neq x11 (.int .i64 0) fun x17 =>
 CdP x17
 (m_flow_fall_j24 x0_ (gv vs 0) (gv vs 1) (gv vs 2) x6_ x13 x11 (.bool true) h14 nx7 K)
 (Fv 1 x13 h14 fun x20 =>
 LenP (some true) x20 fun x21 =>
 BiP .neq x21 (.int .i64 1) fun x22 =>
 m_flow_fall_j24 x0_ (gv vs 0) (gv vs 1) (gv vs 2) x6_ x13 x11 x22 h14 nx7 K)
def m_flow_fall (x0_ x1_ : Value) (h : Heap) (K : Kt) : Prop :=
 Ca f_shelf_Shelf_Config #[x0_] h fun x2 h1 =>
 AlP t_api_Config zt_api_Config h1 fun x4 h3 =>
 StA 8 x4 x2 h3 fun h5 =>
 LoP (fun vt h nx7 => m_flow_fall_l6 vt x0_ x4 h nx7 K) [x1_, (.int .u32 0), (.int .i64 0)] h5
theorem m_flow_fall_ok {x0_ x1_ : Value} {h : Heap} {K : Kt} (hh : m_flow_fall x0_ x1_ h K) : Ca f_flow_fall #[x0_, x1_] h K := cv Tryz.func181 (by kernel_rfl) hh
/- sluicegate/flow.next -/
def m_flow_next_j72 (x0_ x7_ x11_ x12_ : Value) (h : Heap) (K : Kt) : Prop :=
 Ca f_shelf_Shelf_Load #[x0_, x11_] h fun x74 h73 =>
 ExP x74 0 fun x75 =>
 ExP x74 1 fun x76 =>
 StA 5 x12_ x75 h73 fun h77 =>
 LdA 5 x12_ h77 fun x78 =>
 StA 5 x7_ x78 h77 fun h79 =>
 True ∧ (LdA 5 x7_ h79 fun x80 =>
 K (.tuple #[x11_, x80, x76]) h79)
def m_flow_next_j44 (x0_ x1_ x5_ x7_ x9_ x11_ x12_ : Value) (h : Heap) (K : Kt) : Prop :=
 Ca f_sluice_Split #[x0_, x1_, x11_] h fun x46 h45 =>
 ExP x46 0 fun x47 =>
 ExP x46 1 fun x48 =>
 BiP .neq x48 (.int .i64 0) fun x49 =>
 CdP x49
 (BlP bt_api_Node [] fun x50 =>
 StA 5 x7_ x50 h45 fun h51 =>
 LdA 5 x7_ h51 fun x52 =>
 K (.tuple #[(.int .u32 0), x52, x48]) h51)
 (Ca f_shelf_Shelf_Load #[x0_, x1_] h45 fun x54 h53 =>
 ExP x54 0 fun x55 =>
 ExP x54 1 fun x56 =>
 StA 5 x5_ x55 h53 fun h57 =>
 BiP .neq x56 (.int .i64 0) fun x58 =>
 CdP x58
 (BlP bt_api_Node [] fun x59 =>
 StA 5 x7_ x59 h57 fun h60 =>
 LdA 5 x7_ h60 fun x61 =>
 K (.tuple #[(.int .u32 0), x61, x56]) h60)
 (LdA 5 x5_ h57 fun x63 =>
 Ca f_node_Loads #[x63] h57 fun x65 h64 =>
 BiP .add x9_ (.int .i64 1) fun x66 =>
 Ei 1 x65 x66 h64 fun x68 =>
 Ei 1 x65 x9_ h64 fun x70 =>
 BiP .gtr x68 x70 fun x71 =>
 CdP x71
 (m_flow_next_j72 x0_ x7_ x47 x12_ h64 K)
 (m_flow_next_j72 x0_ x7_ x11_ x12_ h64 K)))
def m_flow_next_j40 (x0_ x1_ x5_ x7_ x9_ x11_ x12_ x13_ x47_ : Value) (h : Heap) (K : Kt) : Prop :=
 CdP x47_
 (LdA 5 x12_ h fun x41 =>
 StA 5 x7_ x41 h fun h42 =>
 True ∧ (LdA 5 x7_ h42 fun x43 =>
 K (.tuple #[x11_, x43, x13_]) h42))
 (m_flow_next_j44 x0_ x1_ x5_ x7_ x9_ x11_ x12_ h K)
def m_flow_next (x0_ x1_ x2_ : Value) (h : Heap) (K : Kt) : Prop :=
 BxP t_api_Node x2_ h fun x2 h1 =>
 AlP t_api_Node zt_api_Node h1 fun x4 h3 =>
 LdA 5 x2 h3 fun x5 =>
 Ca f_node_Heaviest #[x5] h3 fun x7 h6 =>
 ExP x7 0 fun x8 =>
 ExP x7 1 fun x9 =>
 Fv 1 x2 h6 fun x11 =>
 Ei 1 x11 x8 h6 fun x13 =>
 Ca f_shelf_Shelf_Load #[x0_, x13] h6 fun x15 h14 =>
 ExP x15 0 fun x16 =>
 ExP x15 1 fun x17 =>
 AlP t_api_Node zt_api_Node h14 fun x19 h18 =>
 StA 5 x19 x16 h18 fun h20 =>
 ∃ X23 : XS,
 BiP .neq x17 (.int .i64 0) fun x24 =>
 CdP x24
 (m_flow_next_j40 x0_ x1_ x2 x4 x8 x13 x19 x17 (.bool true) h20 K)
 (FaP (some 0) x19 fun x27 =>
 LdX X23 x27 h20 fun x28 =>
 BiP .eql x28 (.int .i64 0) fun x29 =>
 CdP x29
 (m_flow_next_j40 x0_ x1_ x2 x4 x8 x13 x19 x17 (.bool true) h20 K)
 (FaP (some 1) x19 fun x32 =>
 LdX X23 x32 h20 fun x33 =>
 LenP (some true) x33 fun x34 =>
 Ca f_shelf_Shelf_Config #[x0_] h20 fun x36 h35 =>
 Agr X23 h20 h35 ∧ (FdT (some 3) .one x36 fun x37 =>
 BiP .lss x34 x37 fun x38 =>
 m_flow_next_j40 x0_ x1_ x2 x4 x8 x13 x19 x17 x38 h35 K)))
theorem m_flow_next_ok {x0_ x1_ x2_ : Value} {h : Heap} {K : Kt} (hh : m_flow_next x0_ x1_ x2_ h K) : Ca f_flow_next #[x0_, x1_, x2_] h K := cv Tryz.func223 (by kernel_rfl) hh
/- sluicegate/sluice.Step -/
def m_sluice_Step_j89 (x9_ x11_ : Value) (h : Heap) (K : Kt) : Prop :=
 K (.tuple #[x11_, x9_]) h
def m_sluice_Step_j73 (x0_ x1_ x8_ x9_ x11_ x12_ : Value) (h : Heap) (K : Kt) : Prop :=
 BiP .neq x9_ (.int .i64 0) fun x74 =>
 CdP x74
 (K (.tuple #[(.int .i64 0), x9_]) h)
 (FaP (some 0) x8_ fun x75 =>
 Fv 1 x75 h fun x77 =>
 Fv 10 x8_ h fun x79 =>
 Ei 1 x77 x79 h fun x81 =>
 Ca f_sluice_pair_save #[x8_, x0_, x1_, x81] h fun x83 h82 =>
 BiP .neq x83 (.int .i64 0) fun x84 =>
 CdP x84
 (K (.tuple #[(.int .i64 0), x83]) h82)
 (BiP .neq x12_ (.int .u32 0) fun x86 =>
 CdP x86
 (Ca f_shelf_Shelf_Free #[x0_, x12_] h82 fun x88 h87 =>
 m_sluice_Step_j89 x88 x11_ h87 K)
 (m_sluice_Step_j89 x9_ x11_ h82 K)))
def m_sluice_Step_j68 (x0_ x1_ x8_ x9_ x11_ x61_ : Value) (h : Heap) (K : Kt) : Prop :=
 CdP x61_
 (Ca f_sluice_pair_join #[x8_, x0_] h fun x70 h69 =>
 ExP x70 0 fun x71 =>
 ExP x70 1 fun x72 =>
 m_sluice_Step_j73 x0_ x1_ x8_ x72 x11_ x71 h69 K)
 (m_sluice_Step_j73 x0_ x1_ x8_ x9_ x11_ (.int .u32 0) h K)
def m_sluice_Step_j50 (x0_ x1_ x8_ x9_ x10_ x11_ x42_ : Value) (h : Heap) (K : Kt) : Prop :=
 CdP x42_
 (Ca f_sluice_pair_halve #[x8_, x0_] h fun x52 h51 =>
 ExP x52 0 fun x53 =>
 ExP x52 1 fun x54 =>
 m_sluice_Step_j73 x0_ x1_ x8_ x54 x11_ (.int .u32 0) h51 K)
 (LdA 8 x10_ h fun x56 =>
 Fva 5 5 x8_ h fun x58 =>
 Ca f_sluice_Small #[x56, x58] h fun x60 h59 =>
 CdP x60
 (FaP (some 0) x8_ fun x61 =>
 Fv 1 x61 h59 fun x63 =>
 LenP (some true) x63 fun x64 =>
 BiP .gtr x64 (.int .i64 1) fun x65 =>
 m_sluice_Step_j68 x0_ x1_ x8_ x9_ x11_ x65 h59 K)
 (m_sluice_Step_j68 x0_ x1_ x8_ x9_ x11_ (.bool false) h59 K))
def m_sluice_Step (x0_ x1_ x2_ : Value) (h : Heap) (K : Kt) : Prop :=
 Ca f_sluice_both #[x0_, x1_, x2_] h fun x2 h1 =>
 ExP x2 0 fun x3 =>
 ExP x2 1 fun x4 =>
 AlP t_sluice_pair zt_sluice_pair h1 fun x6 h5 =>
 StA 11 x6 x3 h5 fun h7 =>
 BiP .neq x4 (.int .i64 0) fun x8 =>
 CdP x8
 (K (.tuple #[(.int .i64 0), x4]) h7)
 (Ca f_shelf_Shelf_Config #[x0_] h7 fun x10 h9 =>
 AlP t_api_Config zt_api_Config h9 fun x12 h11 =>
 StA 8 x12 x10 h11 fun h13 =>
 ∃ X15 : XS,
 LaX X15 8 x12 h13 fun x16 =>
 FaP (some 0) x6 fun x17 =>
 LaX X15 5 x17 h13 fun x18 =>
 FaP (some 10) x6 fun x19 =>
 LdX X15 x19 h13 fun x20 =>
 FaP (some 5) x6 fun x21 =>
 LaX X15 5 x21 h13 fun x22 =>
 LaX X15 8 x12 h13 fun x23 =>
 Ca f_conf_Move #[x23] h13 fun x25 h24 =>
 Agr X15 h13 h24 ∧ (Ca f_pour_Pour #[x16, x18, x20, x22, x25] h24 fun x27 h26 =>
 True ∧ (ExP x27 0 fun x28 =>
 ExP x27 1 fun x29 =>
 ExP x27 2 fun x30 =>
 FaP (some 0) x6 fun x31 =>
 StA 5 x31 x28 h26 fun h32 =>
 True ∧ (FaP (some 5) x6 fun x33 =>
 StA 5 x33 x29 h32 fun h34 =>
 True ∧ (FaP (some 5) x6 fun x37 =>
 Fv 0 x37 h34 fun x39 =>
 BiP .eql x39 (.int .i64 0) fun x40 =>
 CdP x40
 (FaP (some 5) x6 fun x41 =>
 Fv 4 x41 h34 fun x43 =>
 LenP (some true) x43 fun x44 =>
 Fv 5 x12 h34 fun x46 =>
 BiP .gtr x44 x46 fun x47 =>
 m_sluice_Step_j50 x0_ x1_ x6 x4 x12 x30 x47 h34 K)
 (m_sluice_Step_j50 x0_ x1_ x6 x4 x12 x30 (.bool false) h34 K))))))
theorem m_sluice_Step_ok {x0_ x1_ x2_ : Value} {h : Heap} {K : Kt} (hh : m_sluice_Step x0_ x1_ x2_ h K) : Ca f_sluice_Step #[x0_, x1_, x2_] h K := cv Tryz.func225 (by kernel_rfl) hh
/- sluicegate/sluice.Split -/
def m_sluice_Split (x0_ x1_ x2_ : Value) (h : Heap) (K : Kt) : Prop :=
 Ca f_sluice_both #[x0_, x1_, x2_] h fun x2 h1 =>
 ExP x2 0 fun x3 =>
 ExP x2 1 fun x4 =>
 AlP t_sluice_pair zt_sluice_pair h1 fun x6 h5 =>
 StA 11 x6 x3 h5 fun h7 =>
 BiP .neq x4 (.int .i64 0) fun x8 =>
 CdP x8
 (K (.tuple #[(.int .u32 0), x4]) h7)
 (∃ X9 : XS,
 FaP (some 0) x6 fun x10 =>
 FaP (some 1) x10 fun x11 =>
 LdX X9 x11 h7 fun x12 =>
 LenP (some true) x12 fun x13 =>
 Ca f_shelf_Shelf_Config #[x0_] h7 fun x15 h14 =>
 Agr X9 h7 h14 ∧ (FdT (some 3) .one x15 fun x16 =>
 BiP .geq x13 x16 fun x17 =>
 CdP x17
 (K (.tuple #[(.int .u32 0), (.int .i64 8)]) h14)
 (Ca f_sluice_pair_halve #[x6, x0_] h14 fun x19 h18 =>
 ExP x19 0 fun x20 =>
 ExP x19 1 fun x21 =>
 BiP .neq x21 (.int .i64 0) fun x22 =>
 CdP x22
 (K (.tuple #[(.int .u32 0), x21]) h18)
 (Ca f_sluice_pair_save #[x6, x0_, x1_, x2_] h18 fun x24 h23 =>
 K (.tuple #[x20, x24]) h23))))
theorem m_sluice_Split_ok {x0_ x1_ x2_ : Value} {h : Heap} {K : Kt} (hh : m_sluice_Split x0_ x1_ x2_ h K) : Ca f_sluice_Split #[x0_, x1_, x2_] h K := cv Tryz.func254 (by kernel_rfl) hh
/- sluicegate/sluice.both -/
def m_sluice_both (x0_ x1_ x2_ : Value) (h : Heap) (K : Kt) : Prop :=
 AlP t_sluice_pair zt_sluice_pair h fun x2 h1 =>
 Ca f_shelf_Shelf_Load #[x0_, x1_] h1 fun x4 h3 =>
 ExP x4 0 fun x5 =>
 ExP x4 1 fun x6 =>
 AlP t_api_Node zt_api_Node h3 fun x8 h7 =>
 StA 5 x8 x5 h7 fun h9 =>
 BiP .neq x6 (.int .i64 0) fun x10 =>
 CdP x10
 (BlP bt_sluice_pair [] fun x11 =>
 StA 11 x2 x11 h9 fun h12 =>
 LdA 11 x2 h12 fun x13 =>
 K (.tuple #[x13, x6]) h12)
 (Ca f_shelf_Shelf_Load #[x0_, x2_] h9 fun x15 h14 =>
 ExP x15 0 fun x16 =>
 ExP x15 1 fun x17 =>
 AlP t_api_Node zt_api_Node h14 fun x19 h18 =>
 StA 5 x19 x16 h18 fun h20 =>
 BiP .neq x17 (.int .i64 0) fun x21 =>
 CdP x21
 (BlP bt_sluice_pair [] fun x22 =>
 StA 11 x2 x22 h20 fun h23 =>
 LdA 11 x2 h23 fun x24 =>
 K (.tuple #[x24, x17]) h23)
 (LdA 5 x8 h20 fun x25 =>
 Ca f_node_Find #[x25, x2_] h20 fun x27 h26 =>
 ExP x27 0 fun x28 =>
 ExP x27 1 fun x29 =>
 UnP .not x29 fun x31 =>
 CdP x31
 (BlP bt_sluice_pair [] fun x32 =>
 StA 11 x2 x32 h26 fun h33 =>
 LdA 11 x2 h33 fun x34 =>
 K (.tuple #[x34, (.int .i64 9)]) h33)
 (Fv 0 x19 h26 fun x36 =>
 Fv 0 x8 h26 fun x38 =>
 BiP .sub x38 (.int .i64 1) fun x39 =>
 BiP .neq x36 x39 fun x40 =>
 CdP x40
 (BlP bt_sluice_pair [] fun x41 =>
 StA 11 x2 x41 h26 fun h42 =>
 LdA 11 x2 h42 fun x43 =>
 K (.tuple #[x43, (.int .i64 12)]) h42)
 (LdA 5 x8 h26 fun x44 =>
 LdA 5 x19 h26 fun x45 =>
 BlP bt_sluice_pair [(0, x44), (1, x45), (2, x28)] fun x46 =>
 StA 11 x2 x46 h26 fun h47 =>
 LdA 11 x2 h47 fun x48 =>
 K (.tuple #[x48, (.int .i64 0)]) h47))))
theorem m_sluice_both_ok {x0_ x1_ x2_ : Value} {h : Heap} {K : Kt} (hh : m_sluice_both x0_ x1_ x2_ h K) : Ca f_sluice_both #[x0_, x1_, x2_] h K := cv Tryz.func256 (by kernel_rfl) hh
/- sluicegate/pour.Pour -/
def m_pour_Pour_j131 (x6_ x8_ x10_ x11_ x15_ : Value) (h : Heap) (K : Kt) : Prop :=
 ∃ X133 : XS,
 LaX X133 5 x6_ h fun x134 =>
 LaX X133 5 x8_ h fun x135 =>
 LenP (some true) x15_ fun x136 =>
 StA 5 x10_ x134 h fun h137 =>
 Agr X133 h h137 ∧ (StA 5 x11_ x135 h137 fun h138 =>
 True ∧ (LdA 5 x10_ h138 fun x139 =>
 LdA 5 x11_ h138 fun x140 =>
 K (.tuple #[x139, x140, x136]) h138))
def m_pour_Pour_j105 (x4_ x6_ x8_ x10_ x11_ x13_ : Value) (h : Heap) (K : Kt) : Prop :=
 Fv 3 x6_ h fun x107 =>
 LdA 3 x13_ h fun x108 =>
 Ca f_buf_Take #[x107, x108, x4_] h fun x110 h109 =>
 ExP x110 0 fun x111 =>
 ExP x110 1 fun x112 =>
 FaP (some 3) x6_ fun x113 =>
 StP x113 x112 h109 fun h114 =>
 Fv 0 x8_ h114 fun x117 =>
 BiP .eql x117 (.int .i64 0) fun x118 =>
 CdP x118
 (Fv 4 x8_ h114 fun x120 =>
 Ca f_leaf_Apply #[x120, x111] h114 fun x122 h121 =>
 FaP (some 4) x8_ fun x123 =>
 StP x123 x122 h121 fun h124 =>
 m_pour_Pour_j131 x6_ x8_ x10_ x11_ x111 h124 K)
 (Fv 3 x8_ h114 fun x126 =>
 Ca f_buf_Merge #[x111, x126] h114 fun x128 h127 =>
 FaP (some 3) x8_ fun x129 =>
 StP x129 x128 h127 fun h130 =>
 m_pour_Pour_j131 x6_ x8_ x10_ x11_ x111 h130 K)
def m_pour_Pour_j83 (x4_ x5_ x6_ x8_ x10_ x11_ x13_ x14_ : Value) (h : Heap) (K : Kt) : Prop :=
 UnP .not x14_ fun x84 =>
 CdP x84
 (∃ X86 : XS,
 LaX X86 5 x6_ h fun x87 =>
 LaX X86 5 x8_ h fun x88 =>
 StA 5 x10_ x87 h fun h89 =>
 Agr X86 h h89 ∧ (StA 5 x11_ x88 h89 fun h90 =>
 True ∧ (LdA 5 x10_ h90 fun x91 =>
 LdA 5 x11_ h90 fun x92 =>
 K (.tuple #[x91, x92, (.int .i64 0)]) h90)))
 (Fv 0 x8_ h fun x95 =>
 BiP .gtr x95 (.int .i64 0) fun x96 =>
 CdP x96
 (Fv 4 x5_ h fun x98 =>
 Fv 3 x8_ h fun x100 =>
 LenP (some true) x100 fun x101 =>
 BiP .sub x98 x101 fun x102 =>
 VH Pg (Builtin.min_ #[t_int, t_int] t_int #[x4_, x102]) h fun x104 h103 =>
 m_pour_Pour_j105 x104 x6_ x8_ x10_ x11_ x13_ h103 K)
 (m_pour_Pour_j105 x4_ x6_ x8_ x10_ x11_ x13_ h K))
def m_pour_Pour_j53 (x2_ x4_ x5_ x6_ x8_ x10_ x11_ : Value) (h : Heap) (K : Kt) : Prop :=
 ∃ X55 : XS,
 FaP (some 2) x6_ fun x56 =>
 LdX X55 x56 h fun x57 =>
 (Ca f_lex_All #[] h fun x59 h58 =>
 Agr X55 h h58 ∧ ((Ca f_fan_Span #[x57, x2_, x59] h58 fun x61 h60 =>
 True ∧ (ExP x61 0 fun x62 =>
 ExP x61 1 fun x63 =>
 AlP t_api_Span zt_api_Span h60 fun x65 h64 =>
 Agr X55 h h64 ∧ (StA 3 x65 x62 h64 fun h66 =>
 True ∧ (m_pour_Pour_j83 x4_ x5_ x6_ x8_ x10_ x11_ x65 x63 h66 K)))) ∧
 (AlP t_api_Span zt_api_Span h58 fun x68 h67 =>
 Agr X55 h h67 ∧ (Ca f_fan_Span #[x57, x2_, x59] h67 fun x70 h69 =>
 True ∧ (ExP x70 0 fun x71 =>
 ExP x70 1 fun x72 =>
 StA 3 x68 x71 h69 fun h73 =>
 True ∧ (m_pour_Pour_j83 x4_ x5_ x6_ x8_ x10_ x11_ x68 x72 h73 K)))))) ∧
 (AlP t_api_Span zt_api_Span h fun x75 h74 =>
 Agr X55 h h74 ∧ (Ca f_lex_All #[] h74 fun x77 h76 =>
 Agr X55 h h76 ∧ (Ca f_fan_Span #[x57, x2_, x77] h76 fun x79 h78 =>
 True ∧ (ExP x79 0 fun x80 =>
 ExP x79 1 fun x81 =>
 StA 3 x75 x80 h78 fun h82 =>
 True ∧ (m_pour_Pour_j83 x4_ x5_ x6_ x8_ x10_ x11_ x75 x81 h82 K)))))
def m_pour_Pour_j44 (x2_ x4_ x5_ x6_ x8_ x10_ x11_ x41_ : Value) (h : Heap) (K : Kt) : Prop :=
 CdP x41_
 (∃ X46 : XS,
 LaX X46 5 x6_ h fun x47 =>
 LaX X46 5 x8_ h fun x48 =>
 StA 5 x10_ x47 h fun h49 =>
 Agr X46 h h49 ∧ (StA 5 x11_ x48 h49 fun h50 =>
 True ∧ (LdA 5 x10_ h50 fun x51 =>
 LdA 5 x11_ h50 fun x52 =>
 K (.tuple #[x51, x52, (.int .i64 0)]) h50)))
 (m_pour_Pour_j53 x2_ x4_ x5_ x6_ x8_ x10_ x11_ h K)
def m_pour_Pour (x0_ x1_ x2_ x3_ x4_ : Value) (h : Heap) (K : Kt) : Prop :=
 BxP t_api_Config x0_ h fun x2 h1 =>
 BxP t_api_Node x1_ h1 fun x4 h3 =>
 BxP t_api_Node x3_ h3 fun x6 h5 =>
 AlP t_api_Node zt_api_Node h5 fun x8 h7 =>
 AlP t_api_Node zt_api_Node h7 fun x10 h9 =>
 ∃ X12 : XS,
 LaX X12 5 x4 h9 fun x13 =>
 LaX X12 5 x6 h9 fun x14 =>
 Ca f_node_Clone #[x13] h9 fun x16 h15 =>
 Agr X12 h9 h15 ∧ (Ca f_node_Clone #[x14] h15 fun x18 h17 =>
 True ∧ (StA 5 x4 x16 h17 fun h19 =>
 True ∧ (StA 5 x6 x18 h19 fun h20 =>
 True ∧ (BiP .lss x2_ (.int .i64 0) fun x23 =>
 CdP x23
 (m_pour_Pour_j44 x2_ x4_ x2 x4 x6 x8 x10 (.bool true) h20 K)
 (Fv 1 x4 h20 fun x28 =>
 LenP (some true) x28 fun x29 =>
 BiP .geq x2_ x29 fun x30 =>
 CdP x30
 (m_pour_Pour_j44 x2_ x4_ x2 x4 x6 x8 x10 (.bool true) h20 K)
 (Fv 0 x4 h20 fun x35 =>
 Fv 0 x6 h20 fun x37 =>
 BiP .add x37 (.int .i64 1) fun x38 =>
 BiP .neq x35 x38 fun x39 =>
 CdP x39
 (m_pour_Pour_j44 x2_ x4_ x2 x4 x6 x8 x10 (.bool true) h20 K)
 (BiP .lss x4_ (.int .i64 1) fun x42 =>
 m_pour_Pour_j44 x2_ x4_ x2 x4 x6 x8 x10 x42 h20 K)))))))
theorem m_pour_Pour_ok {x0_ x1_ x2_ x3_ x4_ : Value} {h : Heap} {K : Kt} (hh : m_pour_Pour x0_ x1_ x2_ x3_ x4_ h K) : Ca f_pour_Pour #[x0_, x1_, x2_, x3_, x4_] h K := cv Tryz.func257 (by kernel_rfl) hh
/- (*sluicegate/sluice.pair).halve -/
def m_sluice_pair_halve (x0_ x1_ : Value) (h : Heap) (K : Kt) : Prop :=
 Fla 5 5 x0_ h fun x3 =>
 Ca f_cleave_Halve #[x3] h fun x5 h4 =>
 ExP x5 0 fun x6 =>
 ExP x5 1 fun x7 =>
 ExP x5 2 fun x8 =>
 ExP x5 3 fun x9 =>
 AlP t_api_Node zt_api_Node h4 fun x11 h10 =>
 AlP t_api_Node zt_api_Node h10 fun x13 h12 =>
 StA 5 x11 x6 h12 fun h14 =>
 StA 5 x13 x7 h14 fun h15 =>
 UnP .not x9 fun x16 =>
 CdP x16
 (K (.tuple #[(.int .u32 0), (.int .i64 8)]) h15)
 (LdA 5 x13 h15 fun x17 =>
 Ca f_shelf_Shelf_Make #[x1_, x17] h15 fun x19 h18 =>
 ExP x19 0 fun x20 =>
 ExP x19 1 fun x21 =>
 BiP .neq x21 (.int .i64 0) fun x22 =>
 CdP x22
 (K (.tuple #[(.int .u32 0), x21]) h18)
 (LdA 5 x11 h18 fun x23 =>
 NilP x0_ fun x24 =>
 FaP (some 5) x24 fun x25 =>
 StA 5 x25 x23 h18 fun h26 =>
 ∃ X28 : XS,
 NilP x0_ fun x29 =>
 FaP (some 0) x29 fun x30 =>
 FaP (some 1) x30 fun x31 =>
 LdX X28 x31 h26 fun x32 =>
 NilP x0_ fun x33 =>
 FaP (some 10) x33 fun x34 =>
 LdX X28 x34 h26 fun x35 =>
 BiP .add x35 (.int .i64 1) fun x36 =>
 BsP st_S_uint32 1 [(0, x20)] h26 fun x38 h37 =>
 Agr X28 h26 h37 ∧ (Ca f_slices_Insert_uint32 #[x32, x36, x38] h37 fun x40 h39 =>
 True ∧ (NilP x0_ fun x41 =>
 FaP (some 0) x41 fun x42 =>
 FaP (some 1) x42 fun x43 =>
 StP x43 x40 h39 fun h44 =>
 True ∧ (NilP x0_ fun x46 =>
 FaP (some 0) x46 fun x47 =>
 Fv 2 x47 h44 fun x49 =>
 Fl 10 x0_ h44 fun x52 =>
 Ca f_fan_Insert #[x49, x52, x8] h44 fun x54 h53 =>
 True ∧ (NilP x0_ fun x55 =>
 FaP (some 0) x55 fun x56 =>
 FaP (some 2) x56 fun x57 =>
 StP x57 x54 h53 fun h58 =>
 True ∧ (K (.tuple #[x20, (.int .i64 0)]) h58)))))))
theorem m_sluice_pair_halve_ok {x0_ x1_ : Value} {h : Heap} {K : Kt} (hh : m_sluice_pair_halve x0_ x1_ h K) : Ca f_sluice_pair_halve #[x0_, x1_] h K := cv Tryz.func258 (by kernel_rfl) hh
/- sluicegate/sluice.Small -/
def m_sluice_Small (x0_ x1_ : Value) (h : Heap) (K : Kt) : Prop :=
 BxP t_api_Config x0_ h fun x2 h1 =>
 BxP t_api_Node x1_ h1 fun x4 h3 =>
 Fv 0 x4 h3 fun x6 =>
 BiP .eql x6 (.int .i64 0) fun x7 =>
 CdP x7
 (Fv 4 x4 h3 fun x9 =>
 LenP (some true) x9 fun x10 =>
 Fv 5 x2 h3 fun x12 =>
 BiP .quo x12 (.int .i64 4) fun x13 =>
 BiP .leq x10 x13 fun x14 =>
 K x14 h3)
 (Fv 1 x4 h3 fun x16 =>
 LenP (some true) x16 fun x17 =>
 Fv 3 x2 h3 fun x19 =>
 BiP .quo x19 (.int .i64 4) fun x20 =>
 BiP .leq x17 x20 fun x21 =>
 K x21 h3)
theorem m_sluice_Small_ok {x0_ x1_ : Value} {h : Heap} {K : Kt} (hh : m_sluice_Small x0_ x1_ h K) : Ca f_sluice_Small #[x0_, x1_] h K := cv Tryz.func259 (by kernel_rfl) hh
/- (*sluicegate/sluice.pair).join -/
def m_sluice_pair_join_j74 (x0_ x1_ x6_ x10_ x11_ : Value) (h : Heap) (K : Kt) : Prop :=
 ∃ X77 : XS,
 LaX X77 5 x10_ h fun x78 =>
 LaX X77 5 x11_ h fun x79 =>
 Ca f_shelf_Shelf_Config #[x1_] h fun x81 h80 =>
 Agr X77 h h80 ∧ (Ca f_cleave_Fits #[x81, x78, x79] h80 fun x83 h82 =>
 True ∧ (UnP .not x83 fun x84 =>
 CdP x84
 (K (.tuple #[(.int .u32 0), (.int .i64 0)]) h82)
 (NilP x0_ fun x85 =>
 FaP (some 0) x85 fun x86 =>
 Fv 1 x86 h82 fun x88 =>
 BiP .add x6_ (.int .i64 1) fun x89 =>
 Ei 1 x88 x89 h82 fun x91 =>
 LdA 5 x10_ h82 fun x93 =>
 NilP x0_ fun x94 =>
 FaP (some 0) x94 fun x95 =>
 Fv 2 x95 h82 fun x97 =>
 Ei 1 x97 x6_ h82 fun x99 =>
 LdA 5 x11_ h82 fun x100 =>
 Ca f_cleave_Join #[x93, x99, x100] h82 fun x102 h101 =>
 True ∧ (ExP x102 0 fun x103 =>
 ExP x102 1 fun x104 =>
 NilP x0_ fun x105 =>
 FaP (some 5) x105 fun x106 =>
 StA 5 x106 x103 h101 fun h107 =>
 True ∧ (NilP x0_ fun x108 =>
 FaP (some 0) x108 fun x109 =>
 Fv 1 x109 h107 fun x111 =>
 BiP .add x6_ (.int .i64 1) fun x112 =>
 BiP .add x6_ (.int .i64 2) fun x113 =>
 Ca f_slices_Delete_uint32 #[x111, x112, x113] h107 fun x115 h114 =>
 NilP x0_ fun x116 =>
 FaP (some 0) x116 fun x117 =>
 FaP (some 1) x117 fun x118 =>
 StP x118 x115 h114 fun h119 =>
 NilP x0_ fun x120 =>
 FaP (some 0) x120 fun x121 =>
 Fv 2 x121 h119 fun x123 =>
 Ca f_fan_Remove #[x123, x6_] h119 fun x125 h124 =>
 NilP x0_ fun x126 =>
 FaP (some 0) x126 fun x127 =>
 FaP (some 2) x127 fun x128 =>
 StP x128 x125 h124 fun h129 =>
 Fs 10 x0_ x6_ h129 fun h132 =>
 K (.tuple #[x91, (.int .i64 0)]) h132)))))
def m_sluice_pair_join_j61 (x0_ x1_ x6_ x7_ x8_ x10_ x11_ : Value) (h : Heap) (K : Kt) : Prop :=
 Fl 10 x0_ h fun x65 =>
 BiP .lss x7_ x65 fun x66 =>
 CdP x66
 (∃ X67 : XS,
 LaX X67 5 x8_ h fun x68 =>
 NilP x0_ fun x69 =>
 FaP (some 5) x69 fun x70 =>
 LaX X67 5 x70 h fun x71 =>
 StA 5 x10_ x68 h fun h72 =>
 Agr X67 h h72 ∧ (StA 5 x11_ x71 h72 fun h73 =>
 True ∧ (m_sluice_pair_join_j74 x0_ x1_ x6_ x10_ x11_ h73 K)))
 (m_sluice_pair_join_j74 x0_ x1_ x6_ x10_ x11_ h K)
def m_sluice_pair_join_j20 (x0_ x1_ x6_ x7_ : Value) (h : Heap) (K : Kt) : Prop :=
 NilP x0_ fun x21 =>
 FaP (some 0) x21 fun x22 =>
 Fv 1 x22 h fun x24 =>
 Ei 1 x24 x7_ h fun x26 =>
 Ca f_shelf_Shelf_Load #[x1_, x26] h fun x28 h27 =>
 ExP x28 0 fun x29 =>
 ExP x28 1 fun x30 =>
 AlP t_api_Node zt_api_Node h27 fun x32 h31 =>
 StA 5 x32 x29 h31 fun h33 =>
 BiP .neq x30 (.int .i64 0) fun x35 =>
 CdP x35
 (K (.tuple #[(.int .u32 0), x30]) h33)
 (Fv 0 x32 h33 fun x37 =>
 NilP x0_ fun x38 =>
 FaP (some 5) x38 fun x39 =>
 Fv 0 x39 h33 fun x41 =>
 BiP .neq x37 x41 fun x42 =>
 CdP x42
 (K (.tuple #[(.int .u32 0), (.int .i64 12)]) h33)
 (∃ X44 : XS,
 NilP x0_ fun x45 =>
 FaP (some 5) x45 fun x46 =>
 LaX X44 5 x46 h33 fun x47 =>
 LaX X44 5 x32 h33 fun x48 =>
 (AlP t_api_Node zt_api_Node h33 fun x50 h49 =>
 Agr X44 h33 h49 ∧ (AlP t_api_Node zt_api_Node h49 fun x52 h51 =>
 Agr X44 h33 h51 ∧ (StA 5 x50 x47 h51 fun h53 =>
 Agr X44 h33 h53 ∧ (StA 5 x52 x48 h53 fun h54 =>
 True ∧ (m_sluice_pair_join_j61 x0_ x1_ x6_ x7_ x32 x50 x52 h54 K))))) ∧
 (AlP t_api_Node zt_api_Node h33 fun x56 h55 =>
 Agr X44 h33 h55 ∧ (AlP t_api_Node zt_api_Node h55 fun x58 h57 =>
 Agr X44 h33 h57 ∧ (StA 5 x58 x47 h57 fun h59 =>
 Agr X44 h33 h59 ∧ (StA 5 x56 x48 h59 fun h60 =>
 True ∧ (m_sluice_pair_join_j61 x0_ x1_ x6_ x7_ x32 x58 x56 h60 K)))))))
def m_sluice_pair_join_j13 (x0_ x1_ x6_ : Value) (h : Heap) (K : Kt) : Prop :=
 Fl 10 x0_ h fun x17 =>
 BiP .eql x6_ x17 fun x18 =>
 CdP x18
 (BiP .add x6_ (.int .i64 1) fun x19 =>
 m_sluice_pair_join_j20 x0_ x1_ x6_ x19 h K)
 (m_sluice_pair_join_j20 x0_ x1_ x6_ x6_ h K)
def m_sluice_pair_join (x0_ x1_ : Value) (h : Heap) (K : Kt) : Prop :=
 Fl 10 x0_ h fun x3 =>
 NilP x0_ fun x5 =>
 FaP (some 0) x5 fun x6 =>
 Fv 1 x6 h fun x8 =>
 LenP (some true) x8 fun x9 =>
 BiP .sub x9 (.int .i64 1) fun x10 =>
 BiP .eql x3 x10 fun x11 =>
 CdP x11
 (BiP .sub x3 (.int .i64 1) fun x12 =>
 m_sluice_pair_join_j13 x0_ x1_ x12 h K)
 (m_sluice_pair_join_j13 x0_ x1_ x3 h K)
theorem m_sluice_pair_join_ok {x0_ x1_ : Value} {h : Heap} {K : Kt} (hh : m_sluice_pair_join x0_ x1_ h K) : Ca f_sluice_pair_join #[x0_, x1_] h K := cv Tryz.func260 (by kernel_rfl) hh
/- (*sluicegate/sluice.pair).save -/
def m_sluice_pair_save (x0_ x1_ x2_ x3_ : Value) (h : Heap) (K : Kt) : Prop :=
 Fla 5 5 x0_ h fun x3 =>
 Ca f_shelf_Shelf_Save #[x1_, x3_, x3] h fun x5 h4 =>
 BiP .neq x5 (.int .i64 0) fun x6 =>
 CdP x6
 (K x5 h4)
 (Fla 0 5 x0_ h4 fun x9 =>
 Ca f_shelf_Shelf_Save #[x1_, x2_, x9] h4 fun x11 h10 =>
 K x11 h10)
theorem m_sluice_pair_save_ok {x0_ x1_ x2_ x3_ : Value} {h : Heap} {K : Kt} (hh : m_sluice_pair_save x0_ x1_ x2_ x3_ h K) : Ca f_sluice_pair_save #[x0_, x1_, x2_, x3_] h K := cv Tryz.func261 (by kernel_rfl) hh
/- sluicegate/cleave.Fits -/
def m_cleave_Fits_j50 (x6_ : Value) (h : Heap) (K : Kt) : Prop :=
 K x6_ h
def m_cleave_Fits (x0_ x1_ x2_ : Value) (h : Heap) (K : Kt) : Prop :=
 BxP t_api_Config x0_ h fun x2 h1 =>
 BxP t_api_Node x1_ h1 fun x4 h3 =>
 BxP t_api_Node x2_ h3 fun x6 h5 =>
 Fv 0 x4 h5 fun x8 =>
 Fv 0 x6 h5 fun x10 =>
 BiP .neq x8 x10 fun x11 =>
 CdP x11
 (K (.bool false) h5)
 (Fv 0 x4 h5 fun x13 =>
 BiP .eql x13 (.int .i64 0) fun x14 =>
 CdP x14
 (Fv 4 x4 h5 fun x16 =>
 LenP (some true) x16 fun x17 =>
 Fv 4 x6 h5 fun x19 =>
 LenP (some true) x19 fun x20 =>
 BiP .add x17 x20 fun x21 =>
 Fv 5 x2 h5 fun x23 =>
 BiP .quo x23 (.int .i64 2) fun x24 =>
 BiP .leq x21 x24 fun x25 =>
 K x25 h5)
 (Fv 1 x4 h5 fun x28 =>
 LenP (some true) x28 fun x29 =>
 Fv 1 x6 h5 fun x31 =>
 LenP (some true) x31 fun x32 =>
 BiP .add x29 x32 fun x33 =>
 Fv 3 x2 h5 fun x35 =>
 BiP .quo x35 (.int .i64 2) fun x36 =>
 BiP .leq x33 x36 fun x37 =>
 CdP x37
 (Fv 3 x4 h5 fun x39 =>
 LenP (some true) x39 fun x40 =>
 Fv 3 x6 h5 fun x42 =>
 LenP (some true) x42 fun x43 =>
 BiP .add x40 x43 fun x44 =>
 Fv 4 x2 h5 fun x46 =>
 BiP .leq x44 x46 fun x47 =>
 m_cleave_Fits_j50 x47 h5 K)
 (m_cleave_Fits_j50 (.bool false) h5 K)))
theorem m_cleave_Fits_ok {x0_ x1_ x2_ : Value} {h : Heap} {K : Kt} (hh : m_cleave_Fits x0_ x1_ x2_ h K) : Ca f_cleave_Fits #[x0_, x1_, x2_] h K := cv Tryz.func277 (by kernel_rfl) hh
/- sluicegate/cleave.Join -/
def m_cleave_Join_j62 (x6_ x8_ : Value) (h : Heap) (K : Kt) : Prop :=
 LdA 5 x8_ h fun x63 =>
 StA 5 x6_ x63 h fun h64 =>
 LdA 5 x6_ h64 fun x65 =>
 K (.tuple #[x65, (.bool true)]) h64
def m_cleave_Join (x0_ x1_ x2_ : Value) (h : Heap) (K : Kt) : Prop :=
 BxP t_api_Node x0_ h fun x2 h1 =>
 BxP t_api_Node x2_ h1 fun x4 h3 =>
 AlP t_api_Node zt_api_Node h3 fun x6 h5 =>
 Fv 0 x2 h5 fun x8 =>
 Fv 0 x4 h5 fun x10 =>
 BiP .neq x8 x10 fun x11 =>
 CdP x11
 (BlP bt_api_Node [] fun x12 =>
 StA 5 x6 x12 h5 fun h13 =>
 LdA 5 x6 h13 fun x14 =>
 K (.tuple #[x14, (.bool false)]) h13)
 (LdA 5 x2 h5 fun x15 =>
 Ca f_node_Clone #[x15] h5 fun x17 h16 =>
 AlP t_api_Node zt_api_Node h16 fun x19 h18 =>
 StA 5 x19 x17 h18 fun h20 =>
 Fv 4 x19 h20 fun x22 =>
 Fv 4 x4 h20 fun x24 =>
 VH Pg (Builtin.append_ #[t_S_api_Pair, t_S_api_Pair] t_S_api_Pair #[x22, x24]) h20 fun x26 h25 =>
 FaP (some 4) x19 fun x27 =>
 StP x27 x26 h25 fun h28 =>
 Fv 1 x19 h28 fun x30 =>
 Fv 1 x4 h28 fun x32 =>
 VH Pg (Builtin.append_ #[t_S_uint32, t_S_uint32] t_S_uint32 #[x30, x32]) h28 fun x34 h33 =>
 FaP (some 1) x19 fun x35 =>
 StP x35 x34 h33 fun h36 =>
 Fv 3 x19 h36 fun x38 =>
 Fv 3 x4 h36 fun x40 =>
 VH Pg (Builtin.append_ #[t_S_api_Msg, t_S_api_Msg] t_S_api_Msg #[x38, x40]) h36 fun x42 h41 =>
 FaP (some 3) x19 fun x43 =>
 StP x43 x42 h41 fun h44 =>
 Fv 0 x19 h44 fun x47 =>
 BiP .gtr x47 (.int .i64 0) fun x48 =>
 CdP x48
 (∃ X49 : XS,
 FaP (some 2) x19 fun x50 =>
 LdX X49 x50 h44 fun x51 =>
 FaP (some 2) x4 fun x52 =>
 LdX X49 x52 h44 fun x53 =>
 BsP st_S_string 1 [(0, x1_)] h44 fun x55 h54 =>
 Agr X49 h44 h54 ∧ (VH Pg (Builtin.append_ #[t_S_string, t_S_string] t_S_string #[x51, x55]) h54 fun x57 h56 =>
 Agr X49 h44 h56 ∧ (VH Pg (Builtin.append_ #[t_S_string, t_S_string] t_S_string #[x57, x53]) h56 fun x59 h58 =>
 True ∧ (FaP (some 2) x19 fun x60 =>
 StP x60 x59 h58 fun h61 =>
 True ∧ (m_cleave_Join_j62 x6 x19 h61 K)))))
 (m_cleave_Join_j62 x6 x19 h44 K))
theorem m_cleave_Join_ok {x0_ x1_ x2_ : Value} {h : Heap} {K : Kt} (hh : m_cleave_Join x0_ x1_ x2_ h K) : Ca f_cleave_Join #[x0_, x1_, x2_] h K := cv Tryz.func278 (by kernel_rfl) hh
end Go.Sg
