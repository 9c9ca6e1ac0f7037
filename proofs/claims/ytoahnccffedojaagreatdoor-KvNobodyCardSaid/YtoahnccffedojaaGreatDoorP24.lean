/-
  Part 24 of a proof: own texts, merged by program.
-/
import Derived.Test.YtoahnccffedojaaGreatDoorP03
import Derived.Test.YtoahnccffedojaaGreatDoorP23
set_option linter.unusedVariables false
set_option linter.unusedSimpArgs false
set_option maxRecDepth 100000
namespace Go.Sg
open Go Vc Go.Proofs
/- (*sluicegate/kv.Store).Close -/
def m_kv_Store_Close (x0_ : Value) (h : Heap) (K : Kt) : Prop :=
 BxP t_P_kv_Store x0_ h fun x2 h1 =>
 AlP t_S_uint8 zt_S_uint8 h1 fun x4 h3 =>
 LdP x2 h3 fun x5 =>
 Ca f_kv_Store_count #[x5, (.func (.func f_kv_Store_Close_1) #[] #[x2, x4])] h3 fun x7 h6 =>
 LdP x4 h6 fun x8 =>
 K (.tuple #[x8, x7]) h6
theorem m_kv_Store_Close_ok {x0_ : Value} {h : Heap} {K : Kt} (hh : m_kv_Store_Close x0_ h K) : Ca f_kv_Store_Close #[x0_] h K := cv Tryz.func5 (by kernel_rfl) hh
/- (*sluicegate/kv.Store).Look -/
def m_kv_Store_Look (x0_ : Value) (h : Heap) (K : Kt) : Prop :=
 AlP t_walk_Report zt_walk_Report h fun x2 h1 =>
 Ca f_kv_Store_open #[x0_] h1 fun x4 h3 =>
 BiP .neq x4 (.int .i64 0) fun x5 =>
 CdP x5
 (BlP bt_walk_Report [] fun x6 =>
 StA 5 x2 x6 h3 fun h7 =>
 LdA 5 x2 h7 fun x8 =>
 K (.tuple #[x8, x4]) h7)
 (∃ X10 : XS,
 NilP x0_ fun x11 =>
 FaP (some 8) x11 fun x12 =>
 LdX X10 x12 h3 fun x13 =>
 NilP x0_ fun x14 =>
 FaP (some 8) x14 fun x15 =>
 LdX X10 x15 h3 fun x16 =>
 Ca f_mount_Mount_Tree #[x13] h3 fun x18 h17 =>
 Agr X10 h3 h17 ∧ (Ca f_tree_Tree_Shelf #[x18] h17 fun x20 h19 =>
 Agr X10 h3 h19 ∧ (Ca f_mount_Mount_Tree #[x16] h19 fun x22 h21 =>
 True ∧ (Ca f_tree_Tree_Root #[x22] h21 fun x24 h23 =>
 True ∧ (Ca f_walk_Look #[x20, x24] h23 fun x26 h25 =>
 True ∧ (ExP x26 0 fun x27 =>
 ExP x26 1 fun x28 =>
 StA 5 x2 x27 h25 fun h29 =>
 True ∧ (LdA 5 x2 h29 fun x30 =>
 K (.tuple #[x30, x28]) h29)))))))
theorem m_kv_Store_Look_ok {x0_ : Value} {h : Heap} {K : Kt} (hh : m_kv_Store_Look x0_ h K) : Ca f_kv_Store_Look #[x0_] h K := cv Tryz.func6 (by kernel_rfl) hh
/- (*sluicegate/kv.Store).Config -/
def m_kv_Store_Config (x0_ : Value) (h : Heap) (K : Kt) : Prop :=
 AlP t_api_Config zt_api_Config h fun x2 h1 =>
 EqP .eql t_P_kv_Store (.tmp 3) (.const (.pointer none)) x0_ (.pointer none) h1 fun x4 h3 =>
 CdP x4
 (BlP bt_api_Config [] fun x5 =>
 StA 8 x2 x5 h3 fun h6 =>
 LdA 8 x2 h6 fun x7 =>
 K x7 h6)
 (Fla 0 8 x0_ h3 fun x10 =>
 StA 8 x2 x10 h3 fun h11 =>
 LdA 8 x2 h11 fun x12 =>
 K x12 h11)
theorem m_kv_Store_Config_ok {x0_ : Value} {h : Heap} {K : Kt} (hh : m_kv_Store_Config x0_ h K) : Ca f_kv_Store_Config #[x0_] h K := cv Tryz.func7 (by kernel_rfl) hh
/- (*sluicegate/kv.Store).Height -/
def m_kv_Store_Height (x0_ : Value) (h : Heap) (K : Kt) : Prop :=
 Ca f_kv_Store_open #[x0_] h fun x2 h1 =>
 BiP .neq x2 (.int .i64 0) fun x3 =>
 CdP x3
 (K (.int .i64 0) h1)
 (Fl 8 x0_ h1 fun x6 =>
 Ca f_mount_Mount_Tree #[x6] h1 fun x8 h7 =>
 Ca f_tree_Tree_Height #[x8] h7 fun x10 h9 =>
 K x10 h9)
theorem m_kv_Store_Height_ok {x0_ : Value} {h : Heap} {K : Kt} (hh : m_kv_Store_Height x0_ h K) : Ca f_kv_Store_Height #[x0_] h K := cv Tryz.func8 (by kernel_rfl) hh
/- (*sluicegate/kv.Store).Left -/
def m_kv_Store_Left (x0_ : Value) (h : Heap) (K : Kt) : Prop :=
 Ca f_kv_Store_open #[x0_] h fun x2 h1 =>
 BiP .neq x2 (.int .i64 0) fun x3 =>
 CdP x3
 (K (.int .i64 0) h1)
 (Fl 8 x0_ h1 fun x6 =>
 Ca f_mount_Mount_Tree #[x6] h1 fun x8 h7 =>
 Ca f_tree_Tree_Shelf #[x8] h7 fun x10 h9 =>
 Ca f_shelf_Shelf_Left #[x10] h9 fun x12 h11 =>
 K x12 h11)
theorem m_kv_Store_Left_ok {x0_ : Value} {h : Heap} {K : Kt} (hh : m_kv_Store_Left x0_ h K) : Ca f_kv_Store_Left #[x0_] h K := cv Tryz.func9 (by kernel_rfl) hh
/- (*sluicegate/kv.Store).Cost -/
def m_kv_Store_Cost (x0_ : Value) (h : Heap) (K : Kt) : Prop :=
 AlP t_api_Stats zt_api_Stats h fun x2 h1 =>
 EqP .eql t_P_kv_Store (.tmp 3) (.const (.pointer none)) x0_ (.pointer none) h1 fun x4 h3 =>
 CdP x4
 (BlP bt_api_Stats [] fun x5 =>
 StA 2 x2 x5 h3 fun h6 =>
 LdA 2 x2 h6 fun x7 =>
 K x7 h6)
 (Fla 10 2 x0_ h3 fun x10 =>
 StA 2 x2 x10 h3 fun h11 =>
 LdA 2 x2 h11 fun x12 =>
 K x12 h11)
theorem m_kv_Store_Cost_ok {x0_ : Value} {h : Heap} {K : Kt} (hh : m_kv_Store_Cost x0_ h K) : Ca f_kv_Store_Cost #[x0_] h K := cv Tryz.func10 (by kernel_rfl) hh
/- (*sluicegate/kv.Store).Total -/
def m_kv_Store_Total (x0_ : Value) (h : Heap) (K : Kt) : Prop :=
 AlP t_api_Stats zt_api_Stats h fun x2 h1 =>
 EqP .eql t_P_kv_Store (.tmp 3) (.const (.pointer none)) x0_ (.pointer none) h1 fun x4 h3 =>
 CdP x4
 (BlP bt_api_Stats [] fun x5 =>
 StA 2 x2 x5 h3 fun h6 =>
 LdA 2 x2 h6 fun x7 =>
 K x7 h6)
 (Fla 12 2 x0_ h3 fun x10 =>
 StA 2 x2 x10 h3 fun h11 =>
 LdA 2 x2 h11 fun x12 =>
 K x12 h11)
theorem m_kv_Store_Total_ok {x0_ : Value} {h : Heap} {K : Kt} (hh : m_kv_Store_Total x0_ h K) : Ca f_kv_Store_Total #[x0_] h K := cv Tryz.func11 (by kernel_rfl) hh
/- (*sluicegate/kv.Store).Put -/
def m_kv_Store_Put (x0_ x1_ x2_ : Value) (h : Heap) (K : Kt) : Prop :=
 BlP bt_api_Msg [(0, x1_), (2, x2_)] fun x1 =>
 Ca f_kv_Store_put #[x0_, x1] h fun x3 h2 =>
 K x3 h2
theorem m_kv_Store_Put_ok {x0_ x1_ x2_ : Value} {h : Heap} {K : Kt} (hh : m_kv_Store_Put x0_ x1_ x2_ h K) : Ca f_kv_Store_Put #[x0_, x1_, x2_] h K := cv Tryz.func13 (by kernel_rfl) hh
/- (*sluicegate/kv.Store).Delete -/
def m_kv_Store_Delete (x0_ x1_ : Value) (h : Heap) (K : Kt) : Prop :=
 BlP bt_api_Msg [(0, x1_), (1, (.bool true))] fun x1 =>
 Ca f_kv_Store_put #[x0_, x1] h fun x3 h2 =>
 K x3 h2
theorem m_kv_Store_Delete_ok {x0_ x1_ : Value} {h : Heap} {K : Kt} (hh : m_kv_Store_Delete x0_ x1_ h K) : Ca f_kv_Store_Delete #[x0_, x1_] h K := cv Tryz.func14 (by kernel_rfl) hh
/- (*sluicegate/kv.Store).Get -/
def m_kv_Store_Get (x0_ x1_ : Value) (h : Heap) (K : Kt) : Prop :=
 BxP t_P_kv_Store x0_ h fun x2 h1 =>
 BxP t_string x1_ h1 fun x4 h3 =>
 AlP t_string zt_string h3 fun x6 h5 =>
 StP x6 (.string { data := #[] }) h5 fun h7 =>
 LdP x2 h7 fun x8 =>
 Ca f_kv_Store_count #[x8, (.func (.func f_kv_Store_Get_1) #[] #[x2, x4, x6])] h7 fun x10 h9 =>
 LdP x6 h9 fun x11 =>
 K (.tuple #[x11, x10]) h9
theorem m_kv_Store_Get_ok {x0_ x1_ : Value} {h : Heap} {K : Kt} (hh : m_kv_Store_Get x0_ x1_ h K) : Ca f_kv_Store_Get #[x0_, x1_] h K := cv Tryz.func15 (by kernel_rfl) hh
/- (*sluicegate/kv.Store).Range -/
def m_kv_Store_Range (x0_ x1_ x2_ x3_ : Value) (h : Heap) (K : Kt) : Prop :=
 BxP t_P_kv_Store x0_ h fun x2 h1 =>
 BxP t_string x1_ h1 fun x4 h3 =>
 BxP t_string x2_ h3 fun x6 h5 =>
 BxP t_int x3_ h5 fun x8 h7 =>
 AlP t_S_api_Pair zt_S_api_Pair h7 fun x10 h9 =>
 LdP x2 h9 fun x11 =>
 Ca f_kv_Store_count #[x11, (.func (.func f_kv_Store_Range_1) #[] #[x4, x6, x2, x8, x10])] h9 fun x13 h12 =>
 LdP x10 h12 fun x14 =>
 K (.tuple #[x14, x13]) h12
theorem m_kv_Store_Range_ok {x0_ x1_ x2_ x3_ : Value} {h : Heap} {K : Kt} (hh : m_kv_Store_Range x0_ x1_ x2_ x3_ h K) : Ca f_kv_Store_Range #[x0_, x1_, x2_, x3_] h K := cv Tryz.func16 (by kernel_rfl) hh
/- (*sluicegate/kv.Store).Sync -/
def m_kv_Store_Sync (x0_ : Value) (h : Heap) (K : Kt) : Prop :=
 BxP t_P_kv_Store x0_ h fun x2 h1 =>
 LdP x2 h1 fun x3 =>
 Ca f_kv_Store_count #[x3, (.func (.func f_kv_Store_Sync_1) #[] #[x2])] h1 fun x5 h4 =>
 K x5 h4
theorem m_kv_Store_Sync_ok {x0_ : Value} {h : Heap} {K : Kt} (hh : m_kv_Store_Sync x0_ h K) : Ca f_kv_Store_Sync #[x0_] h K := cv Tryz.func17 (by kernel_rfl) hh
/- (*sluicegate/kv.Store).Reopen -/
def m_kv_Store_Reopen (x0_ : Value) (h : Heap) (K : Kt) : Prop :=
 BxP t_P_kv_Store x0_ h fun x2 h1 =>
 LdP x2 h1 fun x3 =>
 Ca f_kv_Store_count #[x3, (.func (.func f_kv_Store_Reopen_1) #[] #[x2])] h1 fun x5 h4 =>
 K x5 h4
theorem m_kv_Store_Reopen_ok {x0_ : Value} {h : Heap} {K : Kt} (hh : m_kv_Store_Reopen x0_ h K) : Ca f_kv_Store_Reopen #[x0_] h K := cv Tryz.func18 (by kernel_rfl) hh
/- (*sluicegate/kv.Store).count -/
def m_kv_Store_count_j11 (x5_ : Value) (h : Heap) (K : Kt) : Prop :=
 K x5_ h
def m_kv_Store_count_j67 (x0_ x8_ : Value) (h : Heap) (K : Kt) : Prop :=
 Fla 12 2 x0_ h fun x71 =>
 Fla 10 2 x0_ h fun x74 =>
 Ca f_kv_plus #[x71, x74] h fun x76 h75 =>
 True ∧ (NilP x0_ fun x77 =>
 FaP (some 12) x77 fun x78 =>
 StA 2 x78 x76 h75 fun h79 =>
 True ∧ (K x8_ h79))
def m_kv_Store_count_j50 (x0_ x8_ x49_ : Value) (h : Heap) (K : Kt) : Prop :=
 CdP x49_
 (∃ X51 : XS,
 NilP x0_ fun x52 =>
 FaP (some 10) x52 fun x53 =>
 LaX X51 2 x53 h fun x54 =>
 NilP x0_ fun x55 =>
 FaP (some 8) x55 fun x56 =>
 LdX X51 x56 h fun x57 =>
 Ca f_mount_Mount_Device #[x57] h fun x59 h58 =>
 Agr X51 h h58 ∧ (Ca f_dev_Device_Stats #[x59] h58 fun x61 h60 =>
 Agr X51 h h60 ∧ (Ca f_kv_plus #[x54, x61] h60 fun x63 h62 =>
 True ∧ (NilP x0_ fun x64 =>
 FaP (some 10) x64 fun x65 =>
 StA 2 x65 x63 h62 fun h66 =>
 True ∧ (m_kv_Store_count_j67 x0_ x8_ h66 K)))))
 (m_kv_Store_count_j67 x0_ x8_ h K)
def m_kv_Store_count (x0_ x1_ : Value) (h : Heap) (K : Kt) : Prop :=
 Ca f_kv_Store_open #[x0_] h fun x2 h1 =>
 BiP .neq x2 (.int .i64 0) fun x3 =>
 CdP x3
 (EqP .neq t_P_kv_Store (.tmp 13) (.const (.pointer none)) x0_ (.pointer none) h1 fun x6 h5 =>
 CdP x6
 (BlP bt_api_Stats [] fun x7 =>
 NilP x0_ fun x8 =>
 FaP (some 10) x8 fun x9 =>
 StA 2 x9 x7 h5 fun h10 =>
 m_kv_Store_count_j11 x2 h10 K)
 (m_kv_Store_count_j11 x2 h5 K))
 (Fl 8 x0_ h1 fun x14 =>
 Ca f_mount_Mount_Device #[x14] h1 fun x16 h15 =>
 Ca f_dev_Device_Stats #[x16] h15 fun x18 h17 =>
 AlP t_api_Stats zt_api_Stats h17 fun x20 h19 =>
 StA 2 x20 x18 h19 fun h21 =>
 CvH Pg x1_ #[] h21 fun x23 h22 =>
 ∃ X25 : XS,
 LaX X25 2 x20 h22 fun x26 =>
 Ca f_dev_Device_Stats #[x16] h22 fun x28 h27 =>
 Agr X25 h22 h27 ∧ (Ca f_kv_minus #[x28, x26] h27 fun x30 h29 =>
 True ∧ (NilP x0_ fun x31 =>
 FaP (some 10) x31 fun x32 =>
 StA 2 x32 x30 h29 fun h33 =>
 True ∧ (Fl 8 x0_ h33 fun x38 =>
 EqP .neq t_P_mount_Mount (.tmp 39) (.const (.pointer none)) x38 (.pointer none) h33 fun x40 h39 =>
 CdP x40
 (Fl 8 x0_ h39 fun x43 =>
 Ca f_mount_Mount_Device #[x43] h39 fun x45 h44 =>
 EqP .neq t_P_dev_Device (.tmp 46) (.tmp 47) x45 x16 h44 fun x47 h46 =>
 m_kv_Store_count_j50 x0_ x23 x47 h46 K)
 (m_kv_Store_count_j50 x0_ x23 (.bool false) h39 K)))))
theorem m_kv_Store_count_ok {x0_ x1_ : Value} {h : Heap} {K : Kt} (hh : m_kv_Store_count x0_ x1_ h K) : Ca f_kv_Store_count #[x0_, x1_] h K := cv Tryz.func19 (by kernel_rfl) hh
/- (*sluicegate/kv.Store).Close$1 -/
def m_kv_Store_Close_1 (x0_ x1_ : Value) (h : Heap) (K : Kt) : Prop :=
 LdP x0_ h fun x1 =>
 Fl 8 x1 h fun x4 =>
 Ca f_mount_Mount_Sync #[x4] h fun x6 h5 =>
 BiP .neq x6 (.int .i64 0) fun x7 =>
 CdP x7
 (K x6 h5)
 (LdP x0_ h5 fun x8 =>
 Fl 8 x8 h5 fun x11 =>
 Ca f_mount_Mount_Device #[x11] h5 fun x13 h12 =>
 Ca f_dev_Device_Image #[x13] h12 fun x15 h14 =>
 StP x1_ x15 h14 fun h16 =>
 LdP x0_ h16 fun x17 =>
 Fs 8 x17 (.pointer none) h16 fun h20 =>
 K (.int .i64 0) h20)
theorem m_kv_Store_Close_1_ok {x0_ x1_ : Value} {h : Heap} {K : Kt} (hh : m_kv_Store_Close_1 x0_ x1_ h K) : Ca f_kv_Store_Close_1 #[x0_, x1_] h K := cv Tryz.func20 (by kernel_rfl) hh
/- (*sluicegate/kv.Store).open -/
def m_kv_Store_open_j17 (h : Heap) (K : Kt) : Prop :=
 K (.int .i64 0) h
def m_kv_Store_open_j11 (x0_ x3_ : Value) (h : Heap) (K : Kt) : Prop :=
 CdP x3_
 (K (.int .i64 1) h)
 (Fl 8 x0_ h fun x14 =>
 EqP .eql t_P_mount_Mount (.tmp 17) (.const (.pointer none)) x14 (.pointer none) h fun x16 h15 =>
 CdP x16
 (K (.int .i64 13) h15)
 (m_kv_Store_open_j17 h15 K))
def m_kv_Store_open (x0_ : Value) (h : Heap) (K : Kt) : Prop :=
 EqP .eql t_P_kv_Store (.tmp 4) (.const (.pointer none)) x0_ (.pointer none) h fun x4 h3 =>
 CdP x4
 (m_kv_Store_open_j11 x0_ (.bool true) h3 K)
 (Fl 9 x0_ h3 fun x8 =>
 UnP .not x8 fun x9 =>
 m_kv_Store_open_j11 x0_ x9 h3 K)
theorem m_kv_Store_open_ok {x0_ : Value} {h : Heap} {K : Kt} (hh : m_kv_Store_open x0_ h K) : Ca f_kv_Store_open #[x0_] h K := cv Tryz.func24 (by kernel_rfl) hh
/- sluicegate/kv.New -/
def m_kv_New (x0_ : Value) (h : Heap) (K : Kt) : Prop :=
 BxP t_api_Config x0_ h fun x2 h1 =>
 LdA 8 x2 h1 fun x3 =>
 Ca f_mount_Format #[x3] h1 fun x5 h4 =>
 ExP x5 0 fun x6 =>
 ExP x5 1 fun x7 =>
 BiP .neq x7 (.int .i64 0) fun x8 =>
 CdP x8
 (K (.tuple #[(.pointer none), x7]) h4)
 (Ca f_kv_begin #[x6] h4 fun x10 h9 =>
 K (.tuple #[x10, (.int .i64 0)]) h9)
theorem m_kv_New_ok {x0_ : Value} {h : Heap} {K : Kt} (hh : m_kv_New x0_ h K) : Ca f_kv_New #[x0_] h K := cv Tryz.func31 (by kernel_rfl) hh
/- (*sluicegate/kv.Store).put -/
def m_kv_Store_put (x0_ x1_ : Value) (h : Heap) (K : Kt) : Prop :=
 BxP t_P_kv_Store x0_ h fun x2 h1 =>
 BxP t_api_Msg x1_ h1 fun x4 h3 =>
 LdP x2 h3 fun x5 =>
 Ca f_kv_Store_count #[x5, (.func (.func f_kv_Store_put_1) #[] #[x2, x4])] h3 fun x7 h6 =>
 K x7 h6
theorem m_kv_Store_put_ok {x0_ x1_ : Value} {h : Heap} {K : Kt} (hh : m_kv_Store_put x0_ x1_ h K) : Ca f_kv_Store_put #[x0_, x1_] h K := cv Tryz.func33 (by kernel_rfl) hh
/- (*sluicegate/kv.Store).Get$1 -/
def m_kv_Store_Get_1_j30 (x2_ x4_ x6_ : Value) (h : Heap) (K : Kt) : Prop :=
 StP x2_ x4_ h fun h31 =>
 K x6_ h31
def m_kv_Store_Get_1_j29 (x2_ x4_ x6_ x30_ : Value) (h : Heap) (K : Kt) : Prop :=
 CdP x30_
 (K (.int .i64 9) h)
 (m_kv_Store_Get_1_j30 x2_ x4_ x6_ h K)
def m_kv_Store_Get_1 (x0_ x1_ x2_ : Value) (h : Heap) (K : Kt) : Prop :=
 LdP x0_ h fun x1 =>
 Fla 0 8 x1 h fun x4 =>
 LdP x1_ h fun x5 =>
 Ca f_node_Key #[x4, x5] h fun x7 h6 =>
 True ∧ (UnP .not x7 fun x8 =>
 CdP x8
 (K (.int .i64 2) h6)
 (∃ X10 : XS,
 LdX X10 x0_ h6 fun x11 =>
 NilP x11 fun x12 =>
 FaP (some 8) x12 fun x13 =>
 LdX X10 x13 h6 fun x14 =>
 LdX X10 x1_ h6 fun x15 =>
 Ca f_mount_Mount_Tree #[x14] h6 fun x17 h16 =>
 Agr X10 h6 h16 ∧ (Ca f_tree_Tree_Get #[x17, x15] h16 fun x19 h18 =>
 True ∧ (ExP x19 0 fun x20 =>
 ExP x19 1 fun x21 =>
 ExP x19 2 fun x22 =>
 BiP .eql x22 (.int .i64 0) fun x25 =>
 CdP x25
 (UnP .not x21 fun x26 =>
 m_kv_Store_Get_1_j29 x2_ x20 x22 x26 h18 K)
 (m_kv_Store_Get_1_j29 x2_ x20 x22 (.bool false) h18 K)))))
theorem m_kv_Store_Get_1_ok {x0_ x1_ x2_ : Value} {h : Heap} {K : Kt} (hh : m_kv_Store_Get_1 x0_ x1_ x2_ h K) : Ca f_kv_Store_Get_1 #[x0_, x1_, x2_] h K := cv Tryz.func34 (by kernel_rfl) hh
/- (*sluicegate/kv.Store).Range$1 -/
def m_kv_Store_Range_1_j33 (x6_ : Value) (h : Heap) (K : Kt) : Prop :=
 K x6_ h
def m_kv_Store_Range_1 (x0_ x1_ x2_ x3_ x4_ : Value) (h : Heap) (K : Kt) : Prop :=
 LdP x0_ h fun x2 =>
 LdP x1_ h fun x3 =>
 Ca f_lex_Compare #[x2, x3] h fun x5 h4 =>
 BiP .lss x5 (.int .i64 0) fun x6 =>
 CdP x6
 (∃ X7 : XS,
 LdX X7 x2_ h4 fun x8 =>
 NilP x8 fun x9 =>
 FaP (some 8) x9 fun x10 =>
 LdX X7 x10 h4 fun x11 =>
 LdX X7 x2_ h4 fun x12 =>
 NilP x12 fun x13 =>
 FaP (some 8) x13 fun x14 =>
 LdX X7 x14 h4 fun x15 =>
 LdX X7 x0_ h4 fun x16 =>
 LdX X7 x1_ h4 fun x17 =>
 BlP bt_api_Span [(0, x16), (1, x17)] fun x18 =>
 LdX X7 x3_ h4 fun x19 =>
 Ca f_mount_Mount_Tree #[x11] h4 fun x21 h20 =>
 Agr X7 h4 h20 ∧ (Ca f_tree_Tree_Shelf #[x21] h20 fun x23 h22 =>
 Agr X7 h4 h22 ∧ (Ca f_mount_Mount_Tree #[x15] h22 fun x25 h24 =>
 Agr X7 h4 h24 ∧ (Ca f_tree_Tree_Root #[x25] h24 fun x27 h26 =>
 Agr X7 h4 h26 ∧ (Ca f_scan_Range #[x23, x27, x18, x19] h26 fun x29 h28 =>
 True ∧ (ExP x29 0 fun x30 =>
 ExP x29 1 fun x31 =>
 StP x4_ x30 h28 fun h32 =>
 True ∧ (m_kv_Store_Range_1_j33 x31 h32 K)))))))
 (m_kv_Store_Range_1_j33 (.int .i64 0) h4 K)
theorem m_kv_Store_Range_1_ok {x0_ x1_ x2_ x3_ x4_ : Value} {h : Heap} {K : Kt} (hh : m_kv_Store_Range_1 x0_ x1_ x2_ x3_ x4_ h K) : Ca f_kv_Store_Range_1 #[x0_, x1_, x2_, x3_, x4_] h K := cv Tryz.func37 (by kernel_rfl) hh
/- (*sluicegate/kv.Store).Sync$1 -/
def m_kv_Store_Sync_1 (x0_ : Value) (h : Heap) (K : Kt) : Prop :=
 LdP x0_ h fun x1 =>
 Fl 8 x1 h fun x4 =>
 Ca f_mount_Mount_Sync #[x4] h fun x6 h5 =>
 K x6 h5
theorem m_kv_Store_Sync_1_ok {x0_ : Value} {h : Heap} {K : Kt} (hh : m_kv_Store_Sync_1 x0_ h K) : Ca f_kv_Store_Sync_1 #[x0_] h K := cv Tryz.func40 (by kernel_rfl) hh
/- (*sluicegate/kv.Store).Reopen$1 -/
def m_kv_Store_Reopen_1_j38 (x4_ : Value) (h : Heap) (K : Kt) : Prop :=
 K x4_ h
def m_kv_Store_Reopen_1 (x0_ : Value) (h : Heap) (K : Kt) : Prop :=
 LdP x0_ h fun x1 =>
 Fl 8 x1 h fun x4 =>
 Ca f_mount_Mount_Sync #[x4] h fun x6 h5 =>
 BiP .neq x6 (.int .i64 0) fun x7 =>
 CdP x7
 (K x6 h5)
 (∃ X9 : XS,
 LdX X9 x0_ h5 fun x10 =>
 NilP x10 fun x11 =>
 FaP (some 0) x11 fun x12 =>
 FaP (some 1) x12 fun x13 =>
 LdX X9 x13 h5 fun x14 =>
 LdX X9 x0_ h5 fun x15 =>
 NilP x15 fun x16 =>
 FaP (some 8) x16 fun x17 =>
 LdX X9 x17 h5 fun x18 =>
 Ca f_mount_Mount_Device #[x18] h5 fun x20 h19 =>
 Agr X9 h5 h19 ∧ (Ca f_dev_Device_Image #[x20] h19 fun x22 h21 =>
 Agr X9 h5 h21 ∧ (Ca f_dev_From #[x14, x22] h21 fun x24 h23 =>
 True ∧ (ExP x24 0 fun x25 =>
 ExP x24 1 fun x26 =>
 BiP .neq x26 (.int .i64 0) fun x27 =>
 CdP x27
 (K x26 h23)
 (Ca f_mount_Open #[x25] h23 fun x29 h28 =>
 ExP x29 0 fun x30 =>
 ExP x29 1 fun x31 =>
 BiP .eql x31 (.int .i64 0) fun x33 =>
 CdP x33
 (LdP x0_ h28 fun x34 =>
 Fs 8 x34 x30 h28 fun h37 =>
 m_kv_Store_Reopen_1_j38 x31 h37 K)
 (m_kv_Store_Reopen_1_j38 x31 h28 K))))))
theorem m_kv_Store_Reopen_1_ok {x0_ : Value} {h : Heap} {K : Kt} (hh : m_kv_Store_Reopen_1 x0_ h K) : Ca f_kv_Store_Reopen_1 #[x0_] h K := cv Tryz.func41 (by kernel_rfl) hh
/- sluicegate/kv.minus -/
def m_kv_minus (x0_ x1_ : Value) (h : Heap) (K : Kt) : Prop :=
 BxP t_api_Stats x0_ h fun x2 h1 =>
 BxP t_api_Stats x1_ h1 fun x4 h3 =>
 AlP t_api_Stats zt_api_Stats h3 fun x6 h5 =>
 Fv 0 x2 h5 fun x8 =>
 Fv 0 x4 h5 fun x10 =>
 BiP .sub x8 x10 fun x11 =>
 Fv 1 x2 h5 fun x13 =>
 Fv 1 x4 h5 fun x15 =>
 BiP .sub x13 x15 fun x16 =>
 BlP bt_api_Stats [(0, x11), (1, x16)] fun x17 =>
 StA 2 x6 x17 h5 fun h18 =>
 LdA 2 x6 h18 fun x19 =>
 K x19 h18
theorem m_kv_minus_ok {x0_ x1_ : Value} {h : Heap} {K : Kt} (hh : m_kv_minus x0_ x1_ h K) : Ca f_kv_minus #[x0_, x1_] h K := cv Tryz.func45 (by kernel_rfl) hh
/- sluicegate/kv.plus -/
def m_kv_plus (x0_ x1_ : Value) (h : Heap) (K : Kt) : Prop :=
 BxP t_api_Stats x0_ h fun x2 h1 =>
 BxP t_api_Stats x1_ h1 fun x4 h3 =>
 AlP t_api_Stats zt_api_Stats h3 fun x6 h5 =>
 Fv 0 x2 h5 fun x8 =>
 Fv 0 x4 h5 fun x10 =>
 BiP .add x8 x10 fun x11 =>
 Fv 1 x2 h5 fun x13 =>
 Fv 1 x4 h5 fun x15 =>
 BiP .add x13 x15 fun x16 =>
 BlP bt_api_Stats [(0, x11), (1, x16)] fun x17 =>
 StA 2 x6 x17 h5 fun h18 =>
 LdA 2 x6 h18 fun x19 =>
 K x19 h18
theorem m_kv_plus_ok {x0_ x1_ : Value} {h : Heap} {K : Kt} (hh : m_kv_plus x0_ x1_ h K) : Ca f_kv_plus #[x0_, x1_] h K := cv Tryz.func46 (by kernel_rfl) hh
/- sluicegate/kv.begin -/
def m_kv_begin (x0_ : Value) (h : Heap) (K : Kt) : Prop :=
 Ca f_mount_Mount_Head #[x0_] h fun x2 h1 =>
 FdT (some 0) (.agg 8) x2 fun x3 =>
 BlP bt_kv_Store [(0, x3), (1, x0_), (2, (.bool true))] fun x4 =>
 BxP t_kv_Store x4 h1 fun x6 h5 =>
 K x6 h5
theorem m_kv_begin_ok {x0_ : Value} {h : Heap} {K : Kt} (hh : m_kv_begin x0_ h K) : Ca f_kv_begin #[x0_] h K := cv Tryz.func58 (by kernel_rfl) hh
/- (*sluicegate/kv.Store).put$1 -/
def m_kv_Store_put_1_j24 (x0_ x1_ : Value) (h : Heap) (K : Kt) : Prop :=
 ∃ X26 : XS,
 LdX X26 x0_ h fun x27 =>
 NilP x27 fun x28 =>
 FaP (some 8) x28 fun x29 =>
 LdX X26 x29 h fun x30 =>
 LaX X26 3 x1_ h fun x31 =>
 Ca f_mount_Mount_Tree #[x30] h fun x33 h32 =>
 Agr X26 h h32 ∧ (Ca f_tree_Tree_Put #[x33, x31] h32 fun x35 h34 =>
 True ∧ (K x35 h34))
def m_kv_Store_put_1_j23 (x0_ x1_ x21_ : Value) (h : Heap) (K : Kt) : Prop :=
 CdP x21_
 (K (.int .i64 2) h)
 (m_kv_Store_put_1_j24 x0_ x1_ h K)
def m_kv_Store_put_1 (x0_ x1_ : Value) (h : Heap) (K : Kt) : Prop :=
 LdP x0_ h fun x3 =>
 Fla 0 8 x3 h fun x6 =>
 Fv 0 x1_ h fun x8 =>
 Ca f_node_Key #[x6, x8] h fun x10 h9 =>
 True ∧ (UnP .not x10 fun x11 =>
 CdP x11
 (m_kv_Store_put_1_j23 x0_ x1_ (.bool true) h9 K)
 (Fv 2 x1_ h9 fun x14 =>
 LenP (some false) x14 fun x15 =>
 LdP x0_ h9 fun x16 =>
 NilP x16 fun x17 =>
 FaP (some 0) x17 fun x18 =>
 Fv 7 x18 h9 fun x20 =>
 BiP .gtr x15 x20 fun x21 =>
 m_kv_Store_put_1_j23 x0_ x1_ x21 h9 K))
theorem m_kv_Store_put_1_ok {x0_ x1_ : Value} {h : Heap} {K : Kt} (hh : m_kv_Store_put_1 x0_ x1_ h K) : Ca f_kv_Store_put_1 #[x0_, x1_] h K := cv Tryz.func59 (by kernel_rfl) hh
end Go.Sg
