/-
  Part 26 of a proof: own texts, merged by program.
-/
import Derived.Test.YtoahnccffedojaaGreatDoorP03
import Derived.Test.YtoahnccffedojaaGreatDoorP25
set_option linter.unusedVariables false
set_option linter.unusedSimpArgs false
set_option maxRecDepth 100000
namespace Go.Sg
open Go Vc Go.Proofs
/- sluicegate/sluicegatelaw27.KvNobody -/
def m_law27_KvNobody_j202 (x1_ x2_ x4_ x5_ : Value) (h : Heap) (nx10 : Nt) (K : Kt) : Prop :=
 BiP .add x5_ (.int .i64 1) fun x203 =>
 nx10 [x2_, x203] h
def m_law27_KvNobody_j201 (x1_ x2_ x4_ x5_ x106_ : Value) (h : Heap) (nx10 : Nt) (K : Kt) : Prop :=
 CdP x106_
 (K (.bool false) h)
 (m_law27_KvNobody_j202 x1_ x2_ x4_ x5_ h nx10 K)
def m_law27_KvNobody_j164 (x1_ x2_ x4_ x5_ x6_ : Value) (h : Heap) (nx10 : Nt) (K : Kt) : Prop :=
 Ca f_kv_Store_Config #[x6_] h fun x167 h166 =>
 BlP bt_api_Config [] fun x168 =>
 EqP .neq t_api_Config (.tmp 82) (.tmp 83) x167 x168 h166 fun x170 h169 =>
 CdP x170
 (m_law27_KvNobody_j201 x1_ x2_ x4_ x5_ (.bool true) h169 nx10 K)
 (Ca f_kv_Store_Height #[x6_] h169 fun x176 h175 =>
 BiP .neq x176 (.int .i64 0) fun x177 =>
 CdP x177
 (m_law27_KvNobody_j201 x1_ x2_ x4_ x5_ (.bool true) h175 nx10 K)
 (Ca f_kv_Store_Left #[x6_] h175 fun x183 h182 =>
 BiP .neq x183 (.int .i64 0) fun x184 =>
 CdP x184
 (m_law27_KvNobody_j201 x1_ x2_ x4_ x5_ (.bool true) h182 nx10 K)
 (Ca f_kv_Store_Cost #[x6_] h182 fun x189 h188 =>
 BlP bt_api_Stats [] fun x190 =>
 EqP .neq t_api_Stats (.tmp 97) (.tmp 98) x189 x190 h188 fun x192 h191 =>
 CdP x192
 (m_law27_KvNobody_j201 x1_ x2_ x4_ x5_ (.bool true) h191 nx10 K)
 (Ca f_kv_Store_Total #[x6_] h191 fun x196 h195 =>
 BlP bt_api_Stats [] fun x197 =>
 EqP .neq t_api_Stats (.tmp 103) (.tmp 104) x196 x197 h195 fun x199 h198 =>
 m_law27_KvNobody_j201 x1_ x2_ x4_ x5_ x199 h198 nx10 K))))
def m_law27_KvNobody_j163 (x1_ x2_ x4_ x5_ x6_ x80_ : Value) (h : Heap) (nx10 : Nt) (K : Kt) : Prop :=
 CdP x80_
 (K (.bool false) h)
 (m_law27_KvNobody_j164 x1_ x2_ x4_ x5_ x6_ h nx10 K)
def m_law27_KvNobody_j204 (h : Heap) (K : Kt) : Prop :=
 Ca f_law27_awake #[] h fun x206 h205 =>
 K x206 h205
def m_law27_KvNobody_l9 (vs : List Value) (x1_ x4_ : Value) (h : Heap) (nx10 : Nt) (K : Kt) : Prop :=
 LenP (some true) x4_ fun x11 =>
 BiP .lss (gv vs 1) x11 fun x12 =>
 CdP x12
 (Ei 1 x4_ (gv vs 1) h fun x15 =>
 LdA 4 x1_ h fun x16 =>
 Ca f_law27_Step #[x15, x16] h fun x18 h17 =>
 AlP t_sluicegateref27_Answer zt_sluicegateref27_Answer h17 fun x20 h19 =>
 StA 3 x20 x18 h19 fun h21 =>
 Ca f_kv_Store_Close #[x15] h21 fun x23 h22 =>
 ExP x23 0 fun x24 =>
 ExP x23 1 fun x25 =>
 Ca f_kv_Store_Look #[x15] h22 fun x27 h26 =>
 ExP x27 0 fun x28 =>
 ExP x27 1 fun x29 =>
 AlP t_walk_Report zt_walk_Report h26 fun x31 h30 =>
 StA 5 x31 x28 h30 fun h32 =>
 Fv 0 x1_ h32 fun x36 =>
 BiP .geq x36 (.int .i64 1) fun x37 =>
 CdP x37
 (Fv 0 x1_ h32 fun x39 =>
 BiP .leq x39 (.int .i64 6) fun x40 =>
 CdP x40
 (Fv 0 x20 h32 fun x43 =>
 BiP .neq x43 (.int .i64 1) fun x44 =>
 CdP x44
 (m_law27_KvNobody_j163 x1_ (gv vs 0) x4_ (gv vs 1) x15 (.bool true) h32 nx10 K)
 (Fv 2 x20 h32 fun x53 =>
 LenP (some true) x53 fun x54 =>
 BiP .neq x54 (.int .i64 0) fun x55 =>
 CdP x55
 (m_law27_KvNobody_j163 x1_ (gv vs 0) x4_ (gv vs 1) x15 (.bool true) h32 nx10 K)
 (Fv 1 x20 h32 fun x63 =>
 BiP .neq x63 (.string { data := #[] }) fun x64 =>
 CdP x64
 (m_law27_KvNobody_j163 x1_ (gv vs 0) x4_ (gv vs 1) x15 (.bool true) h32 nx10 K)
 (LenP (some true) x24 fun x70 =>
 BiP .neq x70 (.int .i64 0) fun x71 =>
 CdP x71
 (m_law27_KvNobody_j163 x1_ (gv vs 0) x4_ (gv vs 1) x15 (.bool true) h32 nx10 K)
 (BiP .neq x25 (.int .i64 1) fun x76 =>
 CdP x76
 (m_law27_KvNobody_j163 x1_ (gv vs 0) x4_ (gv vs 1) x15 (.bool true) h32 nx10 K)
 (LdA 5 x31 h32 fun x80 =>
 BlP bt_walk_Report [] fun x81 =>
 EqP .neq t_walk_Report (.tmp 73) (.tmp 74) x80 x81 h32 fun x83 h82 =>
 CdP x83
 (m_law27_KvNobody_j163 x1_ (gv vs 0) x4_ (gv vs 1) x15 (.bool true) h82 nx10 K)
 (BiP .neq x29 (.int .i64 1) fun x86 =>
 m_law27_KvNobody_j163 x1_ (gv vs 0) x4_ (gv vs 1) x15 x86 h82 nx10 K)))))))
 (Fv 2 x20 h32 fun x90 =>
 LenP (some true) x90 fun x91 =>
 BiP .neq x91 (.int .i64 0) fun x92 =>
 CdP x92
 (m_law27_KvNobody_j163 x1_ (gv vs 0) x4_ (gv vs 1) x15 (.bool true) h32 nx10 K)
 (Fv 1 x20 h32 fun x100 =>
 BiP .neq x100 (.string { data := #[] }) fun x101 =>
 CdP x101
 (m_law27_KvNobody_j163 x1_ (gv vs 0) x4_ (gv vs 1) x15 (.bool true) h32 nx10 K)
 (LenP (some true) x24 fun x107 =>
 BiP .neq x107 (.int .i64 0) fun x108 =>
 CdP x108
 (m_law27_KvNobody_j163 x1_ (gv vs 0) x4_ (gv vs 1) x15 (.bool true) h32 nx10 K)
 (BiP .neq x25 (.int .i64 1) fun x113 =>
 CdP x113
 (m_law27_KvNobody_j163 x1_ (gv vs 0) x4_ (gv vs 1) x15 (.bool true) h32 nx10 K)
 (LdA 5 x31 h32 fun x117 =>
 BlP bt_walk_Report [] fun x118 =>
 EqP .neq t_walk_Report (.tmp 73) (.tmp 74) x117 x118 h32 fun x120 h119 =>
 CdP x120
 (m_law27_KvNobody_j163 x1_ (gv vs 0) x4_ (gv vs 1) x15 (.bool true) h119 nx10 K)
 (BiP .neq x29 (.int .i64 1) fun x123 =>
 m_law27_KvNobody_j163 x1_ (gv vs 0) x4_ (gv vs 1) x15 x123 h119 nx10 K)))))))
 (Fv 2 x20 h32 fun x128 =>
 LenP (some true) x128 fun x129 =>
 BiP .neq x129 (.int .i64 0) fun x130 =>
 CdP x130
 (m_law27_KvNobody_j163 x1_ (gv vs 0) x4_ (gv vs 1) x15 (.bool true) h32 nx10 K)
 (Fv 1 x20 h32 fun x138 =>
 BiP .neq x138 (.string { data := #[] }) fun x139 =>
 CdP x139
 (m_law27_KvNobody_j163 x1_ (gv vs 0) x4_ (gv vs 1) x15 (.bool true) h32 nx10 K)
 (LenP (some true) x24 fun x145 =>
 BiP .neq x145 (.int .i64 0) fun x146 =>
 CdP x146
 (m_law27_KvNobody_j163 x1_ (gv vs 0) x4_ (gv vs 1) x15 (.bool true) h32 nx10 K)
 (BiP .neq x25 (.int .i64 1) fun x151 =>
 CdP x151
 (m_law27_KvNobody_j163 x1_ (gv vs 0) x4_ (gv vs 1) x15 (.bool true) h32 nx10 K)
 (LdA 5 x31 h32 fun x155 =>
 BlP bt_walk_Report [] fun x156 =>
 EqP .neq t_walk_Report (.tmp 73) (.tmp 74) x155 x156 h32 fun x158 h157 =>
 CdP x158
 (m_law27_KvNobody_j163 x1_ (gv vs 0) x4_ (gv vs 1) x15 (.bool true) h157 nx10 K)
 (BiP .neq x29 (.int .i64 1) fun x161 =>
 m_law27_KvNobody_j163 x1_ (gv vs 0) x4_ (gv vs 1) x15 x161 h157 nx10 K)))))))
 (m_law27_KvNobody_j204 h K)
def m_law27_KvNobody (x0_ : Value) (h : Heap) (K : Kt) : Prop :=
 BxP t_api_Op x0_ h fun x2 h1 =>
 BlP bt_kv_Store [] fun x3 =>
 BxP t_kv_Store x3 h1 fun x5 h4 =>
 BsP st_S_P_kv_Store 2 [(0, (.pointer none)), (1, x5)] h4 fun x7 h6 =>
 LoP (fun vt h nx10 => m_law27_KvNobody_l9 vt x2 x7 h nx10 K) [(.bool false), (.int .i64 0)] h6
theorem m_law27_KvNobody_ok {x0_ : Value} {h : Heap} {K : Kt} (hh : m_law27_KvNobody x0_ h K) : Ca f_law27_KvNobody #[x0_] h K := cv Tryz.func3 (by kernel_rfl) hh
/- sluicegate/sluicegatelaw27.Step -/
def m_law27_Step (x0_ x1_ : Value) (h : Heap) (K : Kt) : Prop :=
 BxP t_api_Op x1_ h fun x2 h1 =>
 AlP t_sluicegateref27_Answer zt_sluicegateref27_Answer h1 fun x4 h3 =>
 Fv 0 x2 h3 fun x6 =>
 BiP .eql x6 (.int .i64 1) fun x7 =>
 CdP x7
 (Fv 1 x2 h3 fun x9 =>
 Fv 2 x2 h3 fun x11 =>
 Ca f_kv_Store_Put #[x0_, x9, x11] h3 fun x13 h12 =>
 BlP bt_sluicegateref27_Answer [(0, x13)] fun x14 =>
 StA 3 x4 x14 h12 fun h15 =>
 LdA 3 x4 h15 fun x16 =>
 K x16 h15)
 (BiP .eql x6 (.int .i64 2) fun x17 =>
 CdP x17
 (Fv 1 x2 h3 fun x19 =>
 Ca f_kv_Store_Delete #[x0_, x19] h3 fun x21 h20 =>
 BlP bt_sluicegateref27_Answer [(0, x21)] fun x22 =>
 StA 3 x4 x22 h20 fun h23 =>
 LdA 3 x4 h23 fun x24 =>
 K x24 h23)
 (BiP .eql x6 (.int .i64 3) fun x25 =>
 CdP x25
 (Fv 1 x2 h3 fun x27 =>
 Ca f_kv_Store_Get #[x0_, x27] h3 fun x29 h28 =>
 ExP x29 0 fun x30 =>
 ExP x29 1 fun x31 =>
 BlP bt_sluicegateref27_Answer [(0, x31), (1, x30)] fun x32 =>
 StA 3 x4 x32 h28 fun h33 =>
 LdA 3 x4 h33 fun x34 =>
 K x34 h33)
 (BiP .eql x6 (.int .i64 4) fun x35 =>
 CdP x35
 (Fv 1 x2 h3 fun x37 =>
 Fv 2 x2 h3 fun x39 =>
 Fv 3 x2 h3 fun x41 =>
 Ca f_kv_Store_Range #[x0_, x37, x39, x41] h3 fun x43 h42 =>
 ExP x43 0 fun x44 =>
 ExP x43 1 fun x45 =>
 BlP bt_sluicegateref27_Answer [(0, x45), (2, x44)] fun x46 =>
 StA 3 x4 x46 h42 fun h47 =>
 LdA 3 x4 h47 fun x48 =>
 K x48 h47)
 (BiP .eql x6 (.int .i64 5) fun x49 =>
 CdP x49
 (Ca f_kv_Store_Sync #[x0_] h3 fun x51 h50 =>
 BlP bt_sluicegateref27_Answer [(0, x51)] fun x52 =>
 StA 3 x4 x52 h50 fun h53 =>
 LdA 3 x4 h53 fun x54 =>
 K x54 h53)
 (BiP .eql x6 (.int .i64 6) fun x55 =>
 CdP x55
 (Ca f_kv_Store_Reopen #[x0_] h3 fun x57 h56 =>
 BlP bt_sluicegateref27_Answer [(0, x57)] fun x58 =>
 StA 3 x4 x58 h56 fun h59 =>
 LdA 3 x4 h59 fun x60 =>
 K x60 h59)
 (BlP bt_sluicegateref27_Answer [] fun x61 =>
 StA 3 x4 x61 h3 fun h62 =>
 LdA 3 x4 h62 fun x63 =>
 K x63 h62))))))
theorem m_law27_Step_ok {x0_ x1_ : Value} {h : Heap} {K : Kt} (hh : m_law27_Step x0_ x1_ h K) : Ca f_law27_Step #[x0_, x1_] h K := cv Tryz.func4 (by kernel_rfl) hh
/- sluicegate/sluicegatelaw27.awake -/
def m_law27_awake_j71 (x0_ : Value) (h : Heap) (K : Kt) : Prop :=
 K x0_ h
def m_law27_awake_j15 (x1_ : Value) (h : Heap) (K : Kt) : Prop :=
 Ca f_kv_Store_Put #[x1_, (.string { data := #[97] }), (.string { data := #[49] })] h fun x17 h16 =>
 Ca f_kv_Store_Get #[x1_, (.string { data := #[97] })] h16 fun x19 h18 =>
 ExP x19 0 fun x20 =>
 ExP x19 1 fun x21 =>
 Ca f_kv_Store_Delete #[x1_, (.string { data := #[97] })] h18 fun x23 h22 =>
 Ca f_kv_Store_Get #[x1_, (.string { data := #[97] })] h22 fun x25 h24 =>
 ExP x25 0 fun x26 =>
 ExP x25 1 fun x27 =>
 Ca f_kv_Store_Close #[x1_] h24 fun x29 h28 =>
 ExP x29 0 fun x30 =>
 ExP x29 1 fun x31 =>
 Ca f_kv_Store_Get #[x1_, (.string { data := #[97] })] h28 fun x33 h32 =>
 ExP x33 0 fun x34 =>
 ExP x33 1 fun x35 =>
 BiP .eql x17 (.int .i64 0) fun x37 =>
 CdP x37
 (BiP .eql x20 (.string { data := #[49] }) fun x38 =>
 CdP x38
 (BiP .eql x21 (.int .i64 0) fun x40 =>
 CdP x40
 (BiP .eql x23 (.int .i64 0) fun x42 =>
 CdP x42
 (BiP .eql x27 (.int .i64 9) fun x44 =>
 CdP x44
 (BiP .eql x31 (.int .i64 0) fun x46 =>
 CdP x46
 (BiP .eql x35 (.int .i64 13) fun x48 =>
 m_law27_awake_j71 x48 h32 K)
 (m_law27_awake_j71 (.bool false) h32 K))
 (m_law27_awake_j71 (.bool false) h32 K))
 (m_law27_awake_j71 (.bool false) h32 K))
 (m_law27_awake_j71 (.bool false) h32 K))
 (m_law27_awake_j71 (.bool false) h32 K))
 (m_law27_awake_j71 (.bool false) h32 K)
def m_law27_awake_j14 (x1_ x23_ : Value) (h : Heap) (K : Kt) : Prop :=
 CdP x23_
 (K (.bool false) h)
 (m_law27_awake_j15 x1_ h K)
def m_law27_awake (h : Heap) (K : Kt) : Prop :=
 Ca f_law27_least #[] h fun x2 h1 =>
 Ca f_kv_New #[x2] h1 fun x4 h3 =>
 ExP x4 0 fun x5 =>
 ExP x4 1 fun x6 =>
 BiP .neq x6 (.int .i64 0) fun x9 =>
 CdP x9
 (m_law27_awake_j14 x5 (.bool true) h3 K)
 (EqP .eql t_P_kv_Store (.tmp 21) (.const (.pointer none)) x5 (.pointer none) h3 fun x12 h11 =>
 m_law27_awake_j14 x5 x12 h11 K)
theorem m_law27_awake_ok {h : Heap} {K : Kt} (hh : m_law27_awake h K) : Ca f_law27_awake #[] h K := cv Tryz.func12 (by kernel_rfl) hh
/- sluicegate/sluicegatelaw27.least -/
def m_law27_least (h : Heap) (K : Kt) : Prop :=
 AlP t_api_Config zt_api_Config h fun x2 h1 =>
 BlP bt_api_Config [(0, (.int .i64 9)), (1, (.int .i64 200)), (2, (.int .i64 8)), (3, (.int .i64 8)), (4, (.int .i64 16)), (5, (.int .i64 16)), (6, (.int .i64 2)), (7, (.int .i64 1))] fun x3 =>
 StA 8 x2 x3 h1 fun h4 =>
 LdA 8 x2 h4 fun x5 =>
 K x5 h4
theorem m_law27_least_ok {h : Heap} {K : Kt} (hh : m_law27_least h K) : Ca f_law27_least #[] h K := cv Tryz.func32 (by kernel_rfl) hh
end Go.Sg
