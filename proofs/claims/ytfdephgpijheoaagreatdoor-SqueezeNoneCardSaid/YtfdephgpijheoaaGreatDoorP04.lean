/-
  Part 4 of a proof: own texts, merged by program.
-/
import Derived.Lib.Bytealg
import Derived.Lib.AppendZerosOnto
import Derived.Lib.Overlaps
import Derived.Test.YtfdephgpijheoaaGreatDoorP03
set_option linter.unusedVariables false
set_option linter.unusedSimpArgs false
set_option maxRecDepth 100000
namespace Go.Sg
open Go Vc Go.Proofs
def m_lex_Next (x0_ : Value) (h : Heap) (K : Kt) : Prop :=
 BiP .add x0_ (.string { data := #[0] }) fun x1 =>
 K x1 h
theorem m_lex_Next_ok {x0_ : Value} {h : Heap} {K : Kt} (hh : m_lex_Next x0_ h K) : Ca f_lex_Next #[x0_] h K := cv Tryz.func31 (by kernel_rfl) hh
def m_dev_Device_Image (x0_ : Value) (h : Heap) (K : Kt) : Prop :=
 EqP .eql t_P_dev_Device (.tmp 3) (.const (.pointer none)) x0_ (.pointer none) h fun x2 h1 =>
 CdP x2
 (K (.slice none 0 0) h1)
 (Fl 1 x0_ h1 fun x5 =>
 Ca f_slices_Clone_byte #[x5] h1 fun x7 h6 =>
 K x7 h6)
theorem m_dev_Device_Image_ok {x0_ : Value} {h : Heap} {K : Kt} (hh : m_dev_Device_Image x0_ h K) : Ca f_dev_Device_Image #[x0_] h K := cv Tryz.func41 (by kernel_rfl) hh
def m_lex_Compare (x0_ x1_ : Value) (h : Heap) (K : Kt) : Prop :=
 Ca f_strings_Compare #[x0_, x1_] h fun x2 h1 =>
 K x2 h1
theorem m_lex_Compare_ok {x0_ x1_ : Value} {h : Heap} {K : Kt} (hh : m_lex_Compare x0_ x1_ h K) : Ca f_lex_Compare #[x0_, x1_] h K := cv Tryz.func58 (by kernel_rfl) hh
def m_dev_Device_Stats (x0_ : Value) (h : Heap) (K : Kt) : Prop :=
 AlP t_api_Stats zt_api_Stats h fun x2 h1 =>
 EqP .eql t_P_dev_Device (.tmp 3) (.const (.pointer none)) x0_ (.pointer none) h1 fun x4 h3 =>
 CdP x4
 (BlP bt_api_Stats [] fun x5 =>
 StA 2 x2 x5 h3 fun h6 =>
 LdA 2 x2 h6 fun x7 =>
 K x7 h6)
 (Fla 2 2 x0_ h3 fun x10 =>
 StA 2 x2 x10 h3 fun h11 =>
 LdA 2 x2 h11 fun x12 =>
 K x12 h11)
theorem m_dev_Device_Stats_ok {x0_ : Value} {h : Heap} {K : Kt} (hh : m_dev_Device_Stats x0_ h K) : Ca f_dev_Device_Stats #[x0_] h K := cv Tryz.func77 (by kernel_rfl) hh
def m_dev_Device_Write (x0_ x1_ x2_ : Value) (h : Heap) (K : Kt) : Prop :=
 Ca f_dev_Device_at #[x0_, x1_] h fun x2 h1 =>
 ExP x2 0 fun x3 =>
 ExP x2 1 fun x4 =>
 BiP .neq x4 (.int .i64 0) fun x6 =>
 CdP x6
 (K x4 h1)
 (LenP (some true) x2_ fun x7 =>
 Fl 0 x0_ h1 fun x10 =>
 BiP .neq x7 x10 fun x11 =>
 CdP x11
 (K (.int .i64 3) h1)
 (VH Pg (Builtin.copy_ #[t_S_uint8, t_S_uint8] t_int #[x3, x2_]) h1 fun x13 h12 =>
 NilP x0_ fun x14 =>
 FaP (some 2) x14 fun x15 =>
 Fv 1 x15 h12 fun x17 =>
 BiP .add x17 (.int .u64 1) fun x18 =>
 NilP x0_ fun x19 =>
 FaP (some 2) x19 fun x20 =>
 FaP (some 1) x20 fun x21 =>
 StP x21 x18 h12 fun h22 =>
 K (.int .i64 0) h22))
theorem m_dev_Device_Write_ok {x0_ x1_ x2_ : Value} {h : Heap} {K : Kt} (hh : m_dev_Device_Write x0_ x1_ x2_ h K) : Ca f_dev_Device_Write #[x0_, x1_, x2_] h K := cv Tryz.func84 (by kernel_rfl) hh
def m_dev_From_j18 (x0_ x1_ : Value) (h : Heap) (K : Kt) : Prop :=
 Ca f_slices_Clone_byte #[x1_] h fun x20 h19 =>
 BlP bt_dev_Device [(0, x0_), (1, x20)] fun x21 =>
 BxP t_dev_Device x21 h19 fun x23 h22 =>
 K (.tuple #[x23, (.int .i64 0)]) h22
def m_dev_From_j17 (x0_ x1_ x23_ : Value) (h : Heap) (K : Kt) : Prop :=
 CdP x23_
 (K (.tuple #[(.pointer none), (.int .i64 2)]) h)
 (m_dev_From_j18 x0_ x1_ h K)
def m_dev_From (x0_ x1_ : Value) (h : Heap) (K : Kt) : Prop :=
 BiP .lss x0_ (.int .i64 1) fun x3 =>
 CdP x3
 (m_dev_From_j17 x0_ x1_ (.bool true) h K)
 (LenP (some true) x1_ fun x6 =>
 BiP .rem x6 x0_ fun x7 =>
 BiP .neq x7 (.int .i64 0) fun x8 =>
 CdP x8
 (m_dev_From_j17 x0_ x1_ (.bool true) h K)
 (LenP (some true) x1_ fun x11 =>
 BiP .quo x11 x0_ fun x12 =>
 Ca f_dev_right #[x12, x0_] h fun x14 h13 =>
 UnP .not x14 fun x15 =>
 m_dev_From_j17 x0_ x1_ x15 h13 K))
theorem m_dev_From_ok {x0_ x1_ : Value} {h : Heap} {K : Kt} (hh : m_dev_From x0_ x1_ h K) : Ca f_dev_From #[x0_, x1_] h K := cv Tryz.func90 (by kernel_rfl) hh
def m_strings_Compare (x0_ x1_ : Value) (h : Heap) (K : Kt) : Prop :=
 Ca f_bytealg_CompareString #[x0_, x1_] h fun x2 h1 =>
 K x2 h1
theorem m_strings_Compare_ok {x0_ x1_ : Value} {h : Heap} {K : Kt} (hh : m_strings_Compare x0_ x1_ h K) : Ca f_strings_Compare #[x0_, x1_] h K := cv Tryz.func103 (by kernel_rfl) hh
def m_lex_Empty_j14 (x2_ : Value) (h : Heap) (K : Kt) : Prop :=
 K x2_ h
def m_lex_Empty (x0_ : Value) (h : Heap) (K : Kt) : Prop :=
 BxP t_api_Span x0_ h fun x2 h1 =>
 Fv 2 x2 h1 fun x5 =>
 UnP .not x5 fun x6 =>
 CdP x6
 (Fv 1 x2 h1 fun x8 =>
 Fv 0 x2 h1 fun x10 =>
 BiP .leq x8 x10 fun x11 =>
 m_lex_Empty_j14 x11 h1 K)
 (m_lex_Empty_j14 (.bool false) h1 K)
theorem m_lex_Empty_ok {x0_ : Value} {h : Heap} {K : Kt} (hh : m_lex_Empty x0_ h K) : Ca f_lex_Empty #[x0_] h K := cv Tryz.func104 (by kernel_rfl) hh
def m_conf_Check_j54 (h : Heap) (K : Kt) : Prop :=
 K (.int .i64 0) h
def m_conf_Check_j53 (x40_ : Value) (h : Heap) (K : Kt) : Prop :=
 CdP x40_
 (K (.int .i64 2) h)
 (m_conf_Check_j54 h K)
def m_conf_Check_j33 (x1_ x3_ : Value) (h : Heap) (K : Kt) : Prop :=
 ∃ X36 : XS,
 UnP .not x3_ fun x37 =>
 CdP x37
 (m_conf_Check_j53 (.bool true) h K)
 (FaP (some 1) x1_ fun x40 =>
 LdX X36 x40 h fun x41 =>
 BiP .gtr x41 (.int .i64 65536) fun x42 =>
 CdP x42
 (m_conf_Check_j53 (.bool true) h K)
 (FaP (some 1) x1_ fun x45 =>
 LdX X36 x45 h fun x46 =>
 LaX X36 8 x1_ h fun x47 =>
 Ca f_conf_Least #[x47] h fun x49 h48 =>
 Agr X36 h h48 ∧ (FdT (some 1) .one x49 fun x50 =>
 BiP .lss x46 x50 fun x51 =>
 m_conf_Check_j53 x51 h48 K)))
def m_conf_Check (x0_ : Value) (h : Heap) (K : Kt) : Prop :=
 BxP t_api_Config x0_ h fun x2 h1 =>
 LdA 8 x2 h1 fun x4 =>
 Ca f_conf_sized #[x4] h1 fun x6 h5 =>
 CdP x6
 (Fv 0 x2 h5 fun x8 =>
 BiP .geq x8 (.int .i64 5) fun x9 =>
 CdP x9
 (Fv 0 x2 h5 fun x12 =>
 BiP .leq x12 (.int .i64 65536) fun x13 =>
 CdP x13
 (Fv 2 x2 h5 fun x16 =>
 BiP .geq x16 (.int .i64 8) fun x17 =>
 CdP x17
 (Fv 2 x2 h5 fun x20 =>
 BiP .leq x20 (.int .i64 64) fun x21 =>
 m_conf_Check_j33 x2 x21 h5 K)
 (m_conf_Check_j33 x2 (.bool false) h5 K))
 (m_conf_Check_j33 x2 (.bool false) h5 K))
 (m_conf_Check_j33 x2 (.bool false) h5 K))
 (m_conf_Check_j33 x2 (.bool false) h5 K)
theorem m_conf_Check_ok {x0_ : Value} {h : Heap} {K : Kt} (hh : m_conf_Check x0_ h K) : Ca f_conf_Check #[x0_] h K := cv Tryz.func111 (by kernel_rfl) hh
def m_dev_New (x0_ x1_ : Value) (h : Heap) (K : Kt) : Prop :=
 Ca f_dev_right #[x0_, x1_] h fun x2 h1 =>
 UnP .not x2 fun x3 =>
 CdP x3
 (K (.tuple #[(.pointer none), (.int .i64 2)]) h1)
 (BiP .mul x0_ x1_ fun x4 =>
 VH Pg (Instr.makeSlice t_S_uint8 x4 x4) h1 fun x6 h5 =>
 BlP bt_dev_Device [(0, x1_), (1, x6)] fun x7 =>
 BxP t_dev_Device x7 h5 fun x9 h8 =>
 K (.tuple #[x9, (.int .i64 0)]) h8)
theorem m_dev_New_ok {x0_ x1_ : Value} {h : Heap} {K : Kt} (hh : m_dev_New x0_ x1_ h K) : Ca f_dev_New #[x0_, x1_] h K := cv Tryz.func112 (by kernel_rfl) hh
def m_word_Put_j20 (x7_ : Value) (h : Heap) (K : Kt) : Prop :=
 K x7_ h
def m_word_Put_l8 (vs : List Value) (x2_ : Value) (h : Heap) (nx9 : Nt) (K : Kt) : Prop :=
 BiP .geq (gv vs 1) (.int .i64 0) fun x10 =>
 CdP x10
 (BiP .mul (.int .i64 8) (gv vs 1) fun x12 =>
 BiP .shr x2_ x12 fun x13 =>
 CvP .u8 x13 fun x14 =>
 BsP st_S_uint8 1 [(0, x14)] h fun x16 h15 =>
 VH Pg (Builtin.append_ #[t_S_uint8, t_S_uint8] t_S_uint8 #[(gv vs 0), x16]) h15 fun x18 h17 =>
 BiP .sub (gv vs 1) (.int .i64 1) fun x19 =>
 nx9 [x18, x19] h17)
 (m_word_Put_j20 (gv vs 0) h K)
def m_word_Put (x0_ x1_ x2_ : Value) (h : Heap) (K : Kt) : Prop :=
 Ca f_slices_Clone_byte #[x0_] h fun x2 h1 =>
 Ca f_word_right #[x1_] h1 fun x4 h3 =>
 UnP .not x4 fun x5 =>
 CdP x5
 (K x2 h3)
 (BiP .sub x1_ (.int .i64 1) fun x7 =>
 LoP (fun vt h nx9 => m_word_Put_l8 vt x2_ h nx9 K) [x2, x7] h3)
theorem m_word_Put_ok {x0_ x1_ x2_ : Value} {h : Heap} {K : Kt} (hh : m_word_Put x0_ x1_ x2_ h K) : Ca f_word_Put #[x0_, x1_, x2_] h K := cv Tryz.func125 (by kernel_rfl) hh
def m_check_Sum_j12 (x3_ : Value) (h : Heap) (K : Kt) : Prop :=
 K x3_ h
def m_check_Sum_l3 (vs : List Value) (x6_ x7_ : Value) (h : Heap) (nx4 : Nt) (K : Kt) : Prop :=
 BiP .lss (gv vs 1) x7_ fun x5 =>
 CdP x5
 (Ei 1 x6_ (gv vs 1) h fun x8 =>
 Ca f_check_More #[(gv vs 0), x8] h fun x10 h9 =>
 BiP .add (gv vs 1) (.int .i64 1) fun x11 =>
 nx4 [x10, x11] h9)
 (m_check_Sum_j12 (gv vs 0) h K)
def m_check_Sum (x0_ : Value) (h : Heap) (K : Kt) : Prop :=
 LenP (some true) x0_ fun x2 =>
 LoP (fun vt h nx4 => m_check_Sum_l3 vt x0_ x2 h nx4 K) [(.int .u32 1), (.int .i64 0)] h
theorem m_check_Sum_ok {x0_ : Value} {h : Heap} {K : Kt} (hh : m_check_Sum x0_ h K) : Ca f_check_Sum #[x0_] h K := cv Tryz.func126 (by kernel_rfl) hh
def m_dev_Device_at (x0_ x1_ : Value) (h : Heap) (K : Kt) : Prop :=
 Ca f_dev_Device_Blocks #[x0_] h fun x3 h2 =>
 BiP .eql x3 (.int .i64 0) fun x4 =>
 CdP x4
 (K (.tuple #[(.slice none 0 0), (.int .i64 1)]) h2)
 (CvP .i64 x1_ fun x5 =>
 Ca f_dev_Device_Blocks #[x0_] h2 fun x7 h6 =>
 BiP .geq x5 x7 fun x8 =>
 CdP x8
 (K (.tuple #[(.slice none 0 0), (.int .i64 4)]) h6)
 (CvP .i64 x1_ fun x9 =>
 Fl 0 x0_ h6 fun x12 =>
 BiP .mul x9 x12 fun x13 =>
 Fl 1 x0_ h6 fun x16 =>
 Fl 0 x0_ h6 fun x19 =>
 BiP .add x13 x19 fun x20 =>
 SlP 1 x16 (some x13) (some x20) fun x21 =>
 K (.tuple #[x21, (.int .i64 0)]) h6))
theorem m_dev_Device_at_ok {x0_ x1_ : Value} {h : Heap} {K : Kt} (hh : m_dev_Device_at x0_ x1_ h K) : Ca f_dev_Device_at #[x0_, x1_] h K := cv Tryz.func131 (by kernel_rfl) hh
def m_dev_right_j15 (x4_ : Value) (h : Heap) (K : Kt) : Prop :=
 K x4_ h
def m_dev_right (x0_ x1_ : Value) (h : Heap) (K : Kt) : Prop :=
 BiP .geq x0_ (.int .i64 5) fun x2 =>
 CdP x2
 (BiP .leq x0_ (.int .i64 65536) fun x3 =>
 CdP x3
 (BiP .geq x1_ (.int .i64 1) fun x5 =>
 CdP x5
 (BiP .leq x1_ (.int .i64 65536) fun x7 =>
 m_dev_right_j15 x7 h K)
 (m_dev_right_j15 (.bool false) h K))
 (m_dev_right_j15 (.bool false) h K))
 (m_dev_right_j15 (.bool false) h K)
theorem m_dev_right_ok {x0_ x1_ : Value} {h : Heap} {K : Kt} (hh : m_dev_right x0_ x1_ h K) : Ca f_dev_right #[x0_, x1_] h K := cv Tryz.func133 (by kernel_rfl) hh
def m_dev_Device_Read (x0_ x1_ : Value) (h : Heap) (K : Kt) : Prop :=
 Ca f_dev_Device_at #[x0_, x1_] h fun x2 h1 =>
 ExP x2 0 fun x3 =>
 ExP x2 1 fun x4 =>
 BiP .neq x4 (.int .i64 0) fun x5 =>
 CdP x5
 (K (.tuple #[(.slice none 0 0), x4]) h1)
 (NilP x0_ fun x6 =>
 FaP (some 2) x6 fun x7 =>
 Fv 0 x7 h1 fun x9 =>
 BiP .add x9 (.int .u64 1) fun x10 =>
 NilP x0_ fun x11 =>
 FaP (some 2) x11 fun x12 =>
 FaP (some 0) x12 fun x13 =>
 StP x13 x10 h1 fun h14 =>
 Ca f_slices_Clone_byte #[x3] h14 fun x16 h15 =>
 K (.tuple #[x16, (.int .i64 0)]) h15)
theorem m_dev_Device_Read_ok {x0_ x1_ : Value} {h : Heap} {K : Kt} (hh : m_dev_Device_Read x0_ x1_ h K) : Ca f_dev_Device_Read #[x0_, x1_] h K := cv Tryz.func134 (by kernel_rfl) hh
def m_pool_Pool_Free (x0_ : Value) (h : Heap) (K : Kt) : Prop :=
 Ca f_pool_Pool_none #[x0_] h fun x2 h1 =>
 CdP x2
 (K (.int .i64 0) h1)
 (∃ X4 : XS,
 NilP x0_ fun x5 =>
 FaP (some 0) x5 fun x6 =>
 LdX X4 x6 h1 fun x7 =>
 NilP x0_ fun x8 =>
 FaP (some 0) x8 fun x9 =>
 LdX X4 x9 h1 fun x10 =>
 Ca f_bits_Row_Len #[x7] h1 fun x12 h11 =>
 Agr X4 h1 h11 ∧ (Ca f_bits_Row_Count #[x10] h11 fun x14 h13 =>
 True ∧ (BiP .sub x12 x14 fun x15 =>
 K x15 h13)))
theorem m_pool_Pool_Free_ok {x0_ : Value} {h : Heap} {K : Kt} (hh : m_pool_Pool_Free x0_ h K) : Ca f_pool_Pool_Free #[x0_] h K := cv Tryz.func148 (by kernel_rfl) hh
def m_bytealg_CompareString (x0_ x1_ : Value) (h : Heap) (K : Kt) : Prop :=
 Cx f_bytealg_abigen_runtime_cmpstring #[x0_, x1_] h fun x2 h1 =>
 K x2 h1
theorem m_bytealg_CompareString_ok {x0_ x1_ : Value} {h : Heap} {K : Kt} (hh : m_bytealg_CompareString x0_ x1_ h K) : Ca f_bytealg_CompareString #[x0_, x1_] h K := cv Tryz.func149 (by kernel_rfl) hh
def m_conf_sized_j59 (h : Heap) (K : Kt) : Prop :=
 K (.bool false) h
def m_conf_sized_j58 (x44_ : Value) (h : Heap) (K : Kt) : Prop :=
 CdP x44_
 (m_conf_sized_j59 h K)
 (K (.bool true) h)
def m_conf_sized_j48 (x1_ x35_ : Value) (h : Heap) (K : Kt) : Prop :=
 CdP x35_
 (m_conf_sized_j59 h K)
 (Fv 7 x1_ h fun x51 =>
 BiP .lss x51 (.int .i64 0) fun x52 =>
 CdP x52
 (m_conf_sized_j58 (.bool true) h K)
 (Fv 7 x1_ h fun x55 =>
 BiP .gtr x55 (.int .i64 256) fun x56 =>
 m_conf_sized_j58 x56 h K))
def m_conf_sized_j38 (x1_ x24_ : Value) (h : Heap) (K : Kt) : Prop :=
 CdP x24_
 (m_conf_sized_j59 h K)
 (Fv 6 x1_ h fun x41 =>
 BiP .lss x41 (.int .i64 1) fun x42 =>
 CdP x42
 (m_conf_sized_j48 x1_ (.bool true) h K)
 (Fv 6 x1_ h fun x45 =>
 BiP .gtr x45 (.int .i64 64) fun x46 =>
 m_conf_sized_j48 x1_ x46 h K))
def m_conf_sized_j26 (x1_ x12_ : Value) (h : Heap) (K : Kt) : Prop :=
 CdP x12_
 (m_conf_sized_j59 h K)
 (Fv 5 x1_ h fun x29 =>
 Fv 4 x1_ h fun x31 =>
 BiP .lss x29 x31 fun x32 =>
 CdP x32
 (m_conf_sized_j38 x1_ (.bool true) h K)
 (Fv 5 x1_ h fun x35 =>
 BiP .gtr x35 (.int .i64 1024) fun x36 =>
 m_conf_sized_j38 x1_ x36 h K))
def m_conf_sized_j13 (x1_ x3_ : Value) (h : Heap) (K : Kt) : Prop :=
 CdP x3_
 (m_conf_sized_j59 h K)
 (Fv 4 x1_ h fun x16 =>
 Fv 3 x1_ h fun x18 =>
 BiP .mul (.int .i64 2) x18 fun x19 =>
 BiP .lss x16 x19 fun x20 =>
 CdP x20
 (m_conf_sized_j26 x1_ (.bool true) h K)
 (Fv 4 x1_ h fun x23 =>
 BiP .gtr x23 (.int .i64 512) fun x24 =>
 m_conf_sized_j26 x1_ x24 h K))
def m_conf_sized (x0_ : Value) (h : Heap) (K : Kt) : Prop :=
 BxP t_api_Config x0_ h fun x2 h1 =>
 Fv 3 x2 h1 fun x6 =>
 BiP .lss x6 (.int .i64 8) fun x7 =>
 CdP x7
 (m_conf_sized_j13 x2 (.bool true) h1 K)
 (Fv 3 x2 h1 fun x10 =>
 BiP .gtr x10 (.int .i64 64) fun x11 =>
 m_conf_sized_j13 x2 x11 h1 K)
theorem m_conf_sized_ok {x0_ : Value} {h : Heap} {K : Kt} (hh : m_conf_sized x0_ h K) : Ca f_conf_sized #[x0_] h K := cv Tryz.func157 (by kernel_rfl) hh
def m_conf_Least_j20 (x1_ x2_ : Value) (h : Heap) (K : Kt) : Prop :=
 LdA 8 x1_ h fun x21 =>
 StA 8 x2_ x21 h fun h22 =>
 LdA 8 x2_ h22 fun x23 =>
 K x23 h22
def m_conf_Least (x0_ : Value) (h : Heap) (K : Kt) : Prop :=
 BxP t_api_Config x0_ h fun x2 h1 =>
 AlP t_api_Config zt_api_Config h1 fun x4 h3 =>
 LdA 8 x2 h3 fun x6 =>
 Ca f_conf_sized #[x6] h3 fun x8 h7 =>
 CdP x8
 (∃ X9 : XS,
 LaX X9 8 x2 h7 fun x10 =>
 LaX X9 8 x2 h7 fun x11 =>
 Ca f_conf_Inner #[x10] h7 fun x13 h12 =>
 Agr X9 h7 h12 ∧ (Ca f_conf_Outer #[x11] h12 fun x15 h14 =>
 True ∧ (VH Pg (Builtin.max_ #[t_int, t_int, t_int] t_int #[(.int .i64 64), x13, x15]) h14 fun x17 h16 =>
 True ∧ (FaP (some 1) x2 fun x18 =>
 StP x18 x17 h16 fun h19 =>
 True ∧ (m_conf_Least_j20 x2 x4 h19 K)))))
 (m_conf_Least_j20 x2 x4 h7 K)
theorem m_conf_Least_ok {x0_ : Value} {h : Heap} {K : Kt} (hh : m_conf_Least x0_ h K) : Ca f_conf_Least #[x0_] h K := cv Tryz.func158 (by kernel_rfl) hh
def m_dev_Device_Blocks_j12 (x0_ : Value) (h : Heap) (K : Kt) : Prop :=
 Fl 1 x0_ h fun x15 =>
 LenP (some true) x15 fun x16 =>
 Fl 0 x0_ h fun x19 =>
 BiP .quo x16 x19 fun x20 =>
 K x20 h
def m_dev_Device_Blocks_j11 (x0_ x11_ : Value) (h : Heap) (K : Kt) : Prop :=
 CdP x11_
 (K (.int .i64 0) h)
 (m_dev_Device_Blocks_j12 x0_ h K)
def m_dev_Device_Blocks (x0_ : Value) (h : Heap) (K : Kt) : Prop :=
 EqP .eql t_P_dev_Device (.tmp 3) (.const (.pointer none)) x0_ (.pointer none) h fun x4 h3 =>
 CdP x4
 (m_dev_Device_Blocks_j11 x0_ (.bool true) h3 K)
 (Fl 0 x0_ h3 fun x8 =>
 BiP .eql x8 (.int .i64 0) fun x9 =>
 m_dev_Device_Blocks_j11 x0_ x9 h3 K)
theorem m_dev_Device_Blocks_ok {x0_ : Value} {h : Heap} {K : Kt} (hh : m_dev_Device_Blocks x0_ h K) : Ca f_dev_Device_Blocks #[x0_] h K := cv Tryz.func160 (by kernel_rfl) hh
def m_dev_Device_Bytes (x0_ : Value) (h : Heap) (K : Kt) : Prop :=
 EqP .eql t_P_dev_Device (.tmp 3) (.const (.pointer none)) x0_ (.pointer none) h fun x2 h1 =>
 CdP x2
 (K (.int .i64 0) h1)
 (Fl 0 x0_ h1 fun x5 =>
 K x5 h1)
theorem m_dev_Device_Bytes_ok {x0_ : Value} {h : Heap} {K : Kt} (hh : m_dev_Device_Bytes x0_ h K) : Ca f_dev_Device_Bytes #[x0_] h K := cv Tryz.func161 (by kernel_rfl) hh
def m_pool_New (x0_ : Value) (h : Heap) (K : Kt) : Prop :=
 BiP .lss x0_ (.int .i64 5) fun x1 =>
 CdP x1
 (K (.tuple #[(.pointer none), (.int .i64 2)]) h)
 (Ca f_bits_New #[x0_] h fun x3 h2 =>
 ExP x3 0 fun x4 =>
 ExP x3 1 fun x5 =>
 BiP .neq x5 (.int .i64 0) fun x6 =>
 CdP x6
 (K (.tuple #[(.pointer none), x5]) h2)
 (Ca f_bits_Row_Set #[x4, (.int .i64 0)] h2 fun x8 h7 =>
 BlP bt_pool_Pool [(0, x4)] fun x9 =>
 BxP t_pool_Pool x9 h7 fun x11 h10 =>
 K (.tuple #[x11, (.int .i64 0)]) h10))
theorem m_pool_New_ok {x0_ : Value} {h : Heap} {K : Kt} (hh : m_pool_New x0_ h K) : Ca f_pool_New #[x0_] h K := cv Tryz.func162 (by kernel_rfl) hh
def m_word_right_j15 (x2_ : Value) (h : Heap) (K : Kt) : Prop :=
 K x2_ h
def m_word_right (x0_ : Value) (h : Heap) (K : Kt) : Prop :=
 BiP .eql x0_ (.int .i64 1) fun x2 =>
 CdP x2
 (m_word_right_j15 (.bool true) h K)
 (BiP .eql x0_ (.int .i64 2) fun x6 =>
 CdP x6
 (m_word_right_j15 (.bool true) h K)
 (BiP .eql x0_ (.int .i64 4) fun x10 =>
 CdP x10
 (m_word_right_j15 (.bool true) h K)
 (BiP .eql x0_ (.int .i64 8) fun x13 =>
 m_word_right_j15 x13 h K)))
theorem m_word_right_ok {x0_ : Value} {h : Heap} {K : Kt} (hh : m_word_right x0_ h K) : Ca f_word_right #[x0_] h K := cv Tryz.func168 (by kernel_rfl) hh
def m_check_More_j19 (x5_ x6_ : Value) (h : Heap) (K : Kt) : Prop :=
 BiP .shl x6_ (.int .u64 16) fun x20 =>
 BiP .or x20 x5_ fun x21 =>
 K x21 h
def m_check_More_l7 (vs : List Value) (x15_ x16_ : Value) (h : Heap) (nx8 : Nt) (K : Kt) : Prop :=
 BiP .lss (gv vs 2) x16_ fun x9 =>
 CdP x9
 (Ei 1 x15_ (gv vs 2) h fun x12 =>
 CvP .u32 x12 fun x13 =>
 BiP .add (gv vs 0) x13 fun x14 =>
 BiP .rem x14 (.int .u32 65521) fun x15 =>
 BiP .add (gv vs 1) x15 fun x16 =>
 BiP .rem x16 (.int .u32 65521) fun x17 =>
 BiP .add (gv vs 2) (.int .i64 1) fun x18 =>
 nx8 [x15, x17, x18] h)
 (m_check_More_j19 (gv vs 0) (gv vs 1) h K)
def m_check_More (x0_ x1_ : Value) (h : Heap) (K : Kt) : Prop :=
 BiP .rem x0_ (.int .u32 65536) fun x1 =>
 BiP .rem x1 (.int .u32 65521) fun x2 =>
 BiP .quo x0_ (.int .u32 65536) fun x3 =>
 BiP .rem x3 (.int .u32 65521) fun x4 =>
 LenP (some true) x1_ fun x6 =>
 LoP (fun vt h nx8 => m_check_More_l7 vt x1_ x6 h nx8 K) [x2, x4, (.int .i64 0)] h
theorem m_check_More_ok {x0_ x1_ : Value} {h : Heap} {K : Kt} (hh : m_check_More x0_ x1_ h K) : Ca f_check_More #[x0_, x1_] h K := cv Tryz.func169 (by kernel_rfl) hh
def m_word_Open (x0_ : Value) (h : Heap) (K : Kt) : Prop :=
 Ca f_slices_Clone_byte #[x0_] h fun x2 h1 =>
 BlP bt_word_Reader [(0, x2)] fun x3 =>
 BxP t_word_Reader x3 h1 fun x5 h4 =>
 K x5 h4
theorem m_word_Open_ok {x0_ : Value} {h : Heap} {K : Kt} (hh : m_word_Open x0_ h K) : Ca f_word_Open #[x0_] h K := cv Tryz.func175 (by kernel_rfl) hh
def m_word_Reader_Raw_j22 (x0_ x1_ : Value) (h : Heap) (K : Kt) : Prop :=
 VH Pg (Instr.makeSlice t_S_uint8 x1_ x1_) h fun x24 h23 =>
 Fl 0 x0_ h23 fun x27 =>
 VH Pg (Builtin.copy_ #[t_S_uint8, t_S_uint8] t_int #[x24, x27]) h23 fun x29 h28 =>
 Fl 0 x0_ h28 fun x32 =>
 SlP 1 x32 (some x1_) none fun x33 =>
 Fs 0 x0_ x33 h28 fun h36 =>
 K x24 h36
def m_word_Reader_Raw_j11 (x0_ x1_ x6_ : Value) (h : Heap) (K : Kt) : Prop :=
 CdP x6_
 (K (.slice none 0 0) h)
 (BiP .lss x1_ (.int .i64 0) fun x12 =>
 CdP x12
 (Ca f_word_Reader_spoil #[x0_, (.int .i64 2)] h fun x14 h13 =>
 K (.slice none 0 0) h13)
 (Fl 0 x0_ h fun x17 =>
 LenP (some true) x17 fun x18 =>
 BiP .gtr x1_ x18 fun x19 =>
 CdP x19
 (Ca f_word_Reader_spoil #[x0_, (.int .i64 5)] h fun x21 h20 =>
 K (.slice none 0 0) h20)
 (m_word_Reader_Raw_j22 x0_ x1_ h K)))
def m_word_Reader_Raw (x0_ x1_ : Value) (h : Heap) (K : Kt) : Prop :=
 EqP .eql t_P_word_Reader (.tmp 7) (.const (.pointer none)) x0_ (.pointer none) h fun x4 h3 =>
 CdP x4
 (m_word_Reader_Raw_j11 x0_ x1_ (.bool true) h3 K)
 (Fl 1 x0_ h3 fun x8 =>
 BiP .neq x8 (.int .i64 0) fun x9 =>
 m_word_Reader_Raw_j11 x0_ x1_ x9 h3 K)
theorem m_word_Reader_Raw_ok {x0_ x1_ : Value} {h : Heap} {K : Kt} (hh : m_word_Reader_Raw x0_ x1_ h K) : Ca f_word_Reader_Raw #[x0_, x1_] h K := cv Tryz.func176 (by kernel_rfl) hh
def m_word_Reader_Num_j20 (x5_ : Value) (h : Heap) (K : Kt) : Prop :=
 K x5_ h
def m_word_Reader_Num_l10 (vs : List Value) (x13_ x14_ : Value) (h : Heap) (nx11 : Nt) (K : Kt) : Prop :=
 BiP .lss (gv vs 1) x14_ fun x12 =>
 CdP x12
 (Ei 1 x13_ (gv vs 1) h fun x15 =>
 BiP .shl (gv vs 0) (.int .u64 8) fun x16 =>
 CvP .u64 x15 fun x17 =>
 BiP .or x16 x17 fun x18 =>
 BiP .add (gv vs 1) (.int .i64 1) fun x19 =>
 nx11 [x18, x19] h)
 (m_word_Reader_Num_j20 (gv vs 0) h K)
def m_word_Reader_Num_j5 (x0_ x1_ : Value) (h : Heap) (K : Kt) : Prop :=
 Ca f_word_Reader_Raw #[x0_, x1_] h fun x8 h7 =>
 LenP (some true) x8 fun x9 =>
 LoP (fun vt h nx11 => m_word_Reader_Num_l10 vt x8 x9 h nx11 K) [(.int .u64 0), (.int .i64 0)] h7
def m_word_Reader_Num (x0_ x1_ : Value) (h : Heap) (K : Kt) : Prop :=
 Ca f_word_right #[x1_] h fun x3 h2 =>
 UnP .not x3 fun x4 =>
 CdP x4
 (m_word_Reader_Num_j5 x0_ (.int .i64 (-1)) h2 K)
 (m_word_Reader_Num_j5 x0_ x1_ h2 K)
theorem m_word_Reader_Num_ok {x0_ x1_ : Value} {h : Heap} {K : Kt} (hh : m_word_Reader_Num x0_ x1_ h K) : Ca f_word_Reader_Num #[x0_, x1_] h K := cv Tryz.func177 (by kernel_rfl) hh
def m_word_Reader_Err (x0_ : Value) (h : Heap) (K : Kt) : Prop :=
 EqP .eql t_P_word_Reader (.tmp 3) (.const (.pointer none)) x0_ (.pointer none) h fun x2 h1 =>
 CdP x2
 (K (.int .i64 1) h1)
 (Fl 1 x0_ h1 fun x5 =>
 K x5 h1)
theorem m_word_Reader_Err_ok {x0_ : Value} {h : Heap} {K : Kt} (hh : m_word_Reader_Err x0_ h K) : Ca f_word_Reader_Err #[x0_] h K := cv Tryz.func178 (by kernel_rfl) hh
def m_pool_Pool_none_j11 (x2_ : Value) (h : Heap) (K : Kt) : Prop :=
 K x2_ h
def m_pool_Pool_none (x0_ : Value) (h : Heap) (K : Kt) : Prop :=
 EqP .eql t_P_pool_Pool (.tmp 3) (.const (.pointer none)) x0_ (.pointer none) h fun x3 h2 =>
 CdP x3
 (m_pool_Pool_none_j11 (.bool true) h2 K)
 (Fl 0 x0_ h2 fun x7 =>
 EqP .eql t_P_bits_Row (.tmp 9) (.const (.pointer none)) x7 (.pointer none) h2 fun x9 h8 =>
 m_pool_Pool_none_j11 x9 h8 K)
theorem m_pool_Pool_none_ok {x0_ : Value} {h : Heap} {K : Kt} (hh : m_pool_Pool_none x0_ h K) : Ca f_pool_Pool_none #[x0_] h K := cv Tryz.func195 (by kernel_rfl) hh
def m_bits_Row_Len (x0_ : Value) (h : Heap) (K : Kt) : Prop :=
 EqP .eql t_P_bits_Row (.tmp 3) (.const (.pointer none)) x0_ (.pointer none) h fun x2 h1 =>
 CdP x2
 (K (.int .i64 0) h1)
 (Fl 0 x0_ h1 fun x5 =>
 K x5 h1)
theorem m_bits_Row_Len_ok {x0_ : Value} {h : Heap} {K : Kt} (hh : m_bits_Row_Len x0_ h K) : Ca f_bits_Row_Len #[x0_] h K := cv Tryz.func196 (by kernel_rfl) hh
def m_bits_Row_Count (x0_ : Value) (h : Heap) (K : Kt) : Prop :=
 EqP .eql t_P_bits_Row (.tmp 3) (.const (.pointer none)) x0_ (.pointer none) h fun x2 h1 =>
 CdP x2
 (K (.int .i64 0) h1)
 (Fl 1 x0_ h1 fun x5 =>
 K x5 h1)
theorem m_bits_Row_Count_ok {x0_ : Value} {h : Heap} {K : Kt} (hh : m_bits_Row_Count x0_ h K) : Ca f_bits_Row_Count #[x0_] h K := cv Tryz.func197 (by kernel_rfl) hh
def m_conf_Inner (x0_ : Value) (h : Heap) (K : Kt) : Prop :=
 BxP t_api_Config x0_ h fun x2 h1 =>
 LdA 8 x2 h1 fun x3 =>
 Ca f_conf_sized #[x3] h1 fun x5 h4 =>
 UnP .not x5 fun x6 =>
 CdP x6
 (K (.int .i64 0) h4)
 (Fv 3 x2 h4 fun x8 =>
 BiP .mul (.int .i64 4) x8 fun x9 =>
 BiP .add (.int .i64 8) x9 fun x10 =>
 Fv 3 x2 h4 fun x12 =>
 BiP .sub x12 (.int .i64 1) fun x13 =>
 Fv 6 x2 h4 fun x15 =>
 BiP .add (.int .i64 1) x15 fun x16 =>
 BiP .mul x13 x16 fun x17 =>
 BiP .add x10 x17 fun x18 =>
 Fv 4 x2 h4 fun x20 =>
 Fv 6 x2 h4 fun x22 =>
 BiP .add (.int .i64 4) x22 fun x23 =>
 Fv 7 x2 h4 fun x25 =>
 BiP .add x23 x25 fun x26 =>
 BiP .mul x20 x26 fun x27 =>
 BiP .add x18 x27 fun x28 =>
 K x28 h4)
theorem m_conf_Inner_ok {x0_ : Value} {h : Heap} {K : Kt} (hh : m_conf_Inner x0_ h K) : Ca f_conf_Inner #[x0_] h K := cv Tryz.func211 (by kernel_rfl) hh
def m_conf_Outer (x0_ : Value) (h : Heap) (K : Kt) : Prop :=
 BxP t_api_Config x0_ h fun x2 h1 =>
 LdA 8 x2 h1 fun x3 =>
 Ca f_conf_sized #[x3] h1 fun x5 h4 =>
 UnP .not x5 fun x6 =>
 CdP x6
 (K (.int .i64 0) h4)
 (Fv 5 x2 h4 fun x8 =>
 Fv 6 x2 h4 fun x10 =>
 BiP .add (.int .i64 3) x10 fun x11 =>
 Fv 7 x2 h4 fun x13 =>
 BiP .add x11 x13 fun x14 =>
 BiP .mul x8 x14 fun x15 =>
 BiP .add (.int .i64 8) x15 fun x16 =>
 K x16 h4)
theorem m_conf_Outer_ok {x0_ : Value} {h : Heap} {K : Kt} (hh : m_conf_Outer x0_ h K) : Ca f_conf_Outer #[x0_] h K := cv Tryz.func212 (by kernel_rfl) hh
def m_chain_New_j8 (x0_ : Value) (h : Heap) (K : Kt) : Prop :=
 BiP .add x0_ (.int .i64 1) fun x9 =>
 VH Pg (Instr.makeSlice t_S_chain_link x9 x9) h fun x11 h10 =>
 BlP bt_chain_Chain [(0, x11)] fun x12 =>
 BxP t_chain_Chain x12 h10 fun x14 h13 =>
 Fl 0 x14 h13 fun x17 =>
 BlP bt_chain_link [(0, x0_), (1, x0_)] fun x18 =>
 IxP 3 x17 x0_ fun x19 =>
 StA 3 x19 x18 h13 fun h20 =>
 K (.tuple #[x14, (.int .i64 0)]) h20
def m_chain_New_j7 (x0_ x10_ : Value) (h : Heap) (K : Kt) : Prop :=
 CdP x10_
 (K (.tuple #[(.pointer none), (.int .i64 2)]) h)
 (m_chain_New_j8 x0_ h K)
def m_chain_New (x0_ : Value) (h : Heap) (K : Kt) : Prop :=
 BiP .lss x0_ (.int .i64 1) fun x3 =>
 CdP x3
 (m_chain_New_j7 x0_ (.bool true) h K)
 (BiP .gtr x0_ (.int .i64 4096) fun x5 =>
 m_chain_New_j7 x0_ x5 h K)
theorem m_chain_New_ok {x0_ : Value} {h : Heap} {K : Kt} (hh : m_chain_New x0_ h K) : Ca f_chain_New #[x0_] h K := cv Tryz.func213 (by kernel_rfl) hh
def m_bits_New_j8 (x0_ : Value) (h : Heap) (K : Kt) : Prop :=
 BiP .add x0_ (.int .i64 64) fun x9 =>
 BiP .sub x9 (.int .i64 1) fun x10 =>
 BiP .quo x10 (.int .i64 64) fun x11 =>
 VH Pg (Instr.makeSlice t_S_uint64 x11 x11) h fun x13 h12 =>
 BlP bt_bits_Row [(0, x0_), (2, x13)] fun x14 =>
 BxP t_bits_Row x14 h12 fun x16 h15 =>
 K (.tuple #[x16, (.int .i64 0)]) h15
def m_bits_New_j7 (x0_ x9_ : Value) (h : Heap) (K : Kt) : Prop :=
 CdP x9_
 (K (.tuple #[(.pointer none), (.int .i64 2)]) h)
 (m_bits_New_j8 x0_ h K)
def m_bits_New (x0_ : Value) (h : Heap) (K : Kt) : Prop :=
 BiP .lss x0_ (.int .i64 1) fun x3 =>
 CdP x3
 (m_bits_New_j7 x0_ (.bool true) h K)
 (BiP .gtr x0_ (.int .i64 65536) fun x5 =>
 m_bits_New_j7 x0_ x5 h K)
theorem m_bits_New_ok {x0_ : Value} {h : Heap} {K : Kt} (hh : m_bits_New x0_ h K) : Ca f_bits_New #[x0_] h K := cv Tryz.func214 (by kernel_rfl) hh
def m_bits_Row_Set (x0_ x1_ : Value) (h : Heap) (K : Kt) : Prop :=
 Ca f_bits_Row_there #[x0_, x1_] h fun x2 h1 =>
 BiP .neq x2 (.int .i64 0) fun x3 =>
 CdP x3
 (K x2 h1)
 (Ca f_bits_Row_Has #[x0_, x1_] h1 fun x5 h4 =>
 CdP x5
 (K (.int .i64 10) h4)
 (Fl 2 x0_ h4 fun x8 =>
 BiP .quo x1_ (.int .i64 64) fun x9 =>
 Ei 1 x8 x9 h4 fun x11 =>
 BiP .rem x1_ (.int .i64 64) fun x12 =>
 BiP .shl (.int .u64 1) x12 fun x13 =>
 BiP .or x11 x13 fun x14 =>
 IxP 1 x8 x9 fun x15 =>
 StP x15 x14 h4 fun h16 =>
 True ∧ (Fl 1 x0_ h16 fun x19 =>
 BiP .add x19 (.int .i64 1) fun x20 =>
 Fs 1 x0_ x20 h16 fun h23 =>
 K (.int .i64 0) h23)))
theorem m_bits_Row_Set_ok {x0_ x1_ : Value} {h : Heap} {K : Kt} (hh : m_bits_Row_Set x0_ x1_ h K) : Ca f_bits_Row_Set #[x0_, x1_] h K := cv Tryz.func215 (by kernel_rfl) hh
def m_pool_Pool_Take (x0_ : Value) (h : Heap) (K : Kt) : Prop :=
 Ca f_pool_Pool_Grab #[x0_, (.int .i64 1)] h fun x2 h1 =>
 ExP x2 0 fun x3 =>
 ExP x2 1 fun x4 =>
 BiP .neq x4 (.int .i64 0) fun x5 =>
 CdP x5
 (K (.tuple #[(.int .u32 0), x4]) h1)
 (Ei 1 x3 (.int .i64 0) h1 fun x7 =>
 K (.tuple #[x7, (.int .i64 0)]) h1)
theorem m_pool_Pool_Take_ok {x0_ : Value} {h : Heap} {K : Kt} (hh : m_pool_Pool_Take x0_ h K) : Ca f_pool_Pool_Take #[x0_] h K := cv Tryz.func217 (by kernel_rfl) hh
def m_word_Reader_spoil_j9 (x0_ : Value) (h : Heap) (K : Kt) : Prop :=
 Fs 0 x0_ (.slice none 0 0) h fun h12 =>
 K (.tuple #[]) h12
def m_word_Reader_spoil (x0_ x1_ : Value) (h : Heap) (K : Kt) : Prop :=
 Fl 1 x0_ h fun x4 =>
 BiP .eql x4 (.int .i64 0) fun x5 =>
 CdP x5
 (Fs 1 x0_ x1_ h fun h8 =>
 m_word_Reader_spoil_j9 x0_ h8 K)
 (m_word_Reader_spoil_j9 x0_ h K)
theorem m_word_Reader_spoil_ok {x0_ x1_ : Value} {h : Heap} {K : Kt} (hh : m_word_Reader_spoil x0_ x1_ h K) : Ca f_word_Reader_spoil #[x0_, x1_] h K := cv Tryz.func230 (by kernel_rfl) hh
def m_pool_Pool_Has_j13 (x4_ : Value) (h : Heap) (K : Kt) : Prop :=
 K x4_ h
def m_pool_Pool_Has (x0_ x1_ : Value) (h : Heap) (K : Kt) : Prop :=
 Ca f_pool_Pool_none #[x0_] h fun x3 h2 =>
 UnP .not x3 fun x4 =>
 CdP x4
 (Fl 0 x0_ h2 fun x7 =>
 CvP .i64 x1_ fun x8 =>
 Ca f_bits_Row_Has #[x7, x8] h2 fun x10 h9 =>
 m_pool_Pool_Has_j13 x10 h9 K)
 (m_pool_Pool_Has_j13 (.bool false) h2 K)
theorem m_pool_Pool_Has_ok {x0_ x1_ : Value} {h : Heap} {K : Kt} (hh : m_pool_Pool_Has x0_ x1_ h K) : Ca f_pool_Pool_Has #[x0_, x1_] h K := cv Tryz.func234 (by kernel_rfl) hh
def m_pool_Pool_Mark (x0_ x1_ : Value) (h : Heap) (K : Kt) : Prop :=
 Ca f_pool_Pool_none #[x0_] h fun x2 h1 =>
 CdP x2
 (K (.int .i64 1) h1)
 (Fl 0 x0_ h1 fun x5 =>
 CvP .i64 x1_ fun x6 =>
 Ca f_bits_Row_Set #[x5, x6] h1 fun x8 h7 =>
 K x8 h7)
theorem m_pool_Pool_Mark_ok {x0_ x1_ : Value} {h : Heap} {K : Kt} (hh : m_pool_Pool_Mark x0_ x1_ h K) : Ca f_pool_Pool_Mark #[x0_, x1_] h K := cv Tryz.func235 (by kernel_rfl) hh
def m_chain_Chain_Cut (x0_ x1_ : Value) (h : Heap) (K : Kt) : Prop :=
 Ca f_chain_Chain_there #[x0_, x1_] h fun x2 h1 =>
 BiP .neq x2 (.int .i64 0) fun x3 =>
 CdP x3
 (K x2 h1)
 (Fl 0 x0_ h1 fun x6 =>
 Ef 3 2 x6 x1_ h1 fun x9 =>
 UnP .not x9 fun x10 =>
 CdP x10
 (K (.int .i64 9) h1)
 (Ca f_chain_Chain_out #[x0_, x1_] h1 fun x12 h11 =>
 K (.int .i64 0) h11))
theorem m_chain_Chain_Cut_ok {x0_ x1_ : Value} {h : Heap} {K : Kt} (hh : m_chain_Chain_Cut x0_ x1_ h K) : Ca f_chain_Chain_Cut #[x0_, x1_] h K := cv Tryz.func243 (by kernel_rfl) hh
def m_chain_Chain_Front_j11 (x5_ : Value) (h : Heap) (K : Kt) : Prop :=
 K x5_ h
def m_chain_Chain_Front (x0_ x1_ : Value) (h : Heap) (K : Kt) : Prop :=
 Ca f_chain_Chain_there #[x0_, x1_] h fun x2 h1 =>
 BiP .eql x2 (.int .i64 0) fun x4 =>
 CdP x4
 (Ca f_chain_Chain_out #[x0_, x1_] h1 fun x6 h5 =>
 Ca f_chain_Chain_root #[x0_] h5 fun x8 h7 =>
 Ca f_chain_Chain_put #[x0_, x1_, x8] h7 fun x10 h9 =>
 m_chain_Chain_Front_j11 x2 h9 K)
 (m_chain_Chain_Front_j11 x2 h1 K)
theorem m_chain_Chain_Front_ok {x0_ x1_ : Value} {h : Heap} {K : Kt} (hh : m_chain_Chain_Front x0_ x1_ h K) : Ca f_chain_Chain_Front #[x0_, x1_] h K := cv Tryz.func247 (by kernel_rfl) hh
def m_word_Reader_Zeros (x0_ x1_ : Value) (h : Heap) (K : Kt) : Prop :=
 Ca f_word_Reader_Raw #[x0_, x1_] h fun x2 h1 =>
 Ca f_slices_ContainsFunc_byte #[x2, (.func (.func f_word_Reader_Zeros_1) #[] #[])] h1 fun x4 h3 =>
 CdP x4
 (Ca f_word_Reader_spoil #[x0_, (.int .i64 3)] h3 fun x6 h5 =>
 K (.tuple #[]) h5)
 (K (.tuple #[]) h3)
theorem m_word_Reader_Zeros_ok {x0_ x1_ : Value} {h : Heap} {K : Kt} (hh : m_word_Reader_Zeros x0_ x1_ h K) : Ca f_word_Reader_Zeros #[x0_, x1_] h K := cv Tryz.func248 (by kernel_rfl) hh
def m_bits_Row_there_j14 (h : Heap) (K : Kt) : Prop :=
 K (.int .i64 0) h
def m_bits_Row_there_j13 (x9_ : Value) (h : Heap) (K : Kt) : Prop :=
 CdP x9_
 (K (.int .i64 4) h)
 (m_bits_Row_there_j14 h K)
def m_bits_Row_there (x0_ x1_ : Value) (h : Heap) (K : Kt) : Prop :=
 Ca f_bits_Row_Len #[x0_] h fun x3 h2 =>
 BiP .eql x3 (.int .i64 0) fun x4 =>
 CdP x4
 (K (.int .i64 1) h2)
 (BiP .lss x1_ (.int .i64 0) fun x6 =>
 CdP x6
 (m_bits_Row_there_j13 (.bool true) h2 K)
 (Fl 0 x0_ h2 fun x10 =>
 BiP .geq x1_ x10 fun x11 =>
 m_bits_Row_there_j13 x11 h2 K))
theorem m_bits_Row_there_ok {x0_ x1_ : Value} {h : Heap} {K : Kt} (hh : m_bits_Row_there x0_ x1_ h K) : Ca f_bits_Row_there #[x0_, x1_] h K := cv Tryz.func253 (by kernel_rfl) hh
def m_bits_Row_Has_j17 (x4_ : Value) (h : Heap) (K : Kt) : Prop :=
 K x4_ h
def m_bits_Row_Has (x0_ x1_ : Value) (h : Heap) (K : Kt) : Prop :=
 Ca f_bits_Row_there #[x0_, x1_] h fun x3 h2 =>
 BiP .eql x3 (.int .i64 0) fun x4 =>
 CdP x4
 (Fl 2 x0_ h2 fun x7 =>
 BiP .quo x1_ (.int .i64 64) fun x8 =>
 Ei 1 x7 x8 h2 fun x10 =>
 BiP .rem x1_ (.int .i64 64) fun x11 =>
 BiP .shr x10 x11 fun x12 =>
 BiP .and x12 (.int .u64 1) fun x13 =>
 BiP .eql x13 (.int .u64 1) fun x14 =>
 m_bits_Row_Has_j17 x14 h2 K)
 (m_bits_Row_Has_j17 (.bool false) h2 K)
theorem m_bits_Row_Has_ok {x0_ x1_ : Value} {h : Heap} {K : Kt} (hh : m_bits_Row_Has x0_ x1_ h K) : Ca f_bits_Row_Has #[x0_, x1_] h K := cv Tryz.func254 (by kernel_rfl) hh
def m_lex_All (h : Heap) (K : Kt) : Prop :=
 AlP t_api_Span zt_api_Span h fun x2 h1 =>
 BlP bt_api_Span [(2, (.bool true))] fun x3 =>
 StA 3 x2 x3 h1 fun h4 =>
 LdA 3 x2 h4 fun x5 =>
 K x5 h4
theorem m_lex_All_ok {h : Heap} {K : Kt} (hh : m_lex_All h K) : Ca f_lex_All #[] h K := cv Tryz.func256 (by kernel_rfl) hh
def m_pool_Pool_Grab_j32 (x6_ : Value) (h : Heap) (K : Kt) : Prop :=
 K (.tuple #[x6_, (.int .i64 0)]) h
def m_pool_Pool_Grab_l9 (vs : List Value) (x0_ x21_ : Value) (h : Heap) (nx10 : Nt) (K : Kt) : Prop :=
 BiP .lss (gv vs 2) x21_ fun x11 =>
 CdP x11
 (Fl 0 x0_ h fun x15 =>
 Ca f_bits_Row_Free #[x15, (gv vs 1)] h fun x17 h16 =>
 ExP x17 0 fun x18 =>
 ExP x17 1 fun x19 =>
 Fl 0 x0_ h16 fun x22 =>
 Ca f_bits_Row_Set #[x22, x18] h16 fun x24 h23 =>
 CvP .u32 x18 fun x25 =>
 BsP st_S_uint32 1 [(0, x25)] h23 fun x27 h26 =>
 VH Pg (Builtin.append_ #[t_S_uint32, t_S_uint32] t_S_uint32 #[(gv vs 0), x27]) h26 fun x29 h28 =>
 BiP .add x18 (.int .i64 1) fun x30 =>
 BiP .add (gv vs 2) (.int .i64 1) fun x31 =>
 nx10 [x29, x30, x31] h28)
 (m_pool_Pool_Grab_j32 (gv vs 0) h K)
def m_pool_Pool_Grab (x0_ x1_ : Value) (h : Heap) (K : Kt) : Prop :=
 Ca f_pool_Pool_none #[x0_] h fun x3 h2 =>
 CdP x3
 (K (.tuple #[(.slice none 0 0), (.int .i64 1)]) h2)
 (BiP .lss x1_ (.int .i64 0) fun x4 =>
 CdP x4
 (K (.tuple #[(.slice none 0 0), (.int .i64 2)]) h2)
 (Ca f_pool_Pool_Free #[x0_] h2 fun x6 h5 =>
 BiP .gtr x1_ x6 fun x7 =>
 CdP x7
 (K (.tuple #[(.slice none 0 0), (.int .i64 11)]) h5)
 (LoP (fun vt h nx10 => m_pool_Pool_Grab_l9 vt x0_ x1_ h nx10 K) [(.slice none 0 0), (.int .i64 0), (.int .i64 0)] h5)))
theorem m_pool_Pool_Grab_ok {x0_ x1_ : Value} {h : Heap} {K : Kt} (hh : m_pool_Pool_Grab x0_ x1_ h K) : Ca f_pool_Pool_Grab #[x0_, x1_] h K := cv Tryz.func259 (by kernel_rfl) hh
def m_chain_Chain_there_j21 (h : Heap) (K : Kt) : Prop :=
 K (.int .i64 0) h
def m_chain_Chain_there_j20 (x16_ : Value) (h : Heap) (K : Kt) : Prop :=
 CdP x16_
 (K (.int .i64 4) h)
 (m_chain_Chain_there_j21 h K)
def m_chain_Chain_there_j12 (x0_ x1_ x5_ : Value) (h : Heap) (K : Kt) : Prop :=
 CdP x5_
 (K (.int .i64 1) h)
 (BiP .lss x1_ (.int .i64 0) fun x14 =>
 CdP x14
 (m_chain_Chain_there_j20 (.bool true) h K)
 (Ca f_chain_Chain_root #[x0_] h fun x17 h16 =>
 BiP .geq x1_ x17 fun x18 =>
 m_chain_Chain_there_j20 x18 h16 K))
def m_chain_Chain_there (x0_ x1_ : Value) (h : Heap) (K : Kt) : Prop :=
 EqP .eql t_P_chain_Chain (.tmp 6) (.const (.pointer none)) x0_ (.pointer none) h fun x4 h3 =>
 CdP x4
 (m_chain_Chain_there_j12 x0_ x1_ (.bool true) h3 K)
 (Fl 0 x0_ h3 fun x8 =>
 LenP (some true) x8 fun x9 =>
 BiP .eql x9 (.int .i64 0) fun x10 =>
 m_chain_Chain_there_j12 x0_ x1_ x10 h3 K)
theorem m_chain_Chain_there_ok {x0_ x1_ : Value} {h : Heap} {K : Kt} (hh : m_chain_Chain_there x0_ x1_ h K) : Ca f_chain_Chain_there #[x0_, x1_] h K := cv Tryz.func274 (by kernel_rfl) hh
def m_chain_Chain_out (x0_ x1_ : Value) (h : Heap) (K : Kt) : Prop :=
 Fl 0 x0_ h fun x3 =>
 Ea 3 x3 x1_ h fun x5 =>
 AlP t_chain_link zt_chain_link h fun x7 h6 =>
 StA 3 x7 x5 h6 fun h8 =>
 Fv 2 x7 h8 fun x10 =>
 UnP .not x10 fun x11 =>
 CdP x11
 (K (.tuple #[]) h8)
 (Fl 0 x0_ h8 fun x14 =>
 Fv 0 x7 h8 fun x16 =>
 Fv 1 x7 h8 fun x18 =>
 IxP 3 x14 x16 fun x19 =>
 FaP (some 1) x19 fun x20 =>
 StP x20 x18 h8 fun h21 =>
 True ∧ (Fl 0 x0_ h21 fun x24 =>
 Fv 1 x7 h21 fun x26 =>
 Fv 0 x7 h21 fun x28 =>
 IxP 3 x24 x26 fun x29 =>
 FaP (some 0) x29 fun x30 =>
 StP x30 x28 h21 fun h31 =>
 True ∧ (Fl 0 x0_ h31 fun x34 =>
 BlP bt_chain_link [] fun x35 =>
 IxP 3 x34 x1_ fun x36 =>
 StA 3 x36 x35 h31 fun h37 =>
 Fl 1 x0_ h37 fun x40 =>
 BiP .sub x40 (.int .i64 1) fun x41 =>
 Fs 1 x0_ x41 h37 fun h44 =>
 K (.tuple #[]) h44)))
theorem m_chain_Chain_out_ok {x0_ x1_ : Value} {h : Heap} {K : Kt} (hh : m_chain_Chain_out x0_ x1_ h K) : Ca f_chain_Chain_out #[x0_, x1_] h K := cv Tryz.func275 (by kernel_rfl) hh
def m_chain_Chain_Last (x0_ : Value) (h : Heap) (K : Kt) : Prop :=
 Ca f_chain_Chain_Len #[x0_] h fun x2 h1 =>
 BiP .eql x2 (.int .i64 0) fun x3 =>
 CdP x3
 (K (.tuple #[(.int .i64 0), (.bool false)]) h1)
 (∃ X4 : XS,
 NilP x0_ fun x5 =>
 FaP (some 0) x5 fun x6 =>
 LdX X4 x6 h1 fun x7 =>
 Ca f_chain_Chain_root #[x0_] h1 fun x9 h8 =>
 Agr X4 h1 h8 ∧ (IxP 3 x7 x9 fun x10 =>
 FaP (some 0) x10 fun x11 =>
 LdX X4 x11 h1 fun x12 =>
 K (.tuple #[x12, (.bool true)]) h8))
theorem m_chain_Chain_Last_ok {x0_ : Value} {h : Heap} {K : Kt} (hh : m_chain_Chain_Last x0_ h K) : Ca f_chain_Chain_Last #[x0_] h K := cv Tryz.func276 (by kernel_rfl) hh
def m_chain_Chain_put (x0_ x1_ x2_ : Value) (h : Heap) (K : Kt) : Prop :=
 Fl 0 x0_ h fun x3 =>
 Ef 3 1 x3 x2_ h fun x6 =>
 Fl 0 x0_ h fun x9 =>
 BlP bt_chain_link [(0, x2_), (1, x6), (2, (.bool true))] fun x10 =>
 IxP 3 x9 x1_ fun x11 =>
 StA 3 x11 x10 h fun h12 =>
 Fl 0 x0_ h12 fun x15 =>
 IxP 3 x15 x2_ fun x16 =>
 FaP (some 1) x16 fun x17 =>
 StP x17 x1_ h12 fun h18 =>
 Fl 0 x0_ h18 fun x21 =>
 IxP 3 x21 x6 fun x22 =>
 FaP (some 0) x22 fun x23 =>
 StP x23 x1_ h18 fun h24 =>
 Fl 1 x0_ h24 fun x27 =>
 BiP .add x27 (.int .i64 1) fun x28 =>
 Fs 1 x0_ x28 h24 fun h31 =>
 K (.tuple #[]) h31
theorem m_chain_Chain_put_ok {x0_ x1_ x2_ : Value} {h : Heap} {K : Kt} (hh : m_chain_Chain_put x0_ x1_ x2_ h K) : Ca f_chain_Chain_put #[x0_, x1_, x2_] h K := cv Tryz.func278 (by kernel_rfl) hh
def m_chain_Chain_root (x0_ : Value) (h : Heap) (K : Kt) : Prop :=
 Fl 0 x0_ h fun x3 =>
 LenP (some true) x3 fun x4 =>
 BiP .sub x4 (.int .i64 1) fun x5 =>
 K x5 h
theorem m_chain_Chain_root_ok {x0_ : Value} {h : Heap} {K : Kt} (hh : m_chain_Chain_root x0_ h K) : Ca f_chain_Chain_root #[x0_] h K := cv Tryz.func279 (by kernel_rfl) hh
def m_word_Reader_Zeros_1 (x0_ : Value) (h : Heap) (K : Kt) : Prop :=
 BiP .neq x0_ (.int .u8 0) fun x1 =>
 K x1 h
theorem m_word_Reader_Zeros_1_ok {x0_ : Value} {h : Heap} {K : Kt} (hh : m_word_Reader_Zeros_1 x0_ h K) : Ca f_word_Reader_Zeros_1 #[x0_] h K := cv Tryz.func281 (by kernel_rfl) hh
def m_word_Reader_Text_j12 (x0_ x1_ x2_ : Value) (h : Heap) (K : Kt) : Prop :=
 Ca f_word_Reader_Raw #[x0_, x2_] h fun x14 h13 =>
 LenP (some true) x14 fun x15 =>
 BiP .lss x15 x2_ fun x16 =>
 CdP x16
 (K (.string { data := #[] }) h13)
 (SlP 1 x14 (some x1_) none fun x17 =>
 Ca f_slices_ContainsFunc_byte #[x17, (.func (.func f_word_Reader_Text_1) #[] #[])] h13 fun x19 h18 =>
 CdP x19
 (Ca f_word_Reader_spoil #[x0_, (.int .i64 3)] h18 fun x21 h20 =>
 K (.string { data := #[] }) h20)
 (SlP 1 x14 none (some x1_) fun x22 =>
 VH Pg (convert t_S_uint8 t_string x22) h18 fun x24 h23 =>
 K x24 h23))
def m_word_Reader_Text_j9 (x0_ x1_ x2_ x16_ : Value) (h : Heap) (K : Kt) : Prop :=
 CdP x16_
 (Ca f_word_Reader_spoil #[x0_, (.int .i64 2)] h fun x11 h10 =>
 K (.string { data := #[] }) h10)
 (m_word_Reader_Text_j12 x0_ x1_ x2_ h K)
def m_word_Reader_Text (x0_ x1_ x2_ : Value) (h : Heap) (K : Kt) : Prop :=
 EqP .eql t_P_word_Reader (.tmp 8) (.const (.pointer none)) x0_ (.pointer none) h fun x2 h1 =>
 CdP x2
 (K (.string { data := #[] }) h1)
 (BiP .lss x1_ (.int .i64 0) fun x5 =>
 CdP x5
 (m_word_Reader_Text_j9 x0_ x1_ x2_ (.bool true) h1 K)
 (BiP .gtr x1_ x2_ fun x7 =>
 m_word_Reader_Text_j9 x0_ x1_ x2_ x7 h1 K))
theorem m_word_Reader_Text_ok {x0_ x1_ x2_ : Value} {h : Heap} {K : Kt} (hh : m_word_Reader_Text x0_ x1_ x2_ h K) : Ca f_word_Reader_Text #[x0_, x1_, x2_] h K := cv Tryz.func283 (by kernel_rfl) hh
def m_bits_Row_Free_j12 (x0_ x1_ : Value) (h : Heap) (K : Kt) : Prop :=
 Ca f_bits_Row_seek #[x0_, x1_, (.int .u64 18446744073709551615)] h fun x14 h13 =>
 ExP x14 0 fun x15 =>
 ExP x14 1 fun x16 =>
 Ca f_bits_told #[x15, x16] h13 fun x18 h17 =>
 ExP x18 0 fun x19 =>
 ExP x18 1 fun x20 =>
 K (.tuple #[x19, x20]) h17
def m_bits_Row_Free_j11 (x0_ x1_ x14_ : Value) (h : Heap) (K : Kt) : Prop :=
 CdP x14_
 (K (.tuple #[(.int .i64 0), (.bool false)]) h)
 (m_bits_Row_Free_j12 x0_ x1_ h K)
def m_bits_Row_Free (x0_ x1_ : Value) (h : Heap) (K : Kt) : Prop :=
 Ca f_bits_Row_Len #[x0_] h fun x4 h3 =>
 BiP .eql x4 (.int .i64 0) fun x5 =>
 CdP x5
 (m_bits_Row_Free_j11 x0_ x1_ (.bool true) h3 K)
 (Ca f_bits_Row_Len #[x0_] h3 fun x8 h7 =>
 BiP .geq x1_ x8 fun x9 =>
 m_bits_Row_Free_j11 x0_ x1_ x9 h7 K)
theorem m_bits_Row_Free_ok {x0_ x1_ : Value} {h : Heap} {K : Kt} (hh : m_bits_Row_Free x0_ x1_ h K) : Ca f_bits_Row_Free #[x0_, x1_] h K := cv Tryz.func291 (by kernel_rfl) hh
def m_chain_Chain_Len (x0_ : Value) (h : Heap) (K : Kt) : Prop :=
 EqP .eql t_P_chain_Chain (.tmp 3) (.const (.pointer none)) x0_ (.pointer none) h fun x2 h1 =>
 CdP x2
 (K (.int .i64 0) h1)
 (Fl 1 x0_ h1 fun x5 =>
 K x5 h1)
theorem m_chain_Chain_Len_ok {x0_ : Value} {h : Heap} {K : Kt} (hh : m_chain_Chain_Len x0_ h K) : Ca f_chain_Chain_Len #[x0_] h K := cv Tryz.func311 (by kernel_rfl) hh
def m_word_Reader_Text_1 (x0_ : Value) (h : Heap) (K : Kt) : Prop :=
 BiP .neq x0_ (.int .u8 0) fun x1 =>
 K x1 h
theorem m_word_Reader_Text_1_ok {x0_ : Value} {h : Heap} {K : Kt} (hh : m_word_Reader_Text_1 x0_ h K) : Ca f_word_Reader_Text_1 #[x0_] h K := cv Tryz.func313 (by kernel_rfl) hh
def m_lex_In_j17 (x4_ : Value) (h : Heap) (K : Kt) : Prop :=
 K x4_ h
def m_lex_In (x0_ x1_ : Value) (h : Heap) (K : Kt) : Prop :=
 BxP t_api_Span x0_ h fun x2 h1 =>
 Fv 0 x2 h1 fun x5 =>
 BiP .geq x1_ x5 fun x6 =>
 CdP x6
 (Fv 2 x2 h1 fun x8 =>
 CdP x8
 (m_lex_In_j17 (.bool true) h1 K)
 (Fv 1 x2 h1 fun x12 =>
 BiP .lss x1_ x12 fun x13 =>
 m_lex_In_j17 x13 h1 K))
 (undef = undef ∧ (undef = undef ∧ (undef = undef ∧ (undef = undef ∧ (m_lex_In_j17 (.bool false) h1 K)))))
theorem m_lex_In_ok {x0_ x1_ : Value} {h : Heap} {K : Kt} (hh : m_lex_In x0_ x1_ h K) : Ca f_lex_In #[x0_, x1_] h K := cv Tryz.func316 (by kernel_rfl) hh
def m_bits_told (x0_ x1_ : Value) (h : Heap) (K : Kt) : Prop :=
 UnP .not x1_ fun x1 =>
 CdP x1
 (K (.tuple #[(.int .i64 0), (.bool false)]) h)
 (K (.tuple #[x0_, (.bool true)]) h)
theorem m_bits_told_ok {x0_ x1_ : Value} {h : Heap} {K : Kt} (hh : m_bits_told x0_ x1_ h K) : Ca f_bits_told #[x0_, x1_] h K := cv Tryz.func323 (by kernel_rfl) hh
def m_bits_Row_seek_j35 (x0_ x1_ x2_ x6_ x7_ x8_ : Value) (h : Heap) (nx6 : Nt) (K : Kt) : Prop :=
 BiP .add x8_ (.int .i64 1) fun x36 =>
 nx6 [x6_, x7_, x36] h
def m_bits_Row_seek_j25 (x0_ x1_ x2_ x6_ x7_ x8_ x9_ : Value) (h : Heap) (nx6 : Nt) (K : Kt) : Prop :=
 BiP .eql x9_ (.int .u64 0) fun x26 =>
 CdP x26
 (m_bits_Row_seek_j35 x0_ x1_ x2_ x6_ x7_ x8_ h nx6 K)
 (BiP .mul x8_ (.int .i64 64) fun x27 =>
 Ca f_bits_TrailingZeros64 #[x9_] h fun x29 h28 =>
 BiP .add x27 x29 fun x30 =>
 Fl 0 x0_ h28 fun x33 =>
 BiP .lss x30 x33 fun x34 =>
 K (.tuple #[x30, x34]) h28)
def m_bits_Row_seek_j37 (h : Heap) (K : Kt) : Prop :=
 K (.tuple #[(.int .i64 0), (.bool false)]) h
def m_bits_Row_seek_l5 (vs : List Value) (x0_ x1_ x2_ : Value) (h : Heap) (nx6 : Nt) (K : Kt) : Prop :=
 Fl 2 x0_ h fun x9 =>
 LenP (some true) x9 fun x10 =>
 BiP .lss (gv vs 2) x10 fun x11 =>
 CdP x11
 (Fl 2 x0_ h fun x15 =>
 Ei 1 x15 (gv vs 2) h fun x17 =>
 BiP .xor x17 x2_ fun x18 =>
 BiP .quo x1_ (.int .i64 64) fun x20 =>
 BiP .eql (gv vs 2) x20 fun x21 =>
 CdP x21
 (BiP .rem x1_ (.int .i64 64) fun x22 =>
 BiP .shl (.int .u64 18446744073709551615) x22 fun x23 =>
 BiP .and x18 x23 fun x24 =>
 m_bits_Row_seek_j25 x0_ x1_ x2_ (gv vs 0) (gv vs 1) (gv vs 2) x24 h nx6 K)
 (m_bits_Row_seek_j25 x0_ x1_ x2_ (gv vs 0) (gv vs 1) (gv vs 2) x18 h nx6 K))
 (m_bits_Row_seek_j37 h K)
def m_bits_Row_seek (x0_ x1_ x2_ : Value) (h : Heap) (K : Kt) : Prop :=
 VH Pg (Builtin.max_ #[t_int, t_int] t_int #[(.int .i64 0), x1_]) h fun x2 h1 =>
 BiP .quo x2 (.int .i64 64) fun x4 =>
 LoP (fun vt h nx6 => m_bits_Row_seek_l5 vt x0_ x2 x2_ h nx6 K) [(.int .i64 0), (.bool false), x4] h1
theorem m_bits_Row_seek_ok {x0_ x1_ x2_ : Value} {h : Heap} {K : Kt} (hh : m_bits_Row_seek x0_ x1_ x2_ h K) : Ca f_bits_Row_seek #[x0_, x1_, x2_] h K := cv Tryz.func324 (by kernel_rfl) hh
def m_bits_TrailingZeros64 (x0_ : Value) (h : Heap) (K : Kt) : Prop :=
 BiP .eql x0_ (.int .u64 0) fun x1 =>
 CdP x1
 (K (.int .i64 64) h)
 (UnP .neg x0_ fun x2 =>
 BiP .and x0_ x2 fun x3 =>
 BiP .mul x3 (.int .u64 285870213051353865) fun x4 =>
 BiP .shr x4 (.int .u64 58) fun x5 =>
 IxA 64 1 (.pointer (some ⟨1, 0, none⟩)) x5 fun x6 =>
 LdP x6 h fun x7 =>
 CvP .i64 x7 fun x8 =>
 K x8 h)
theorem m_bits_TrailingZeros64_ok {x0_ : Value} {h : Heap} {K : Kt} (hh : m_bits_TrailingZeros64 x0_ h K) : Ca f_bits_TrailingZeros64 #[x0_] h K := cv Tryz.func341 (by kernel_rfl) hh
end Go.Sg
namespace Go.Sg
open Go Vc
theorem cx {f : FuncId} {fn : Func} {args : Array Value} {h : Heap} {K : Kt} {e : Array Value → Sem Value} {v : Value} (hf : Pg.funcs[f]? = some fn) (h1 : (fn.name == "runtime.NumGoroutine") = false) (h2 : fn.body.isNone = true)
    (h3 : Extern.findNext fn = none) (h4 : Extern.find fn = some e) (hr : ∀ w, (e args).run Pg w = .ok v w) (r : K v h) : Cx f args h K := by
  intro w hw
  have h1' : ¬ fn.name = "runtime.NumGoroutine" := by simpa using h1
  have h2' : fn.body = none := by simpa using h2
  exact ⟨v, w, by simp [callFunc, hf, h1', h2', h3, h4, hr], Kin.refl w, by rw [hw]; exact r⟩
def cmp (a b : Str) : Int := Go.Lib.compareBytes a b
theorem cmp_lt : ∀ {a b : Str}, cmp a b < 0 ↔ a < b
  | [], [] => by simp [cmp, Go.Lib.compareBytes]
  | [], _ :: _ => by simp [cmp, Go.Lib.compareBytes]
  | _ :: _, [] => by simp [cmp, Go.Lib.compareBytes]
  | x :: a, y :: b => by
    have ih := cmp_lt (a := a) (b := b)
    unfold cmp at ih ⊢
    rw [Go.Lib.compareBytes, List.cons_lt_cons_iff]
    by_cases h1 : x < y
    · simp [h1]
    · by_cases h2 : y < x
      · have : x ≠ y := fun e => h1 (by subst e; exact h2)
        simp [h1, h2, this]
      · have : x = y := UInt8.le_antisymm (UInt8.not_lt.1 h2) (UInt8.not_lt.1 h1)
        simp [h1, h2, ih, this]
theorem cmp_eq : ∀ {a b : Str}, cmp a b = 0 ↔ a = b
  | [], [] => by simp [cmp, Go.Lib.compareBytes]
  | [], _ :: _ => by simp [cmp, Go.Lib.compareBytes]
  | _ :: _, [] => by simp [cmp, Go.Lib.compareBytes]
  | x :: a, y :: b => by
    have ih := cmp_eq (a := a) (b := b)
    unfold cmp at ih ⊢
    rw [Go.Lib.compareBytes]
    by_cases h1 : x < y
    · have : x ≠ y := fun e => by subst e; exact absurd h1 (UInt8.lt_irrefl _)
      simp [h1, this]
    · by_cases h2 : y < x
      · have : x ≠ y := fun e => by subst e; exact absurd h2 (UInt8.lt_irrefl _)
        simp [h1, h2, this]
      · have : x = y := UInt8.le_antisymm (UInt8.not_lt.1 h2) (UInt8.not_lt.1 h1)
        simp [h1, h2, ih, this]
theorem cmp_cases (a b : Str) : (cmp a b = -1 ∧ a < b) ∨ (cmp a b = 0 ∧ a = b) ∨ (cmp a b = 1 ∧ b < a) := by
  induction a generalizing b with
  | nil => cases b <;> simp [cmp, Go.Lib.compareBytes]
  | cons x a ih =>
    cases b with
    | nil => simp [cmp, Go.Lib.compareBytes]
    | cons y b =>
      have ih := ih b
      unfold cmp at ih ⊢
      rw [Go.Lib.compareBytes]
      simp only [List.cons_lt_cons_iff]
      by_cases h1 : x < y
      · simp [h1]
      · by_cases h2 : y < x
        · simp [h1, h2]
        · have : x = y := UInt8.le_antisymm (UInt8.not_lt.1 h2) (UInt8.not_lt.1 h1)
          simpa [h1, h2, this] using ih
section
variable {h : Heap} {K : Kt} {a b : Str}
theorem c_CompareString (r : K (int (cmp a b)) h) : Ca f_bytealg_CompareString #[str a, str b] h K :=
  m_bytealg_CompareString_ok (cx b_bytealg_abigen_runtime_cmpstring_at (by kernel_rfl) (by kernel_rfl) (by kernel_rfl) (by kernel_rfl) (fun w => Go.Lib.run_compareString _ _ w) (by simpa [cmp] using r))
theorem c_strings_Compare (r : K (int (cmp a b)) h) : Ca f_strings_Compare #[str a, str b] h K := m_strings_Compare_ok (c_CompareString r)
theorem c_lex_Compare (r : K (int (cmp a b)) h) : Ca f_lex_Compare #[str a, str b] h K := m_lex_Compare_ok (c_strings_Compare r)
end
structure Span where
  lo : Str
  hi : Str
  top : Bool
deriving DecidableEq
def Span.v (s : Span) : Value := .agg #[str s.lo, str s.hi, .bool s.top]
def Span.cs (s : Span) : List Value := [str s.lo, str s.hi, .bool s.top]
def allSpan : Span := ⟨[], [], true⟩
section
variable {h : Heap} {K : Kt}
theorem c_lex_All (r : ∀ h', Ext h h' → K allSpan.v h') : Ca f_lex_All #[] h K := by
  refine m_lex_All_ok ?_
  refine al (v := _) fun b h1 e1 hb k1 _ => ?_
  refine ⟨_, _, rfl, rfl, ?_⟩
  refine StA_blk (vs := [str [], str [], .bool true]) k1 (by simp [Value.cells]) rfl rfl ?_
  refine LdA_blk (hsets_blk _ _ k1) rfl ?_
  exact r _ (e1.own (n0 := h.size) (hsets_ex (by omega)) (Nat.le_refl _))
end
end Go.Sg
namespace Go.Sg
open Go Vc
section
variable {h : Heap} {K : Value → Prop} {H : Heap → Prop} {Q : Value → Heap → Prop}
def rd (h : Heap) (b : Nat) : Nat → Nat → Option (List Value)
  | _, 0 => some []
  | o, n + 1 => (hget h b o).bind fun v => (rd h b (o + 1) n).map (v :: ·)
theorem rd_iff {b : Nat} : ∀ {n o : Nat} {vs : List Value}, rd h b o n = some vs ↔ vs.length = n ∧ ∀ j v, vs[j]? = some v → hget h b (o + j) = some v
  | 0, o, vs => by
    simp only [rd, Option.some.injEq, List.length_eq_zero_iff]
    constructor
    · rintro rfl; exact ⟨rfl, fun j v h => by simp at h⟩
    · rintro ⟨rfl, _⟩; rfl
  | n + 1, o, vs => by
    simp only [rd]
    cases vs with
    | nil => simp [Option.bind_eq_some_iff]
    | cons x vs =>
      simp only [Option.bind_eq_some_iff, Option.map_eq_some_iff, List.length_cons]
      constructor
      · rintro ⟨v, h1, l, h2, h3⟩
        cases h3
        have := (rd_iff (n := n)).1 h2
        refine ⟨by rw [this.1], fun j w hj => ?_⟩
        cases j with
        | zero => simp at hj; subst hj; exact h1
        | succ j => simp at hj; have := this.2 j w hj; rw [← this]; congr 1; omega
      · rintro ⟨h1, h2⟩
        refine ⟨x, by simpa using h2 0 x rfl, vs, (rd_iff (n := n)).2 ⟨by omega, fun j w hj => ?_⟩, rfl⟩
        have := h2 (j + 1) w (by simpa using hj)
        rw [← this]; congr 1; omega
theorem LdA_iff {b o n} : LdA n (ptr b o) h K ↔ ∃ vs, rd h b o n = some vs ∧ K (.agg vs.toArray) := by
  constructor
  · rintro ⟨b', o', vs, e, h1, h2, k⟩; cases e; exact ⟨vs, rd_iff.2 ⟨h1, h2⟩, k⟩
  · rintro ⟨vs, h1, k⟩; obtain ⟨h1, h2⟩ := rd_iff.1 h1; exact ⟨b, o, vs, rfl, h1, h2, k⟩
theorem le_str {a b : Str} : (Op.bytesLess a b || a == b) = decide (¬ b < a) := by
  have := bl_eq (a := a) (b := b)
  unfold Vc.bytesLt at this
  rw [this]
  rcases cmp_cases a b with ⟨_, h⟩ | ⟨_, h⟩ | ⟨_, h⟩
  · have : ¬ b < a := List.lt_asymm h
    simp [h, this]
  · subst h; simp [List.lt_irrefl]
  · have h2 : ¬ a < b := List.lt_asymm h
    have h3 : a ≠ b := fun e => by subst e; exact List.lt_irrefl _ h
    simp [h, h2, h3]
theorem BiP_sleq {a b : Str} {K : Value → Prop} : BiP .leq (str a) (str b) K ↔ K (.bool (decide (¬ b < a))) := by
  simp only [BiP, binVal, str, toList_str, Option.some.injEq, exists_eq_left', Vc.bytesLt, le_str]
theorem BiP_sgeq {a b : Str} {K : Value → Prop} : BiP .geq (str a) (str b) K ↔ K (.bool (decide (¬ a < b))) := by
  simp only [BiP, binVal, str, toList_str, Option.some.injEq, exists_eq_left', bl_eq]
  have : (!decide (a < b)) = decide (¬ a < b) := by by_cases h : a < b <;> simp only [h, not_true_eq_false, not_false_eq_true, decide_true, decide_false, Bool.not_true, Bool.not_false]
  rw [this]
theorem sadd {a b : Str} {K : Value → Prop} (hl : a.length + b.length < 2 ^ 62) (r : K (str (a ++ b))) : BiP .add (str a) (str b) K := by
  refine ⟨_, ?_, r⟩
  simp only [binVal, str]
  rw [if_neg]
  · congr 2
  · simp only [ByteArray.size, List.size_toArray, IntKind.max, IntKind.signed, IntKind.bits]
    simp
    omega
theorem bxa {t} {cs : List Value} (r : ∀ b h', Ext h h' → b = h.size → Blk h' b cs → h'.size = h.size + 1 → Q (ptr b 0) h') : BxP t (.agg cs.toArray) h Q := bx r
theorem ala {t} {cs : List Value} (r : ∀ b h', Ext h h' → b = h.size → Blk h' b cs → h'.size = h.size + 1 → Q (ptr b 0) h') : AlP t (some (.agg cs.toArray)) h Q := al r
theorem bx1 {t} {v : Value} (hv : v.cells = #[v]) (r : ∀ b h', Ext h h' → b = h.size → Blk h' b [v] → h'.size = h.size + 1 → Q (ptr b 0) h') : BxP t v h Q :=
  bx fun b h' e hb k s => r b h' e hb (by rw [hv] at k; exact k) s
theorem LdA_b {b n} {cs : List Value} (k : Blk h b cs) (hn : cs.length = n) : LdA n (ptr b 0) h K ↔ K (.agg cs.toArray) := by
  rw [LdA_iff]
  have : rd h b 0 n = some cs := rd_iff.2 ⟨hn, fun j v hj => by rw [k.get, Nat.zero_add]; exact hj⟩
  simp [this]
theorem StP_b {b o v} {cs : List Value} (k : Blk h b cs) (ho : o < cs.length) (hv : one' v = true) (r : ∀ h', h'.size = h.size → Ex (fun x => x = b) h h' → Blk h' b (cs.set o v) → H h') : StP (ptr b o) v h H :=
  StP_blk k ho hv (r _ (size_hset _ _ _ _) (hset_ex rfl) (hset_blk k o v))
theorem StA_b {b n} {vs cs : List Value} (k : Blk h b cs) (hn : cs.length = n) (hl : vs.length = n) (hv : vs.all one' = true) (r : ∀ h', h'.size = h.size → Ex (fun x => x = b) h h' → Blk h' b vs → H h') : StA n (ptr b 0) (.agg vs.toArray) h H :=
  StA_blk k (by omega) hl hv (r _ (size_hsets _ _ _ _) (hsets_ex rfl) (by have := hsets_blk vs 0 k; rwa [over_all _ _ (by omega)] at this))
theorem Fs_b {b o i v} {cs : List Value} (k : Blk h b cs) (ho : o + i < cs.length) (hv : one' v = true) (r : ∀ h', h'.size = h.size → Ex (fun x => x = b) h h' → Blk h' b (cs.set (o + i) v) → H h') : Fs i (ptr b o) v h H := by
  simp only [Fs, NilP_ptr, FaP_ptr]; exact StP_b k ho hv r
end
end Go.Sg
namespace Go.Sg
open Go Vc
def Span.empty (s : Span) : Bool := !s.top && decide (¬ s.lo < s.hi)
section
variable {h : Heap} {K : Kt}
theorem c_lex_Empty {s : Span} (r : ∀ h', Ext h h' → K (.bool s.empty) h') : Ca f_lex_Empty #[s.v] h K := by
  refine m_lex_Empty_ok ?_
  obtain ⟨lo, hi, top⟩ := s
  refine bxa fun b h1 e1 hb k1 _ => ?_
  have r := r h1 e1
  cases top <;> simpa [m_lex_Empty_j14, k1.get, BiP_sleq, Span.empty] using r
end
end Go.Sg
namespace Go.Sg
open Go Vc
theorem avg {i j : Nat} {R : Value → Prop} (hr : i + j < 2 ^ 62) (r : R (int (((i + j) / 2 : Nat) : Int))) :
    BiP .add (int i) (int j) fun a => CvP .u64 a fun b => BiP .shr b (.int .u64 1) fun c => CvP .i64 c fun d => R d := by
  refine add64 (by omega) ?_
  have e1 : IntKind.wrap .u64 ((i : Int) + j) = (i : Int) + j := wrapU rfl (by omega) (by simp only [IntKind.bits]; omega)
  have e2 : binVal .shr (.int .u64 ((i : Int) + j)) (.int .u64 1) = some (.int .u64 (((i + j) / 2 : Nat) : Int)) := by
    have : ((i : Int) + j).fdiv (2 ^ (min (Int.toNat 1) 64)) = (((i + j) / 2 : Nat) : Int) := by
      have h2 : (2 : Int) ^ (min (Int.toNat 1) 64) = 2 := by decide
      rw [h2, Int.fdiv_eq_ediv_of_nonneg _ (by decide)]
      omega
    simp only [binVal, IntKind.bits]
    rw [if_neg (by omega), this]
  simp only [CvP_int]
  rw [e1, BiP_some e2, CvP_int, wrap64 (by omega) (by omega)]
  exact r
section
variable {α : Type} {U : Nat → Prop} {h : Heap} {K : Kt} {x tv fv : Value} {l : List α} {c : α → Int}
def Parts (l : List α) (c : α → Int) (n : Nat) : Prop := n ≤ l.length ∧ (∀ i a, l[i]? = some a → i < n → c a < 0) ∧ ∀ i a, l[i]? = some a → n ≤ i → 0 ≤ c a
def hit (l : List α) (c : α → Int) (n : Nat) : Bool := match l[n]? with
  | some a => decide (c a = 0)
  | none => false
theorem bsearch_gen [El α] {E : Value → Value → Heap → (Value → Prop) → Prop} {ev : α → Value} {m : Nat}
    (he : ∀ h' (i : Int) a (R : Value → Prop), Sl U h' x l → 0 ≤ i → l[i.toNat]? = some a → R (ev a) → E x (int i) h' R)
    (hc : ∀ a h' (R : Kt), (∀ h'', Ext h' h'' → R (int (c a)) h'') → CvH Pg fv #[ev a, tv] h' R)
    (s : Sl U h x l) (hl : l.length ≤ 2 ^ 40) (hp : Parts l c m) (r : ∀ h', Ext h h' → K (.tuple #[int m, .bool (hit l c m)]) h') :
    LenP (some true) x fun x1 => LoP (fun vs h nx4 =>
      BiP .lss (gv vs 0) (gv vs 1) fun x5 => CdP x5
        (BiP .add (gv vs 0) (gv vs 1) fun x6 => CvP .u64 x6 fun x7 => BiP .shr x7 (.int .u64 1) fun x8 => CvP .i64 x8 fun x9 =>
          E x x9 h fun x11 => CvH Pg fv #[x11, tv] h fun x13 h12 => BiP .lss x13 (.int .i64 0) fun x14 => CdP x14
            (BiP .add x9 (.int .i64 1) fun x15 => nx4 [x15, (gv vs 1)] h12)
            (nx4 [(gv vs 0), x9] h12))
        (BiP .lss (gv vs 0) x1 fun x18 => CdP x18
          (E x (gv vs 0) h fun x20 => CvH Pg fv #[x20, tv] h fun x22 h21 => BiP .eql x22 (.int .i64 0) fun x23 => K (.tuple #[(gv vs 0), x23]) h21)
          (K (.tuple #[(gv vs 0), (.bool false)]) h))) [(.int .i64 0), x1] h := by
  refine s.len ?_
  refine lop (σ := Nat × Nat) (fun p => [int p.1, int p.2]) (fun p h' => Ext h h' ∧ p.1 ≤ m ∧ m ≤ p.2 ∧ p.2 ≤ l.length) (fun p => p.2 - p.1) (0, l.length) rfl ⟨Ex.refl _ _, Nat.zero_le _, hp.1, Nat.le_refl _⟩ ?_
  rintro ⟨i, j⟩ h1 N ⟨e1, h2, h3, h4⟩ hN
  simp only at h2 h3 h4
  simp only [gv_zero, gv_succ]
  rw [BiP_lss]
  refine cdp (fun hlt => ?_) (fun hge => ?_)
  · refine avg (by omega) ?_
    have hk : (i + j) / 2 < l.length := by omega
    refine he _ _ (l[(i + j) / 2]) _ (s.ext e1) (by omega) (by rw [Int.toNat_natCast]; exact List.getElem?_eq_getElem hk) ?_
    refine hc _ _ _ fun h5 e5 => ?_
    rw [BiP_lss]
    refine cdp (fun hneg => ?_) (fun hnn => ?_)
    · refine add64 (by omega) ?_
      have := hN ((i + j) / 2 + 1, j) h5 ⟨e1.trans e5, ?_, h3, h4⟩ (by simp only; omega)
      · simpa using this
      · refine Nat.lt_of_not_le fun hle => ?_
        have := hp.2.2 _ _ (List.getElem?_eq_getElem hk) hle
        omega
    · refine hN (i, (i + j) / 2) h5 ⟨e1.trans e5, h2, ?_, by simp only; omega⟩ (by simp only; omega)
      refine Nat.le_of_not_lt fun hle => ?_
      have := hp.2.1 _ _ (List.getElem?_eq_getElem hk) hle
      omega
  · have him : i = m := by omega
    subst him
    rw [BiP_lss]
    refine cdp (fun hlt => ?_) (fun hge2 => ?_)
    · have hk : i < l.length := by omega
      refine he _ _ (l[i]) _ (s.ext e1) (by omega) (by simp [hk]) ?_
      refine hc _ _ _ fun h5 e5 => ?_
      rw [BiP_eql]
      have := r h5 (e1.trans e5)
      simpa [hit, hk] using this
    · have := r h1 e1
      have hn : l[i]? = none := List.getElem?_eq_none (by omega)
      simpa [hit, hn] using this
end
section
variable {U : Nat → Prop} {h : Heap} {K : Kt} {x fv : Value} {k : Str}
def Cmp {α : Type} (fv : Value) (ev : α → Value) (key : α → Str) (k : Str) : Prop := ∀ a h' (R : Kt), (∀ h'', Ext h' h'' → R (int (cmp (key a) k)) h'') → CvH Pg fv #[ev a, str k] h' R
def Pair.v (p : Pair) : Value := .agg #[str p.key, str p.val]
def Msg.v (p : Msg) : Value := .agg #[str p.key, .bool p.del, str p.val]
theorem c_BinarySearchFunc_Pair {l : List Pair} {m : Nat} (hc : Cmp fv Pair.v Pair.key k) (s : Sl U h x l) (hl : l.length ≤ 2 ^ 40) (hp : Parts l (fun a => cmp a.key k) m)
    (r : ∀ h', Ext h h' → K (.tuple #[int m, .bool (hit l (fun a => cmp a.key k) m)]) h') : Ca f_slices_BinarySearchFunc_api_Pair #[x, str k, fv] h K :=
  m_slices_BinarySearchFunc_api_Pair_ok (bsearch_gen (E := Ea 2) (ev := Pair.v) (fun h' i a R s h0 ha r => Sl.ea s h0 ha r) hc s hl hp r)
end
end Go.Sg
namespace Go.Sg
open Go Vc
section
variable {α : Type} [El α] {t t' e ty : TypeId} {by' : Nat} {h : Heap} {K : Kt} {n0 : Nat}
def Own (g cap : Nat) (e : TypeId) (h : Heap) (l : List α) : Prop :=
  ∃ cur : List Value, h[g]? = some (.cells cur.toArray e (0, 0)) ∧ l.length ≤ cap ∧ cap ≤ maxLen ∧ cur.length = cap * El.z α ∧ cur.take (l.length * El.z α) = cells l
theorem Ow.cases' {e v} {l : List α} (o : Ow n0 e h v l) : (v = .slice none 0 0 ∧ l = []) ∨ ∃ g cap, v = .slice (some ⟨g, 0, none⟩) l.length cap ∧ n0 ≤ g ∧ Own g cap e h l := by
  rcases o with o | ⟨g, cap, cur, h1, h2, h3, h4, h5, h6, h7⟩
  · exact .inl o
  · exact .inr ⟨g, cap, h1, h2, cur.toList, by simpa using h3, h4, h5, by simpa using h6, h7⟩
theorem Own.ow {g cap} {l : List α} (o : Own g cap e h l) (hg : n0 ≤ g) : Ow n0 e h (.slice (some ⟨g, 0, none⟩) l.length cap) l := by
  obtain ⟨cur, h3, h4, h5, h6, h7⟩ := o
  exact .inr ⟨g, cap, cur.toArray, rfl, hg, h3, h4, h5, by simpa using h6, by simpa using h7⟩
theorem Own.ow' {g cap n} {l : List α} (o : Own g cap e h l) (hg : n0 ≤ g) (hn : l.length = n) : Ow n0 e h (.slice (some ⟨g, 0, none⟩) n cap) l := hn ▸ o.ow hg
theorem Own.le {g cap} {l : List α} (o : Own g cap e h l) : l.length ≤ cap := by obtain ⟨cur, h3, h4, h5, h6, h7⟩ := o; exact h4
theorem Own.lt {g cap} {l : List α} (o : Own g cap e h l) : g < h.size := by obtain ⟨cur, h3, _⟩ := o; exact (Array.getElem?_eq_some_iff.1 h3).1
theorem Own.pre {g cap} {l : List α} (o : Own g cap e h l) (n : Nat) : Own g cap e h (l.take n) := by
  obtain ⟨cur, h3, h4, h5, h6, h7⟩ := o
  refine ⟨cur, h3, by simp; omega, h5, h6, ?_⟩
  rw [← cells_take, ← h7, List.take_take, List.length_take]
  congr 1
  rcases Nat.le_total n l.length with h | h
  · rw [Nat.min_eq_left h, Nat.min_eq_left (Nat.mul_le_mul_right _ h)]
  · rw [Nat.min_eq_right h, Nat.min_eq_right (Nat.mul_le_mul_right _ h)]
theorem Own.at {g cap} {l : List α} (o : Own g cap e h l) {j v} (hj : (cells l)[j]? = some v) : hget h g j = some v := by
  obtain ⟨cur, h3, h4, h5, h6, h7⟩ := o
  rw [← h7, List.getElem?_take] at hj
  split at hj
  · simpa [hget, h3] using hj
  · cases hj
theorem Own.write {g cap} {l : List α} (o : Own g cap e h l) (k : Nat) (m : List α) (hk : k ≤ l.length) (hm : k + m.length ≤ cap) : Own g cap e (hsets h g (k * El.z α) (cells m)) (l.take k ++ m ++ l.drop (k + m.length)) := by
  obtain ⟨cur, h3, h4, h5, h6, h7⟩ := o
  have hb : Blk h g cur := ⟨e, h3⟩
  have hz := El.pos (α := α)
  have hle : k * El.z α + (cells m).length ≤ cur.length := by rw [cells_length, ← Nat.add_mul, h6]; exact Nat.mul_le_mul_right _ hm
  have hT : (hsets h g (k * El.z α) (cells m))[g]? = some (.cells (over cur (k * El.z α) (cells m)).toArray e (0, 0)) := by
    have hgen : ∀ (vs : List Value) (h : Heap) (cs : List Value) (o : Nat), h[g]? = some (.cells cs.toArray e (0, 0)) → (hsets h g o vs)[g]? = some (.cells (over cs o vs).toArray e (0, 0)) := by
      intro vs
      induction vs with
      | nil => intro h cs o hh; exact hh
      | cons v vs ih =>
        intro h cs o hh
        rw [hsets, over]
        refine ih _ _ _ ?_
        rw [hset, Array.getElem?_modify, if_pos rfl, hh]
        simp
    exact hgen _ _ _ _ h3
  have hll : (l.take k ++ m ++ l.drop (k + m.length)).length = max l.length (k + m.length) := by simp; omega
  refine ⟨_, hT, by omega, h5, by rw [over_length, h6], ?_⟩
  rw [over_eq _ _ _ hle, hll]
  obtain ⟨rest, hr⟩ : ∃ rest, cur = cells l ++ rest := ⟨_, by rw [← h7]; exact (List.take_append_drop _ cur).symm⟩
  have hlt : cur.take (k * El.z α) = cells (l.take k) := by
    rw [← cells_take, ← h7, List.take_take, Nat.min_eq_left (Nat.mul_le_mul_right _ hk)]
  have fin : ∀ (x : List α) (r : List Value) (N : Nat), N = x.length → (cells x ++ r).take (N * El.z α) = cells x := by
    intro x r N hN
    rw [hN, ← cells_length, List.take_left]
  rw [hlt]
  have hcm : k * El.z α + (cells m).length = (k + m.length) * El.z α := by rw [cells_length, Nat.add_mul]
  rw [hcm, hr]
  by_cases hlm : k + m.length ≤ l.length
  · have : (cells l ++ rest).drop ((k + m.length) * El.z α) = cells (l.drop (k + m.length)) ++ rest := by
      rw [List.drop_append, cells_drop, cells_length, ← Nat.sub_mul]
      congr 1
      rw [Nat.sub_eq_zero_of_le hlm, Nat.zero_mul, List.drop_zero]
    rw [this]
    have := fin (l.take k ++ m ++ l.drop (k + m.length)) rest (max l.length (k + m.length)) hll.symm
    simpa [List.append_assoc] using this
  · have h0 : l.drop (k + m.length) = [] := List.drop_eq_nil_of_le (by omega)
    rw [h0, List.append_nil]
    have := fin (l.take k ++ m) ((cells l ++ rest).drop ((k + m.length) * El.z α)) (max l.length (k + m.length)) (by simp; omega)
    simpa [List.append_assoc] using this
end
end Go.Sg
