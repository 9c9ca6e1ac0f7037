/-
  Part 14 of a proof: own texts, merged by program.
-/
import Derived.Test.YtfdephgpijheoaaGreatDoorP13
set_option linter.unusedVariables false
set_option linter.unusedSimpArgs false
set_option maxRecDepth 100000
namespace Go.Sg
open Go Vc Go.Proofs
def m_ref27_Do (x0_ x1_ x2_ : Value) (h : Heap) (K : Kt) : Prop :=
 BxP t_api_Config x0_ h fun x2 h1 =>
 BxP t_api_Op x2_ h1 fun x4 h3 =>
 AlP t_sluicegateref27_Answer zt_sluicegateref27_Answer h3 fun x6 h5 =>
 Fv 0 x4 h5 fun x9 =>
 BiP .eql x9 (.int .i64 1) fun x10 =>
 CdP x10
 (LdA 8 x2 h5 fun x11 =>
 LdA 4 x4 h5 fun x12 =>
 Ca f_ref27_May #[x11, x12] h5 fun x14 h13 =>
 UnP .not x14 fun x15 =>
 CdP x15
 (BlP bt_sluicegateref27_Answer [(0, (.int .i64 2))] fun x16 =>
 StA 3 x6 x16 h13 fun h17 =>
 LdA 3 x6 h17 fun x18 =>
 K (.tuple #[x1_, x18]) h17)
 (Fv 1 x4 h13 fun x20 =>
 Fv 2 x4 h13 fun x22 =>
 Ca f_ref11_Put #[x1_, x20, x22] h13 fun x24 h23 =>
 BlP bt_sluicegateref27_Answer [] fun x25 =>
 StA 3 x6 x25 h23 fun h26 =>
 LdA 3 x6 h26 fun x27 =>
 K (.tuple #[x24, x27]) h26))
 (BiP .eql x9 (.int .i64 2) fun x28 =>
 CdP x28
 (LdA 8 x2 h5 fun x29 =>
 LdA 4 x4 h5 fun x30 =>
 Ca f_ref27_May #[x29, x30] h5 fun x32 h31 =>
 UnP .not x32 fun x33 =>
 CdP x33
 (BlP bt_sluicegateref27_Answer [(0, (.int .i64 2))] fun x34 =>
 StA 3 x6 x34 h31 fun h35 =>
 LdA 3 x6 h35 fun x36 =>
 K (.tuple #[x1_, x36]) h35)
 (Fv 1 x4 h31 fun x38 =>
 Ca f_ref11_Cut #[x1_, x38] h31 fun x40 h39 =>
 BlP bt_sluicegateref27_Answer [] fun x41 =>
 StA 3 x6 x41 h39 fun h42 =>
 LdA 3 x6 h42 fun x43 =>
 K (.tuple #[x40, x43]) h42))
 (BiP .eql x9 (.int .i64 3) fun x44 =>
 CdP x44
 (LdA 8 x2 h5 fun x45 =>
 LdA 4 x4 h5 fun x46 =>
 Ca f_ref27_May #[x45, x46] h5 fun x48 h47 =>
 UnP .not x48 fun x49 =>
 CdP x49
 (BlP bt_sluicegateref27_Answer [(0, (.int .i64 2))] fun x50 =>
 StA 3 x6 x50 h47 fun h51 =>
 LdA 3 x6 h51 fun x52 =>
 K (.tuple #[x1_, x52]) h51)
 (Fv 1 x4 h47 fun x54 =>
 Ca f_ref11_Get #[x1_, x54] h47 fun x56 h55 =>
 ExP x56 0 fun x57 =>
 ExP x56 1 fun x58 =>
 UnP .not x58 fun x59 =>
 CdP x59
 (BlP bt_sluicegateref27_Answer [(0, (.int .i64 9))] fun x60 =>
 StA 3 x6 x60 h55 fun h61 =>
 LdA 3 x6 h61 fun x62 =>
 K (.tuple #[x1_, x62]) h61)
 (BlP bt_sluicegateref27_Answer [(1, x57)] fun x63 =>
 StA 3 x6 x63 h55 fun h64 =>
 LdA 3 x6 h64 fun x65 =>
 K (.tuple #[x1_, x65]) h64)))
 (BiP .eql x9 (.int .i64 4) fun x66 =>
 CdP x66
 (Fv 1 x4 h5 fun x68 =>
 Fv 2 x4 h5 fun x70 =>
 BlP bt_api_Span [(0, x68), (1, x70)] fun x71 =>
 Fv 3 x4 h5 fun x73 =>
 Ca f_ref11_Part #[x1_, x71, x73] h5 fun x75 h74 =>
 BlP bt_sluicegateref27_Answer [(2, x75)] fun x76 =>
 StA 3 x6 x76 h74 fun h77 =>
 LdA 3 x6 h77 fun x78 =>
 K (.tuple #[x1_, x78]) h77)
 (BlP bt_sluicegateref27_Answer [] fun x79 =>
 StA 3 x6 x79 h5 fun h80 =>
 LdA 3 x6 h80 fun x81 =>
 K (.tuple #[x1_, x81]) h80))))
theorem m_ref27_Do_ok {x0_ x1_ x2_ : Value} {h : Heap} {K : Kt} (hh : m_ref27_Do x0_ x1_ x2_ h K) : Ca f_ref27_Do #[x0_, x1_, x2_] h K := cv Tryz.func36 (by kernel_rfl) hh
def m_ref09_Right_j52 (x2_ : Value) (h : Heap) (K : Kt) : Prop :=
 K x2_ h
def m_ref09_Right (x0_ : Value) (h : Heap) (K : Kt) : Prop :=
 BxP t_api_Config x0_ h fun x2 h1 =>
 ∃ X4 : XS,
 LaX X4 8 x2 h1 fun x5 =>
 Ca f_ref09_Sized #[x5] h1 fun x7 h6 =>
 Agr X4 h1 h6 ∧ (CdP x7
 (FaP (some 0) x2 fun x8 =>
 LdX X4 x8 h1 fun x9 =>
 Ca f_ref09_in #[x9, (.int .i64 5), (.int .i64 65536)] h6 fun x11 h10 =>
 Agr X4 h1 h10 ∧ (CdP x11
 (FaP (some 2) x2 fun x13 =>
 LdX X4 x13 h1 fun x14 =>
 Ca f_ref09_in #[x14, (.int .i64 8), (.int .i64 64)] h10 fun x16 h15 =>
 Agr X4 h1 h15 ∧ (CdP x16
 (FaP (some 1) x2 fun x18 =>
 LdX X4 x18 h1 fun x19 =>
 Ca f_ref09_in #[x19, (.int .i64 64), (.int .i64 65536)] h15 fun x21 h20 =>
 Agr X4 h1 h20 ∧ (CdP x21
 (FaP (some 1) x2 fun x23 =>
 LdX X4 x23 h1 fun x24 =>
 LaX X4 8 x2 h1 fun x25 =>
 Ca f_ref09_Inner #[x25] h20 fun x27 h26 =>
 Agr X4 h1 h26 ∧ (BiP .geq x24 x27 fun x28 =>
 CdP x28
 (FaP (some 1) x2 fun x30 =>
 LdX X4 x30 h1 fun x31 =>
 LaX X4 8 x2 h1 fun x32 =>
 Ca f_ref09_Outer #[x32] h26 fun x34 h33 =>
 Agr X4 h1 h33 ∧ (BiP .geq x31 x34 fun x35 =>
 m_ref09_Right_j52 x35 h33 K))
 (m_ref09_Right_j52 (.bool false) h26 K)))
 (m_ref09_Right_j52 (.bool false) h20 K)))
 (m_ref09_Right_j52 (.bool false) h15 K)))
 (m_ref09_Right_j52 (.bool false) h10 K)))
 (m_ref09_Right_j52 (.bool false) h6 K))
theorem m_ref09_Right_ok {x0_ : Value} {h : Heap} {K : Kt} (hh : m_ref09_Right x0_ h K) : Ca f_ref09_Right #[x0_] h K := cv Tryz.func63 (by kernel_rfl) hh
def m_ref27_May_j25 (x4_ : Value) (h : Heap) (K : Kt) : Prop :=
 K x4_ h
def m_ref27_May (x0_ x1_ : Value) (h : Heap) (K : Kt) : Prop :=
 BxP t_api_Config x0_ h fun x2 h1 =>
 BxP t_api_Op x1_ h1 fun x4 h3 =>
 LdA 8 x2 h3 fun x6 =>
 Fv 1 x4 h3 fun x8 =>
 Ca f_ref13_Key #[x6, x8] h3 fun x10 h9 =>
 CdP x10
 (Fv 0 x4 h9 fun x12 =>
 BiP .neq x12 (.int .i64 1) fun x13 =>
 CdP x13
 (m_ref27_May_j25 (.bool true) h9 K)
 (Fv 2 x4 h9 fun x17 =>
 LenP (some false) x17 fun x18 =>
 Fv 7 x2 h9 fun x20 =>
 BiP .leq x18 x20 fun x21 =>
 m_ref27_May_j25 x21 h9 K))
 (undef = undef ∧ (undef = undef ∧ (undef = undef ∧ (undef = undef ∧ (undef = undef ∧ (undef = undef ∧ (m_ref27_May_j25 (.bool false) h9 K)))))))
theorem m_ref27_May_ok {x0_ x1_ : Value} {h : Heap} {K : Kt} (hh : m_ref27_May x0_ x1_ h K) : Ca f_ref27_May #[x0_, x1_] h K := cv Tryz.func71 (by kernel_rfl) hh
def m_ref11_Put_j19 (x0_ x1_ x2_ x7_ : Value) (h : Heap) (nx5 : Nt) (K : Kt) : Prop :=
 BiP .add x7_ (.int .i64 1) fun x20 =>
 nx5 [x20] h
def m_ref11_Put_j21 (x0_ x1_ x2_ x7_ : Value) (h : Heap) (K : Kt) : Prop :=
 BsP st_S_api_Pair 0 [] h fun x23 h22 =>
 SlP 2 x0_ none (some x7_) fun x24 =>
 VH Pg (Builtin.append_ #[t_S_api_Pair, t_S_api_Pair] t_S_api_Pair #[x23, x24]) h22 fun x26 h25 =>
 BlP bt_api_Pair [(0, x1_), (1, x2_)] fun x27 =>
 BsP st_S_api_Pair 1 [(0, x27)] h25 fun x29 h28 =>
 VH Pg (Builtin.append_ #[t_S_api_Pair, t_S_api_Pair] t_S_api_Pair #[x26, x29]) h28 fun x31 h30 =>
 SlP 2 x0_ (some x7_) none fun x32 =>
 VH Pg (Builtin.append_ #[t_S_api_Pair, t_S_api_Pair] t_S_api_Pair #[x31, x32]) h30 fun x34 h33 =>
 K x34 h33
def m_ref11_Put_j18 (x0_ x1_ x2_ x7_ x25_ : Value) (h : Heap) (nx5 : Nt) (K : Kt) : Prop :=
 CdP x25_
 (m_ref11_Put_j19 x0_ x1_ x2_ x7_ h nx5 K)
 (m_ref11_Put_j21 x0_ x1_ x2_ x7_ h K)
def m_ref11_Put_l4 (vs : List Value) (x0_ x1_ x2_ : Value) (h : Heap) (nx5 : Nt) (K : Kt) : Prop :=
 LenP (some true) x0_ fun x8 =>
 BiP .lss (gv vs 0) x8 fun x9 =>
 CdP x9
 (Ef 2 0 x0_ (gv vs 0) h fun x12 =>
 Ca f_ref01_Compare #[x12, x1_] h fun x14 h13 =>
 BiP .lss x14 (.int .i64 0) fun x15 =>
 m_ref11_Put_j18 x0_ x1_ x2_ (gv vs 0) x15 h13 nx5 K)
 (m_ref11_Put_j18 x0_ x1_ x2_ (gv vs 0) (.bool false) h nx5 K)
def m_ref11_Put (x0_ x1_ x2_ : Value) (h : Heap) (K : Kt) : Prop :=
 Ca f_ref11_Cut #[x0_, x1_] h fun x2 h1 =>
 LoP (fun vt h nx5 => m_ref11_Put_l4 vt x2 x1_ x2_ h nx5 K) [(.int .i64 0)] h1
theorem m_ref11_Put_ok {x0_ x1_ x2_ : Value} {h : Heap} {K : Kt} (hh : m_ref11_Put x0_ x1_ x2_ h K) : Ca f_ref11_Put #[x0_, x1_, x2_] h K := cv Tryz.func72 (by kernel_rfl) hh
def m_ref11_Cut_j19 (x0_ x1_ x5_ x6_ : Value) (h : Heap) (nx5 : Nt) (K : Kt) : Prop :=
 BiP .add x6_ (.int .i64 1) fun x20 =>
 nx5 [x5_, x20] h
def m_ref11_Cut_j21 (x5_ : Value) (h : Heap) (K : Kt) : Prop :=
 K x5_ h
def m_ref11_Cut_l4 (vs : List Value) (x0_ x1_ : Value) (h : Heap) (nx5 : Nt) (K : Kt) : Prop :=
 LenP (some true) x0_ fun x6 =>
 BiP .lss (gv vs 1) x6 fun x7 =>
 CdP x7
 (Ef 2 0 x0_ (gv vs 1) h fun x11 =>
 BiP .neq x11 x1_ fun x12 =>
 CdP x12
 (Ea 2 x0_ (gv vs 1) h fun x14 =>
 BsP st_S_api_Pair 1 [(0, x14)] h fun x16 h15 =>
 VH Pg (Builtin.append_ #[t_S_api_Pair, t_S_api_Pair] t_S_api_Pair #[(gv vs 0), x16]) h15 fun x18 h17 =>
 m_ref11_Cut_j19 x0_ x1_ x18 (gv vs 1) h17 nx5 K)
 (m_ref11_Cut_j19 x0_ x1_ (gv vs 0) (gv vs 1) h nx5 K))
 (m_ref11_Cut_j21 (gv vs 0) h K)
def m_ref11_Cut (x0_ x1_ : Value) (h : Heap) (K : Kt) : Prop :=
 BsP st_S_api_Pair 0 [] h fun x2 h1 =>
 LoP (fun vt h nx5 => m_ref11_Cut_l4 vt x0_ x1_ h nx5 K) [x2, (.int .i64 0)] h1
theorem m_ref11_Cut_ok {x0_ x1_ : Value} {h : Heap} {K : Kt} (hh : m_ref11_Cut x0_ x1_ h K) : Ca f_ref11_Cut #[x0_, x1_] h K := cv Tryz.func73 (by kernel_rfl) hh
def m_ref09_Sized_j43 (x2_ : Value) (h : Heap) (K : Kt) : Prop :=
 K x2_ h
def m_ref09_Sized_j26 (x1_ : Value) (h : Heap) (K : Kt) : Prop :=
 Fv 4 x1_ h fun x29 =>
 Fv 3 x1_ h fun x31 =>
 BiP .mul (.int .i64 2) x31 fun x32 =>
 Ca f_ref09_in #[x29, x32, (.int .i64 512)] h fun x34 h33 =>
 CdP x34
 (Fv 5 x1_ h33 fun x36 =>
 Fv 4 x1_ h33 fun x38 =>
 Ca f_ref09_in #[x36, x38, (.int .i64 1024)] h33 fun x40 h39 =>
 m_ref09_Sized_j43 x40 h39 K)
 (m_ref09_Sized_j43 (.bool false) h33 K)
def m_ref09_Sized_j25 (x1_ x18_ : Value) (h : Heap) (K : Kt) : Prop :=
 CdP x18_
 (K (.bool false) h)
 (m_ref09_Sized_j26 x1_ h K)
def m_ref09_Sized (x0_ : Value) (h : Heap) (K : Kt) : Prop :=
 BxP t_api_Config x0_ h fun x2 h1 =>
 Fv 3 x2 h1 fun x6 =>
 Ca f_ref09_in #[x6, (.int .i64 8), (.int .i64 64)] h1 fun x8 h7 =>
 UnP .not x8 fun x9 =>
 CdP x9
 (m_ref09_Sized_j25 x2 (.bool true) h7 K)
 (Fv 6 x2 h7 fun x13 =>
 Ca f_ref09_in #[x13, (.int .i64 1), (.int .i64 64)] h7 fun x15 h14 =>
 UnP .not x15 fun x16 =>
 CdP x16
 (m_ref09_Sized_j25 x2 (.bool true) h14 K)
 (Fv 7 x2 h14 fun x20 =>
 Ca f_ref09_in #[x20, (.int .i64 0), (.int .i64 256)] h14 fun x22 h21 =>
 UnP .not x22 fun x23 =>
 m_ref09_Sized_j25 x2 x23 h21 K))
theorem m_ref09_Sized_ok {x0_ : Value} {h : Heap} {K : Kt} (hh : m_ref09_Sized x0_ h K) : Ca f_ref09_Sized #[x0_] h K := cv Tryz.func107 (by kernel_rfl) hh
def m_ref09_in_j6 (x6_ : Value) (h : Heap) (K : Kt) : Prop :=
 K x6_ h
def m_ref09_in (x0_ x1_ x2_ : Value) (h : Heap) (K : Kt) : Prop :=
 BiP .geq x0_ x1_ fun x2 =>
 CdP x2
 (BiP .leq x0_ x2_ fun x3 =>
 m_ref09_in_j6 x3 h K)
 (m_ref09_in_j6 (.bool false) h K)
theorem m_ref09_in_ok {x0_ x1_ x2_ : Value} {h : Heap} {K : Kt} (hh : m_ref09_in x0_ x1_ x2_ h K) : Ca f_ref09_in #[x0_, x1_, x2_] h K := cv Tryz.func108 (by kernel_rfl) hh
def m_ref09_Inner_j20 (x1_ x3_ x4_ : Value) (h : Heap) (nx9 : Nt) (K : Kt) : Prop :=
 BiP .add x4_ (.int .i64 1) fun x21 =>
 nx9 [x3_, x21] h
def m_ref09_Inner_j38 (x3_ : Value) (h : Heap) (K : Kt) : Prop :=
 K x3_ h
def m_ref09_Inner_l24 (vs : List Value) (x1_ : Value) (h : Heap) (nx25 : Nt) (K : Kt) : Prop :=
 Fv 4 x1_ h fun x27 =>
 BiP .lss (gv vs 1) x27 fun x28 =>
 CdP x28
 (BiP .add (gv vs 0) (.int .i64 4) fun x30 =>
 Fv 6 x1_ h fun x32 =>
 BiP .add x30 x32 fun x33 =>
 Fv 7 x1_ h fun x35 =>
 BiP .add x33 x35 fun x36 =>
 BiP .add (gv vs 1) (.int .i64 1) fun x37 =>
 nx25 [x36, x37] h)
 (m_ref09_Inner_j38 (gv vs 0) h K)
def m_ref09_Inner_j22 (x1_ x3_ : Value) (h : Heap) (K : Kt) : Prop :=
 LoP (fun vt h nx25 => m_ref09_Inner_l24 vt x1_ h nx25 K) [x3_, (.int .i64 0)] h
def m_ref09_Inner_l8 (vs : List Value) (x1_ : Value) (h : Heap) (nx9 : Nt) (K : Kt) : Prop :=
 Fv 3 x1_ h fun x11 =>
 BiP .lss (gv vs 1) x11 fun x12 =>
 CdP x12
 (BiP .add (gv vs 0) (.int .i64 4) fun x14 =>
 BiP .gtr (gv vs 1) (.int .i64 0) fun x15 =>
 CdP x15
 (BiP .add x14 (.int .i64 1) fun x16 =>
 Fv 6 x1_ h fun x18 =>
 BiP .add x16 x18 fun x19 =>
 m_ref09_Inner_j20 x1_ x19 (gv vs 1) h nx9 K)
 (m_ref09_Inner_j20 x1_ x14 (gv vs 1) h nx9 K))
 (m_ref09_Inner_j22 x1_ (gv vs 0) h K)
def m_ref09_Inner (x0_ : Value) (h : Heap) (K : Kt) : Prop :=
 BxP t_api_Config x0_ h fun x2 h1 =>
 LdA 8 x2 h1 fun x3 =>
 Ca f_ref09_Sized #[x3] h1 fun x5 h4 =>
 UnP .not x5 fun x6 =>
 CdP x6
 (K (.int .i64 0) h4)
 (LoP (fun vt h nx9 => m_ref09_Inner_l8 vt x2 h nx9 K) [(.int .i64 8), (.int .i64 0)] h4)
theorem m_ref09_Inner_ok {x0_ : Value} {h : Heap} {K : Kt} (hh : m_ref09_Inner x0_ h K) : Ca f_ref09_Inner #[x0_] h K := cv Tryz.func109 (by kernel_rfl) hh
def m_ref09_Outer_j22 (x3_ : Value) (h : Heap) (K : Kt) : Prop :=
 K x3_ h
def m_ref09_Outer_l8 (vs : List Value) (x1_ : Value) (h : Heap) (nx9 : Nt) (K : Kt) : Prop :=
 Fv 5 x1_ h fun x11 =>
 BiP .lss (gv vs 1) x11 fun x12 =>
 CdP x12
 (BiP .add (gv vs 0) (.int .i64 3) fun x14 =>
 Fv 6 x1_ h fun x16 =>
 BiP .add x14 x16 fun x17 =>
 Fv 7 x1_ h fun x19 =>
 BiP .add x17 x19 fun x20 =>
 BiP .add (gv vs 1) (.int .i64 1) fun x21 =>
 nx9 [x20, x21] h)
 (m_ref09_Outer_j22 (gv vs 0) h K)
def m_ref09_Outer (x0_ : Value) (h : Heap) (K : Kt) : Prop :=
 BxP t_api_Config x0_ h fun x2 h1 =>
 LdA 8 x2 h1 fun x3 =>
 Ca f_ref09_Sized #[x3] h1 fun x5 h4 =>
 UnP .not x5 fun x6 =>
 CdP x6
 (K (.int .i64 0) h4)
 (LoP (fun vt h nx9 => m_ref09_Outer_l8 vt x2 h nx9 K) [(.int .i64 8), (.int .i64 0)] h4)
theorem m_ref09_Outer_ok {x0_ : Value} {h : Heap} {K : Kt} (hh : m_ref09_Outer x0_ h K) : Ca f_ref09_Outer #[x0_] h K := cv Tryz.func110 (by kernel_rfl) hh
def m_ref13_Key_j12 (x4_ : Value) (h : Heap) (K : Kt) : Prop :=
 K x4_ h
def m_ref13_Key (x0_ x1_ : Value) (h : Heap) (K : Kt) : Prop :=
 BxP t_api_Config x0_ h fun x2 h1 =>
 LenP (some false) x1_ fun x4 =>
 BiP .geq x4 (.int .i64 1) fun x5 =>
 CdP x5
 (LenP (some false) x1_ fun x6 =>
 Fv 6 x2 h1 fun x8 =>
 BiP .leq x6 x8 fun x9 =>
 m_ref13_Key_j12 x9 h1 K)
 (m_ref13_Key_j12 (.bool false) h1 K)
theorem m_ref13_Key_ok {x0_ x1_ : Value} {h : Heap} {K : Kt} (hh : m_ref13_Key x0_ x1_ h K) : Ca f_ref13_Key #[x0_, x1_] h K := cv Tryz.func120 (by kernel_rfl) hh
def m_ref01_Compare_j13 (x0_ x1_ x4_ x5_ : Value) (h : Heap) (nx3 : Nt) (K : Kt) : Prop :=
 IsP x0_ x5_ fun x15 =>
 IsP x1_ x5_ fun x16 =>
 BiP .lss x15 x16 fun x17 =>
 CdP x17
 (K (.int .i64 (-1)) h)
 (IsP x0_ x5_ fun x18 =>
 IsP x1_ x5_ fun x19 =>
 BiP .gtr x18 x19 fun x20 =>
 CdP x20
 (K (.int .i64 1) h)
 (BiP .add x5_ (.int .i64 1) fun x21 =>
 nx3 [x4_, x21] h))
def m_ref01_Compare_j22 (x0_ x1_ : Value) (h : Heap) (K : Kt) : Prop :=
 LenP (some false) x0_ fun x23 =>
 LenP (some false) x1_ fun x24 =>
 BiP .lss x23 x24 fun x25 =>
 CdP x25
 (K (.int .i64 (-1)) h)
 (LenP (some false) x0_ fun x26 =>
 LenP (some false) x1_ fun x27 =>
 BiP .gtr x26 x27 fun x28 =>
 CdP x28
 (K (.int .i64 1) h)
 (K (.int .i64 0) h))
def m_ref01_Compare_j12 (x0_ x1_ x4_ x5_ x15_ : Value) (h : Heap) (nx3 : Nt) (K : Kt) : Prop :=
 CdP x15_
 (m_ref01_Compare_j13 x0_ x1_ x4_ x5_ h nx3 K)
 (m_ref01_Compare_j22 x0_ x1_ h K)
def m_ref01_Compare_l2 (vs : List Value) (x0_ x1_ : Value) (h : Heap) (nx3 : Nt) (K : Kt) : Prop :=
 LenP (some false) x0_ fun x6 =>
 BiP .lss (gv vs 1) x6 fun x7 =>
 CdP x7
 (LenP (some false) x1_ fun x8 =>
 BiP .lss (gv vs 1) x8 fun x9 =>
 m_ref01_Compare_j12 x0_ x1_ (gv vs 0) (gv vs 1) x9 h nx3 K)
 (m_ref01_Compare_j12 x0_ x1_ (gv vs 0) (gv vs 1) (.bool false) h nx3 K)
def m_ref01_Compare (x0_ x1_ : Value) (h : Heap) (K : Kt) : Prop :=
 LoP (fun vt h nx3 => m_ref01_Compare_l2 vt x0_ x1_ h nx3 K) [(.int .i64 0), (.int .i64 0)] h
theorem m_ref01_Compare_ok {x0_ x1_ : Value} {h : Heap} {K : Kt} (hh : m_ref01_Compare x0_ x1_ h K) : Ca f_ref01_Compare #[x0_, x1_] h K := cv Tryz.func121 (by kernel_rfl) hh
end Go.Sg
namespace Go.Sg
open Go Vc
section
variable {h : Heap} {K : Kt} {c : Config} {n lo hi : Int} {U : Nat → Prop} {x : Value} {l : List Pair} {k v : Str} {a b : Str}
theorem c_ref09_in (r : K (.bool (decide (lo ≤ n ∧ n ≤ hi))) h) : Ca f_ref09_in #[int n, int lo, int hi] h K := by
  refine m_ref09_in_ok ?_
  unfold m_ref09_in
  rw [BiP_geq]
  refine cdp (fun h1 => ?_) (fun h1 => ?_)
  · rw [BiP_leq]
    have : decide (lo ≤ n ∧ n ≤ hi) = decide (n ≤ hi) := by simp [h1]
    rw [this] at r; exact r
  · have : decide (lo ≤ n ∧ n ≤ hi) = false := decide_eq_false fun h => h1 h.1
    rw [this] at r; exact r
theorem c_ref09_Sized (r : ∀ h', Ext h h' → K (.bool (decide c.Sized)) h') : Ca f_ref09_Sized #[c.v] h K := by
  refine m_ref09_Sized_ok (bxa (cs := c.cs) fun b h1 e1 hb k1 _ => ?_)
  have r := r h1 e1
  have no : ¬ c.Sized → m_ref09_Sized_j25 (ptr b 0) (.bool true) h1 K := fun hn => by
    unfold m_ref09_Sized_j25
    rw [decide_eq_false hn] at r
    rw [CdP_true]; exact r
  refine fv (v := int c.fan) (by rw [k1.get]; rfl) (c_ref09_in ?_)
  rw [UnP_not]
  refine cd (fun hx => no fun hs => ?_) fun h1' => ?_
  · have : ¬ (8 ≤ c.fan ∧ c.fan ≤ 64) := fun q => by rw [decide_eq_true q] at hx; cases hx
    unfold Config.Sized at hs; omega
  have g1 := of_decide_eq_true (by simpa using h1' : decide (8 ≤ c.fan ∧ c.fan ≤ 64) = true)
  refine fv (v := int c.key) (by rw [k1.get]; rfl) (c_ref09_in ?_)
  rw [UnP_not]
  refine cd (fun hx => no fun hs => ?_) fun h2' => ?_
  · have : ¬ (1 ≤ c.key ∧ c.key ≤ 64) := fun q => by rw [decide_eq_true q] at hx; cases hx
    unfold Config.Sized at hs; omega
  have g2 := of_decide_eq_true (by simpa using h2' : decide (1 ≤ c.key ∧ c.key ≤ 64) = true)
  refine fv (v := int c.val) (by rw [k1.get]; rfl) (c_ref09_in ?_)
  rw [UnP_not]
  unfold m_ref09_Sized_j25
  refine cd (fun hx => ?_) fun h3' => ?_
  · have : ¬ (0 ≤ c.val ∧ c.val ≤ 256) := fun q => by rw [decide_eq_true q] at hx; cases hx
    have hn : ¬ c.Sized := fun hs => by unfold Config.Sized at hs; omega
    rw [decide_eq_false hn] at r; exact r
  have g3 := of_decide_eq_true (by simpa using h3' : decide (0 ≤ c.val ∧ c.val ≤ 256) = true)
  unfold m_ref09_Sized_j26
  refine fv (v := int c.buffer) (by rw [k1.get]; rfl) (fv (v := int c.fan) (by rw [k1.get]; rfl) ?_)
  refine mul64 (by omega) (c_ref09_in ?_)
  refine cdp (fun h4' => ?_) fun h4' => ?_
  · refine fv (v := int c.leaf) (by rw [k1.get]; rfl) (fv (v := int c.buffer) (by rw [k1.get]; rfl) (c_ref09_in ?_))
    have : decide (c.buffer ≤ c.leaf ∧ c.leaf ≤ 1024) = decide c.Sized := by
      unfold Config.Sized
      refine decide_eq_decide.2 ⟨fun q => ?_, fun q => ?_⟩ <;> omega
    rw [this]; exact r
  · have hn : ¬ c.Sized := fun hs => by unfold Config.Sized at hs; omega
    rw [decide_eq_false hn] at r; exact r
theorem c_ref09_Inner (r : ∀ h', Ext h h' → K (int c.inner) h') : Ca f_ref09_Inner #[c.v] h K := by
  refine m_ref09_Inner_ok (bxa (cs := c.cs) fun b h1 e1 hb k1 _ => (LdA_b k1 rfl).2 (c_ref09_Sized (c := c) fun h2 e2 => ?_))
  have r := r h2 (e1.trans e2)
  have k2 := k1.ext e2
  unfold Config.inner at r
  rw [UnP_not]
  by_cases hs : c.Sized
  · rw [if_pos hs] at r
    rw [decide_eq_true hs]
    refine cd (fun h => absurd h (by decide)) fun _ => ?_
    unfold Config.Sized at hs
    have q1 : ∀ i : Int, 0 ≤ i → i ≤ 64 → 0 ≤ i * (5 + c.key) ∧ i * (5 + c.key) ≤ 64 * 69 := fun i h0 h1 => ⟨Int.mul_nonneg h0 (by omega), Int.mul_le_mul h1 (by omega) (by omega) (by omega)⟩
    have q2 : ∀ i : Int, 0 ≤ i → i ≤ 512 → 0 ≤ i * (4 + c.key + c.val) ∧ i * (4 + c.key + c.val) ≤ 512 * 324 := fun i h0 h1 => ⟨Int.mul_nonneg h0 (by omega), Int.mul_le_mul h1 (by omega) (by omega) (by omega)⟩
    refine lop (σ := Nat) (fun i => [int (8 + i * (5 + c.key) - (if i = 0 then 0 else 1 + c.key)), int i]) (fun i h' => h' = h2 ∧ (i : Int) ≤ c.fan) (fun i => c.fan.toNat - i) 0 (by simp) ⟨rfl, by omega⟩ ?_
    rintro i h3 N ⟨rfl, hi⟩ hN
    simp only [m_ref09_Inner_l8, gv_zero, gv_succ]
    refine fv (v := int c.fan) (by rw [k2.get]; rfl) ?_
    have hq := q1 i (by omega) (by omega)
    have hm : ((i + 1 : Nat) : Int) * (5 + c.key) = (i : Int) * (5 + c.key) + (5 + c.key) := by rw [Int.natCast_add, Int.add_mul]; simp
    rw [BiP_lss]
    refine cdp (fun hlt => ?_) (fun hge => ?_)
    · refine add64 (by split <;> omega) ?_
      rw [BiP_gtr]
      refine cdp (fun h0 => ?_) (fun h0 => ?_)
      · refine add64 (by split <;> omega) (fv (v := int c.key) (by rw [k2.get]; rfl) (add64 (by split <;> omega) ?_))
        unfold m_ref09_Inner_j20
        refine add64 (by omega) ?_
        have := hN (i + 1) h3 ⟨rfl, by omega⟩ (by omega)
        rw [hm] at this
        rw [if_neg (by omega)] at this ⊢
        have e : 8 + (i : Int) * (5 + c.key) - (1 + c.key) + 4 + 1 + c.key = 8 + ((i : Int) * (5 + c.key) + (5 + c.key)) - (1 + c.key) := by omega
        rw [e]; simpa using this
      · have h00 : i = 0 := by omega
        subst h00
        unfold m_ref09_Inner_j20
        refine add64 (by omega) ?_
        have := hN 1 h3 ⟨rfl, by omega⟩ (by omega)
        rw [if_neg (by decide)] at this
        have e : 8 + ((1 : Nat) : Int) * (5 + c.key) - (1 + c.key) = 12 := by simp; omega
        rw [e] at this
        simpa using this
    · have hif : (i : Int) = c.fan := by omega
      unfold m_ref09_Inner_j22
      have hi0 : i ≠ 0 := by omega
      rw [if_neg hi0, hif]
      have hqf : 0 ≤ c.fan * (5 + c.key) ∧ c.fan * (5 + c.key) ≤ 64 * 69 := by rw [← hif]; exact hq
      refine lop (σ := Nat) (fun j => [int (8 + c.fan * (5 + c.key) - (1 + c.key) + j * (4 + c.key + c.val)), int j]) (fun j h' => h' = h3 ∧ (j : Int) ≤ c.buffer) (fun j => c.buffer.toNat - j) 0 (by simp) ⟨rfl, by omega⟩ ?_
      rintro j h4 N' ⟨rfl, hj⟩ hN'
      simp only [m_ref09_Inner_l24, gv_zero, gv_succ]
      have hq2 := q2 j (by omega) (by omega)
      have hm2 : ((j + 1 : Nat) : Int) * (4 + c.key + c.val) = (j : Int) * (4 + c.key + c.val) + (4 + c.key + c.val) := by rw [Int.natCast_add, Int.add_mul]; simp
      refine fv (v := int c.buffer) (by rw [k2.get]; rfl) ?_
      rw [BiP_lss]
      refine cdp (fun hlt => ?_) (fun hge => ?_)
      · refine add64 (by omega) (fv (v := int c.key) (by rw [k2.get]; rfl) (add64 (by omega) (fv (v := int c.val) (by rw [k2.get]; rfl) (add64 (by omega) (add64 (by omega) ?_)))))
        have := hN' (j + 1) h4 ⟨rfl, by omega⟩ (by omega)
        rw [hm2] at this
        have e : 8 + c.fan * (5 + c.key) - (1 + c.key) + (j : Int) * (4 + c.key + c.val) + 4 + c.key + c.val = 8 + c.fan * (5 + c.key) - (1 + c.key) + ((j : Int) * (4 + c.key + c.val) + (4 + c.key + c.val)) := by omega
        rw [e]; simpa using this
      · have hjb : (j : Int) = c.buffer := by omega
        unfold m_ref09_Inner_j38
        have e : 8 + c.fan * (5 + c.key) - (1 + c.key) + (j : Int) * (4 + c.key + c.val) = 8 + 4 * c.fan + (c.fan - 1) * (1 + c.key) + c.buffer * (4 + c.key + c.val) := by
          rw [hjb, Int.sub_mul, Int.one_mul]
          have : c.fan * (5 + c.key) = 4 * c.fan + c.fan * (1 + c.key) := by
            rw [show (5 + c.key : Int) = 4 + (1 + c.key) from by omega, Int.mul_add, Int.mul_comm c.fan 4]
          omega
        rw [e]; exact r
  · rw [if_neg hs] at r
    rw [decide_eq_false hs]
    exact cd (fun _ => r) fun h => absurd h (by decide)
theorem c_ref09_Outer (r : ∀ h', Ext h h' → K (int c.outer) h') : Ca f_ref09_Outer #[c.v] h K := by
  refine m_ref09_Outer_ok (bxa (cs := c.cs) fun b h1 e1 hb k1 _ => (LdA_b k1 rfl).2 (c_ref09_Sized (c := c) fun h2 e2 => ?_))
  have r := r h2 (e1.trans e2)
  have k2 := k1.ext e2
  unfold Config.outer at r
  rw [UnP_not]
  by_cases hs : c.Sized
  · rw [if_pos hs] at r
    rw [decide_eq_true hs]
    refine cd (fun h => absurd h (by decide)) fun _ => ?_
    unfold Config.Sized at hs
    have q2 : ∀ i : Int, 0 ≤ i → i ≤ 1024 → 0 ≤ i * (3 + c.key + c.val) ∧ i * (3 + c.key + c.val) ≤ 1024 * 323 := fun i h0 h1 => ⟨Int.mul_nonneg h0 (by omega), Int.mul_le_mul h1 (by omega) (by omega) (by omega)⟩
    refine lop (σ := Nat) (fun j => [int (8 + j * (3 + c.key + c.val)), int j]) (fun j h' => h' = h2 ∧ (j : Int) ≤ c.leaf) (fun j => c.leaf.toNat - j) 0 (by simp) ⟨rfl, by omega⟩ ?_
    rintro j h4 N' ⟨rfl, hj⟩ hN'
    simp only [m_ref09_Outer_l8, gv_zero, gv_succ]
    have hq2 := q2 j (by omega) (by omega)
    have hm2 : ((j + 1 : Nat) : Int) * (3 + c.key + c.val) = (j : Int) * (3 + c.key + c.val) + (3 + c.key + c.val) := by rw [Int.natCast_add, Int.add_mul]; simp
    refine fv (v := int c.leaf) (by rw [k2.get]; rfl) ?_
    rw [BiP_lss]
    refine cdp (fun hlt => ?_) (fun hge => ?_)
    · refine add64 (by omega) (fv (v := int c.key) (by rw [k2.get]; rfl) (add64 (by omega) (fv (v := int c.val) (by rw [k2.get]; rfl) (add64 (by omega) (add64 (by omega) ?_)))))
      have := hN' (j + 1) h4 ⟨rfl, by omega⟩ (by omega)
      rw [hm2] at this
      have e : 8 + (j : Int) * (3 + c.key + c.val) + 3 + c.key + c.val = 8 + ((j : Int) * (3 + c.key + c.val) + (3 + c.key + c.val)) := by omega
      rw [e]; simpa using this
    · have hjb : (j : Int) = c.leaf := by omega
      unfold m_ref09_Outer_j22
      rw [hjb]; exact r
  · rw [if_neg hs] at r
    rw [decide_eq_false hs]
    exact cd (fun _ => r) fun h => absurd h (by decide)
theorem c_ref09_Right (r : ∀ h', Ext h h' → K (.bool (decide c.Right)) h') : Ca f_ref09_Right #[c.v] h K := by
  refine m_ref09_Right_ok (bxa (cs := c.cs) fun b h1 e1 hb k1 _ => ?_)
  refine ⟨fun b' _ => b' = b, LaX_b k1 rfl (fun _ => rfl) ?_⟩
  have same : Agr (fun b' _ => b' = b) h1 h1 := fun _ _ _ => rfl
  have no : ∀ h', Ext h1 h' → ¬ c.Right → m_ref09_Right_j52 (.bool false) h' K := fun h' e hn => by
    have := r h' (e1.trans e)
    rw [decide_eq_false hn] at this; exact this
  refine c_ref09_Sized (c := c) fun h2 e2 => ⟨agr_b e2 k1.lt id, ?_⟩
  refine cdp (fun g1 => ?_) fun g1 => no h2 e2 fun hr => g1 hr.1
  rw [FaP_ptr]
  refine LdX_b k1 (v := int c.blocks) rfl (fun _ => rfl) (c_ref09_in ⟨agr_b e2 k1.lt id, ?_⟩)
  refine cdp (fun g2 => ?_) fun g2 => no h2 e2 fun hr => g2 ⟨hr.2.1, hr.2.2.1⟩
  rw [FaP_ptr]
  refine LdX_b k1 (v := int c.frames) rfl (fun _ => rfl) (c_ref09_in ⟨agr_b e2 k1.lt id, ?_⟩)
  refine cdp (fun g3 => ?_) fun g3 => no h2 e2 fun hr => g3 ⟨hr.2.2.2.1, hr.2.2.2.2.1⟩
  rw [FaP_ptr]
  refine LdX_b k1 (v := int c.bytes) rfl (fun _ => rfl) (c_ref09_in ⟨agr_b e2 k1.lt id, ?_⟩)
  refine cdp (fun g4 => ?_) fun g4 => no h2 e2 fun hr => g4 ⟨bytes64 hr, hr.2.2.2.2.2.1⟩
  rw [FaP_ptr]
  refine LdX_b k1 (v := int c.bytes) rfl (fun _ => rfl) (LaX_b k1 rfl (fun _ => rfl) ?_)
  refine c_ref09_Inner (c := c) fun h3 e3 => ⟨agr_b (e2.trans e3) k1.lt id, ?_⟩
  have e13 := e2.trans e3
  rw [BiP_geq]
  refine cdp (fun g5 => ?_) fun g5 => no h3 e13 fun hr => by have := hr.2.2.2.2.2.2; unfold Config.leastBytes at this; omega
  rw [FaP_ptr]
  refine LdX_b k1 (v := int c.bytes) rfl (fun _ => rfl) (LaX_b k1 rfl (fun _ => rfl) ?_)
  refine c_ref09_Outer (c := c) fun h4 e4 => ⟨agr_b (e13.trans e4) k1.lt id, ?_⟩
  have e14 := e13.trans e4
  rw [BiP_geq]
  have := r h4 (e1.trans e14)
  have he : decide (c.outer ≤ c.bytes) = decide c.Right := by
    refine decide_eq_decide.2 ⟨fun q => ⟨g1, g2.1, g2.2, g3.1, g3.2, g4.2, ?_⟩, fun hr => ?_⟩
    · unfold Config.leastBytes; omega
    · have := hr.2.2.2.2.2.2; unfold Config.leastBytes at this; omega
  rw [he]; exact this
end
end Go.Sg
namespace Go.Sg
open Go Vc
structure Opx where
  kind : Int
  key : Str
  val : Str
  n : Int
instance : El Opx := ⟨4, fun o => [int o.kind, str o.key, str o.val, int o.n], fun _ => rfl, by decide, fun _ v h => by simp at h; rcases h with rfl | rfl | rfl | rfl <;> rfl⟩
def Opx.v (o : Opx) : Value := .agg #[int o.kind, str o.key, str o.val, int o.n]
section
variable {h : Heap} {K : Kt} {c : Config} {U : Nat → Prop} {x : Value} {l : List Pair} {k v : Str} {a b : Str} {o : Opx}
theorem cmp_drop {i : Nat} {x y : UInt8} (ha : a[i]? = some x) (hb : b[i]? = some y) : cmp (a.drop i) (b.drop i) = if x < y then -1 else if y < x then 1 else cmp (a.drop (i + 1)) (b.drop (i + 1)) := by
  have e1 : a.drop i = x :: a.drop (i + 1) := by
    have hi := (List.getElem?_eq_some_iff.1 ha)
    obtain ⟨h1, h2⟩ := hi
    rw [List.drop_eq_getElem_cons h1, h2]
  have e2 : b.drop i = y :: b.drop (i + 1) := by
    obtain ⟨h1, h2⟩ := List.getElem?_eq_some_iff.1 hb
    rw [List.drop_eq_getElem_cons h1, h2]
  rw [e1, e2]; rfl
theorem c_ref01_Compare (hla : a.length < 2 ^ 62) (r : K (int (cmp a b)) h) : Ca f_ref01_Compare #[str a, str b] h K := by
  refine m_ref01_Compare_ok ?_
  unfold m_ref01_Compare
  refine lop (σ := Nat) (fun i => [int 0, int i]) (fun i h' => h' = h ∧ i ≤ a.length ∧ i ≤ b.length ∧ cmp a b = cmp (a.drop i) (b.drop i)) (fun i => a.length - i) 0 rfl ⟨rfl, Nat.zero_le _, Nat.zero_le _, rfl⟩ ?_
  rintro i h1 N ⟨rfl, hia, hib, hc⟩ hN
  simp only [m_ref01_Compare_l2, gv_zero, gv_succ]
  have fin : (i = a.length ∨ i = b.length) → m_ref01_Compare_j22 (str a) (str b) h1 K := fun hi => by
    unfold m_ref01_Compare_j22
    rw [LenP_str, LenP_str, BiP_lss]
    refine cdp (fun hlt => ?_) (fun hge => ?_)
    · have : cmp a b = -1 := by
        rw [hc]
        have e1 : a.drop i = [] := List.drop_eq_nil_of_le (by omega)
        have hbd : (b.drop i).length ≠ 0 := by rw [List.length_drop]; omega
        rw [e1]
        cases hq : b.drop i with
        | nil => rw [hq] at hbd; simp at hbd
        | cons y t => rfl
      rw [this] at r; exact r
    · rw [LenP_str, LenP_str, BiP_gtr]
      refine cdp (fun hlt => ?_) (fun hge2 => ?_)
      · have : cmp a b = 1 := by
          rw [hc]
          have e1 : b.drop i = [] := List.drop_eq_nil_of_le (by omega)
          have hbd : (a.drop i).length ≠ 0 := by rw [List.length_drop]; omega
          rw [e1]
          cases hq : a.drop i with
          | nil => rw [hq] at hbd; simp at hbd
          | cons y t => rfl
        rw [this] at r; exact r
      · have : cmp a b = 0 := by
          rw [hc]
          have e1 : b.drop i = [] := List.drop_eq_nil_of_le (by omega)
          have e2 : a.drop i = [] := List.drop_eq_nil_of_le (by omega)
          rw [e1, e2]; rfl
        rw [this] at r; exact r
  rw [LenP_str, BiP_lss]
  unfold m_ref01_Compare_j12
  refine cdp (fun hlt => ?_) (fun hge => ?_)
  · rw [LenP_str, BiP_lss]
    refine cdp (fun hlt2 => ?_) (fun hge => fin (.inr (by omega)))
    have g1 : a[i]? = some (a[i]'(by omega)) := List.getElem?_eq_getElem (by omega)
    have g2 : b[i]? = some (b[i]'(by omega)) := List.getElem?_eq_getElem (by omega)
    have hd := cmp_drop g1 g2
    unfold m_ref01_Compare_j13
    refine isp (by omega) (by rw [Int.toNat_natCast]; exact g1) (isp (by omega) (by rw [Int.toNat_natCast]; exact g2) ?_)
    rw [BiP_lss]
    refine cdp (fun h1' => ?_) (fun h1' => ?_)
    · have hq : a[i]'(by omega) < b[i]'(by omega) := UInt8.lt_iff_toNat_lt.2 (by omega)
      rw [hc, hd, if_pos hq] at r; exact r
    have hq : ¬ a[i]'(by omega) < b[i]'(by omega) := fun q => h1' (by have := UInt8.lt_iff_toNat_lt.1 q; omega)
    rw [if_neg hq] at hd
    refine isp (by omega) (by rw [Int.toNat_natCast]; exact g1) (isp (by omega) (by rw [Int.toNat_natCast]; exact g2) ?_)
    rw [BiP_gtr]
    refine cdp (fun h2' => ?_) (fun h2' => ?_)
    · have hq2 : b[i]'(by omega) < a[i]'(by omega) := UInt8.lt_iff_toNat_lt.2 (by omega)
      rw [hc, hd, if_pos hq2] at r; exact r
    have hq2 : ¬ b[i]'(by omega) < a[i]'(by omega) := fun q => h2' (by have := UInt8.lt_iff_toNat_lt.1 q; omega)
    rw [if_neg hq2] at hd
    refine add64 (by omega) ?_
    have := hN (i + 1) h1 ⟨rfl, by omega, by omega, hc.trans hd⟩ (by omega)
    simpa using this
  · rw [CdP_false]; exact fin (.inl (by omega))
theorem c_ref13_Key (r : ∀ h', Ext h h' → K (.bool (keyOk c k)) h') : Ca f_ref13_Key #[c.v, str k] h K := by
  refine m_ref13_Key_ok (bxa (cs := c.cs) fun b h1 e1 hb k1 _ => ?_)
  have r := r h1 e1
  unfold keyOk at r
  rw [LenP_str, BiP_geq]
  refine cdp (fun hx => ?_) (fun hx => ?_)
  · rw [LenP_str]
    refine fv (v := int c.key) (by rw [k1.get]; rfl) ?_
    rw [BiP_leq]
    rw [decide_eq_true (show 1 ≤ k.length by omega), Bool.true_and] at r
    exact r
  · rw [decide_eq_false (show ¬ 1 ≤ k.length by omega), Bool.false_and] at r
    exact r
def mayOp (c : Config) (o : Opx) : Bool := keyOk c o.key && (decide (o.kind ≠ 1) || decide ((o.val.length : Int) ≤ c.val))
theorem c_ref27_May (r : ∀ h', Ext h h' → K (.bool (mayOp c o)) h') : Ca f_ref27_May #[c.v, o.v] h K := by
  refine m_ref27_May_ok (bxa (cs := c.cs) fun b1 h1 e1 hb1 k1 _ => bxa (cs := [int o.kind, str o.key, str o.val, int o.n]) fun b2 h2 e2 hb2 k2 _ => ?_)
  have k1 := k1.ext e2
  refine (LdA_b k1 rfl).2 (fv (v := str o.key) (by rw [k2.get]; rfl) (c_ref13_Key (c := c) fun h3 e3 => ?_))
  have k1 := k1.ext e3
  have k2 := k2.ext e3
  have r := r h3 ((e1.trans e2).trans e3)
  unfold mayOp at r
  refine cd (fun hk => ?_) (fun hk => ?_)
  · rw [hk, Bool.true_and] at r
    refine fv (v := int o.kind) (by rw [k2.get]; rfl) ?_
    rw [BiP_neq]
    refine cdp (fun h1 => ?_) (fun h1 => ?_)
    · rw [decide_eq_true h1, Bool.true_or] at r; exact r
    · rw [decide_eq_false h1, Bool.false_or] at r
      refine fv (v := str o.val) (by rw [k2.get]; rfl) ?_
      rw [LenP_str]
      refine fv (v := int c.val) (by rw [k1.get]; rfl) ?_
      rw [BiP_leq]; exact r
  · rw [hk, Bool.false_and] at r
    exact ⟨rfl, rfl, rfl, rfl, rfl, rfl, r⟩
theorem c_ref11_Cut (s : Sl U h x l) (hl : l.length ≤ 2 ^ 30) (r : ∀ y h', Ow h.size t_api_Pair h' y (cutP l k) → Ext h h' → K y h') : Ca f_ref11_Cut #[x, str k] h K := by
  refine m_ref11_Cut_ok (bs (n0 := h.size) (e := t_api_Pair) (zs := #[str [], str []]) ([] : List Pair) rfl (Nat.le_refl _) rfl (by decide) (cs := #[]) (by kernel_rfl) rfl fun v1 h1 o1 e1 => ?_)
  refine lop (σ := Value × Nat) (fun p => [p.1, int p.2]) (fun p h' => Ext h h' ∧ p.2 ≤ l.length ∧ Ow h.size t_api_Pair h' p.1 (cutP (l.take p.2) k)) (fun p => l.length - p.2) (v1, 0) rfl ⟨e1, Nat.zero_le _, o1⟩ ?_
  rintro ⟨w, i⟩ h2 N ⟨e2, hi, o2⟩ hN
  simp only at hi o2
  simp only [m_ref11_Cut_l4, gv_zero, gv_succ]
  have s2 := s.ext e2
  refine s2.len ?_
  rw [BiP_lss]
  refine cdp (fun hlt => ?_) (fun hge => ?_)
  · have hlt : i < l.length := by omega
    have hx := List.getElem?_eq_getElem hlt
    have htk : l.take (i + 1) = l.take i ++ [l[i]] := by rw [List.take_add_one, hx]; rfl
    have hct : cutP (l.take (i + 1)) k = cutP (l.take i) k ++ (if l[i].key ≠ k then [l[i]] else []) := by
      rw [htk]; unfold cutP; rw [List.filter_append]
      congr 1
      by_cases hk : l[i].key = k <;> simp [hk]
    have hcl : (cutP (l.take i) k).length ≤ 2 ^ 30 := by
      unfold cutP
      exact Nat.le_trans (List.length_filter_le _ _) (by rw [List.length_take]; omega)
    refine s2.ef (f := 0) (w := str l[i].key) (by omega) (by rw [Int.toNat_natCast]; exact hx) rfl ?_
    rw [BiP_sneq]
    refine cdp (fun hk => ?_) (fun hk => ?_)
    · refine s2.ea (x := l[i]) (by omega) (by rw [Int.toNat_natCast]; exact hx) ?_
      refine bs (n0 := h2.size) (e := t_api_Pair) (zs := #[str [], str []]) [l[i]] rfl (Nat.le_refl _) rfl (by decide) (cs := #[str l[i].key, str l[i].val]) (by kernel_rfl) rfl fun v3 h3 o3 e3 => ?_
      have s3 : Sl No h3 v3 [l[i]] := o3.sl fun _ _ h => h
      have hs2 : h.size ≤ h2.size := e2.le
      have hs3 := e3.le
      refine app T_Pair (o2.ext e3) s3 (by omega) (by simp; omega) (by decide) fun v4 h4 o4 e4 _ => ?_
      unfold m_ref11_Cut_j19
      refine add64 (by omega) ?_
      have := hN (v4, i + 1) h4 ⟨(e2.trans e3).own e4 (Nat.le_refl _), by show i + 1 ≤ _; omega, by show Ow _ _ _ _ (cutP (l.take (i + 1)) k); rw [hct, if_pos hk]; exact o4⟩ (by simp only; omega)
      simpa using this
    · unfold m_ref11_Cut_j19
      refine add64 (by omega) ?_
      have := hN (w, i + 1) h2 ⟨e2, by show i + 1 ≤ _; omega, by show Ow _ _ _ _ (cutP (l.take (i + 1)) k); rw [hct, if_neg hk, List.append_nil]; exact o2⟩ (by simp only; omega)
      simpa using this
  · have hin : i = l.length := by omega
    subst hin
    rw [List.take_length] at o2
    unfold m_ref11_Cut_j21
    exact r w h2 o2 e2
end
end Go.Sg
namespace Go.Sg
open Go Vc
section
variable {lab lab' : Nat → Nat} {h h' : Heap} {K : Kt} {c : Config} {U : Nat → Prop} {x : Value} {l : List Pair} {k v : Str} {o : Opx} {s : Nat} {ps : List Pair}
theorem ahead_at {l : List Pair} {k : Str} (ha : Asc Pair.key l) {i : Nat} {a : Pair} (hi : (cutP l k)[i]? = some a) : (a.key < k ↔ i < pos Pair.key l k) := by
  rw [cut_parts ha] at hi
  constructor
  · intro hlt
    rcases Nat.lt_or_ge i (pos Pair.key l k) with h | h
    · exact h
    · rw [List.getElem?_append_right h] at hi
      have := (List.mem_filter.1 (List.mem_of_getElem? hi)).2
      exact absurd hlt (slt_asymm (of_decide_eq_true this))
  · intro hlt
    rw [List.getElem?_append_left hlt] at hi
    have := (List.mem_filter.1 (List.mem_of_getElem? hi)).2
    exact of_decide_eq_true this
theorem c_ref11_Put (s : Sl U h x l) (ha : Asc Pair.key l) (hl : l.length ≤ 2 ^ 30) (hk : ∀ p ∈ l, p.key.length < 2 ^ 62) (r : ∀ y h', Ow h.size t_api_Pair h' y (applyP l ⟨k, false, v⟩) → Ext h h' → K y h') : Ca f_ref11_Put #[x, str k, str v] h K := by
  refine m_ref11_Put_ok (c_ref11_Cut s hl fun y h1 o1 e1 => ?_)
  have hcl : (cutP l k).length ≤ 2 ^ 30 := Nat.le_trans (by unfold cutP; exact List.length_filter_le _ _) hl
  have hpl : pos Pair.key l k ≤ (cutP l k).length := by rw [cut_parts ha, List.length_append]; unfold pos; omega
  have s1 : Sl No h1 y (cutP l k) := o1.sl fun _ _ h => h
  refine lop (σ := Nat) (fun i => [int i]) (fun i h' => h' = h1 ∧ i ≤ pos Pair.key l k) (fun i => pos Pair.key l k - i) 0 rfl ⟨rfl, Nat.zero_le _⟩ ?_
  rintro i h2 N ⟨rfl, hi⟩ hN
  simp only [m_ref11_Put_l4, gv_zero]
  have fin : i = pos Pair.key l k → m_ref11_Put_j21 y (str k) (str v) (int i) h2 K := fun hip => by
    unfold m_ref11_Put_j21
    refine bs (n0 := h2.size) (e := t_api_Pair) (zs := #[str [], str []]) ([] : List Pair) rfl (Nat.le_refl _) rfl (by decide) (cs := #[]) (by kernel_rfl) rfl fun v3 h3 o3 e3 => ?_
    have s3 := s1.ext e3
    refine s3.part (a := 0) (b := i) rfl bnd_nat (Nat.zero_le _) (by omega) fun x4 s4 => ?_
    refine app T_Pair o3 s4 e3.le (by simp; omega) (by decide) fun v5 h5 o5 e5 _ => ?_
    have e25 : Ext h2 h5 := e3.own e5 (Nat.le_refl _)
    refine ⟨_, #[str k, str v], rfl, rfl, ?_⟩
    refine bs (n0 := h5.size) (e := t_api_Pair) (zs := #[str [], str []]) [(⟨k, v⟩ : Pair)] rfl (Nat.le_refl _) rfl (by decide) (cs := #[str k, str v]) (by kernel_rfl) rfl fun v6 h6 o6 e6 => ?_
    have s6 : Sl No h6 v6 [(⟨k, v⟩ : Pair)] := o6.sl fun _ _ h => h
    have hl25 := e25.le
    have hl56 := e6.le
    refine app T_Pair (o5.ext e6) s6 (by omega) (by simp; omega) (by decide) fun v7 h7 o7 e7 _ => ?_
    have e27 : Ext h2 h7 := (e25.trans e6).own e7 (Nat.le_refl _)
    have s7 := s1.ext e27
    have hl27 := e27.le
    refine s7.part (a := i) (b := (cutP l k).length) bnd_nat rfl (by omega) (Nat.le_refl _) fun x8 s8 => ?_
    refine app T_Pair o7 s8 hl27 (by simp; omega) (by decide) fun v9 h9 o9 e9 _ => ?_
    have e29 : Ext h2 h9 := e27.own e9 (Nat.le_refl _)
    refine r v9 h9 ?_ (e1.trans e29)
    have he : ([] : List Pair) ++ ((cutP l k).take i).drop 0 ++ [⟨k, v⟩] ++ ((cutP l k).take (cutP l k).length).drop i = applyP l ⟨k, false, v⟩ := by
      rw [List.nil_append, List.drop_zero, List.take_length, hip]; exact put_apply ha
    rw [he] at o9
    exact o9.low e1.le
  refine s1.len ?_
  rw [BiP_lss]
  unfold m_ref11_Put_j18
  refine cdp (fun hlt => ?_) (fun hge => ?_)
  · have hlt : i < (cutP l k).length := by omega
    have hx := List.getElem?_eq_getElem hlt
    have hm : (cutP l k)[i] ∈ l := (List.mem_filter.1 (List.getElem_mem hlt)).1
    refine s1.ef (f := 0) (w := str ((cutP l k)[i]).key) (by omega) (by rw [Int.toNat_natCast]; exact hx) rfl ?_
    refine c_ref01_Compare (hk _ hm) ?_
    rw [BiP_lss]
    have hpa := ahead_at ha hx
    refine cdp (fun hc => ?_) (fun hc => ?_)
    · have hip := hpa.1 (cmp_lt.1 hc)
      unfold m_ref11_Put_j19
      refine add64 (by omega) ?_
      have := hN (i + 1) h2 ⟨rfl, by omega⟩ (by omega)
      simpa using this
    · have hip : ¬ i < pos Pair.key l k := fun q => hc (cmp_lt.2 (hpa.2 q))
      exact fin (by omega)
  · rw [CdP_false]; exact fin (by omega)
def Opx.msg (o : Opx) : Msg := if o.kind = 1 then ⟨o.key, false, o.val⟩ else ⟨o.key, true, []⟩
def chg (c : Config) (o : Opx) : Prop := (o.kind = 1 ∨ o.kind = 2) ∧ mayOp c o = true
theorem c_ref27_Do (sl : Sl U h x l) (ha : Asc Pair.key l) (hl : l.length ≤ 2 ^ 30) (hk : ∀ p ∈ l, p.key.length < 2 ^ 62) (hc : chg c o)
    (r : ∀ y h', Ow h.size t_api_Pair h' y (applyP l o.msg) → Ext h h' → K (.tuple #[y, .agg #[int 0, str [], .slice none 0 0]]) h') : Ca f_ref27_Do #[c.v, x, o.v] h K := by
  refine m_ref27_Do_ok (bxa (cs := c.cs) fun b1 h1 e1 hb1 k1 _ => bxa (cs := [int o.kind, str o.key, str o.val, int o.n]) fun b2 h2 e2 hb2 k2 _ => ala (cs := [int 0, str [], .slice none 0 0]) fun b3 h3 e3 hb3 k3 _ => ?_)
  have k1 := (k1.ext e2).ext e3
  have k2 := k2.ext e3
  have e13 := (e1.trans e2).trans e3
  have hl1 := e1.le
  have hl2 := e2.le
  refine fv (v := int o.kind) (by rw [k2.get]; rfl) ?_
  rw [BiP_eql]
  obtain ⟨hkd, hmay⟩ := hc
  have fin : ∀ (h5 : Heap) (y : Value), Ext h3 h5 → Ow h3.size t_api_Pair h5 y (applyP l o.msg) → StA 3 (ptr b3 0) (.agg #[int 0, str [], .slice none 0 0]) h5 fun h26 => LdA 3 (ptr b3 0) h26 fun x27 => K (.tuple #[y, x27]) h26 := fun h5 y e5 o5 => by
    refine StA_b (vs := [int 0, str [], .slice none 0 0]) (k3.ext e5) rfl rfl rfl fun h6 _ e6 k6 => ?_
    have ob := o5.block
    refine (LdA_b k6 rfl).2 (r y h6 ((o5.exb e6 fun z hz he => by have := ob z hz; have := k3.lt; omega).low e13.le) ?_)
    exact (e13.trans e5).andThen e6 fun z hz he => by omega
  refine cdp (fun h1k => ?_) (fun h1k => ?_)
  · refine (LdA_b k1 rfl).2 ((LdA_b k2 rfl).2 (c_ref27_May (c := c) (o := o) fun h4 e4 => ?_))
    rw [hmay, UnP_not]
    refine cd (fun h => absurd h (by decide)) fun _ => ?_
    have k2 := k2.ext e4
    refine fv (v := str o.key) (by rw [k2.get]; rfl) (fv (v := str o.val) (by rw [k2.get]; rfl) ?_)
    refine c_ref11_Put ((sl.ext e13).ext e4) ha hl hk fun y h5 o5 e5 => ?_
    refine ⟨_, #[int 0, str [], .slice none 0 0], rfl, rfl, ?_⟩
    have hm : o.msg = ⟨o.key, false, o.val⟩ := if_pos h1k
    exact fin h5 y (e4.trans e5) (by rw [hm]; exact o5.low e4.le)
  · rw [BiP_eql]
    have h2k : o.kind = 2 := hkd.resolve_left h1k
    refine cdp (fun _ => ?_) (fun h => absurd h2k h)
    refine (LdA_b k1 rfl).2 ((LdA_b k2 rfl).2 (c_ref27_May (c := c) (o := o) fun h4 e4 => ?_))
    rw [hmay, UnP_not]
    refine cd (fun h => absurd h (by decide)) fun _ => ?_
    have k2 := k2.ext e4
    refine fv (v := str o.key) (by rw [k2.get]; rfl) ?_
    refine c_ref11_Cut ((sl.ext e13).ext e4) hl fun y h5 o5 e5 => ?_
    refine ⟨_, #[int 0, str [], .slice none 0 0], rfl, rfl, ?_⟩
    have hm : o.msg = ⟨o.key, true, []⟩ := if_neg h1k
    exact fin h5 y (e4.trans e5) (by rw [hm, ← cut_apply ha]; exact o5.low e4.le)
def Config.Light (c : Config) : Prop := c.Right ∧ c.bytes ≤ 3000 ∧ c.blocks ≤ 400
instance (c : Config) : Decidable c.Light := by unfold Config.Light; infer_instance
theorem c_law18_Light (r : ∀ h', Ext h h' → K (.bool (decide c.Light)) h') : Ca f_law18_Light #[c.v] h K := by
  refine m_law18_Light_ok (bxa (cs := c.cs) fun b h1 e1 hb k1 _ => (LdA_b k1 rfl).2 (c_ref09_Right (c := c) fun h2 e2 => ?_))
  have k2 := k1.ext e2
  have r := r h2 (e1.trans e2)
  refine cdp (fun g1 => ?_) (fun g1 => ?_)
  · refine fv (v := int c.bytes) (by rw [k2.get]; rfl) ?_
    rw [BiP_leq]
    refine cdp (fun g2 => ?_) (fun g2 => ?_)
    · refine fv (v := int c.blocks) (by rw [k2.get]; rfl) ?_
      rw [BiP_leq]
      have : decide (c.blocks ≤ 400) = decide c.Light := decide_eq_decide.2 ⟨fun q => ⟨g1, g2, q⟩, fun q => q.2.2⟩
      rw [this]; exact r
    · rw [decide_eq_false fun q : c.Light => g2 q.2.1] at r; exact r
  · rw [decide_eq_false fun q : c.Light => g1 q.1] at r; exact r
theorem c_law27_Long (r : ∀ h', Ext h h' → K (.bool (decide (200 < o.key.length) || decide (400 < o.val.length))) h') : Ca f_law27_Long #[o.v] h K := by
  refine m_law27_Long_ok (bxa (cs := [int o.kind, str o.key, str o.val, int o.n]) fun b h1 e1 hb k1 _ => ?_)
  have r := r h1 e1
  refine fv (v := str o.key) (by rw [k1.get]; rfl) ?_
  rw [LenP_str, BiP_gtr]
  refine cdp (fun g => ?_) (fun g => ?_)
  · rw [decide_eq_true (show 200 < o.key.length by omega), Bool.true_or] at r; exact r
  · rw [decide_eq_false (show ¬ 200 < o.key.length by omega), Bool.false_or] at r
    refine fv (v := str o.val) (by rw [k1.get]; rfl) ?_
    rw [LenP_str, BiP_gtr]
    have : decide ((400 : Int) < (o.val.length : Int)) = decide (400 < o.val.length) := decide_eq_decide.2 (by omega)
    rw [this]; exact r
theorem KvS.ex16 {lo hi : Nat} (k : KvS lab h s c ps) (e : Ex (Lb lab lo hi) h h') (hl : 16 ≤ lo) : KvS lab h' s c ps := by
  obtain ⟨mp, tp, sp, dp, D, V, S, root, rd, wr, a, b, d, e', k1, k2, k3⟩ := k
  exact ⟨mp, tp, sp, dp, D, V, S, root, rd, wr, a, b, d, e', k1.ex e (nLb k3 (by omega)), k2.ex15 e (by omega), k3⟩
theorem c_law27_Step (kk : KvS lab h s c ps) (h0 : 0 ≤ c.val) (hc : chg c o) (hv : (o.msg.val.length : Int) ≤ c.val) (ho : lok c (applyP ps o.msg))
    (r : ∀ lab' h', Lat lab lab' h → KvS lab' h' s c (applyP ps o.msg) → Ex (Lb lab 1 15) h h' → K (.agg #[int 0, str [], .slice none 0 0]) h') : Ca f_law27_Step #[ptr s 0, o.v] h K := by
  refine m_law27_Step_ok (bxa (cs := [int o.kind, str o.key, str o.val, int o.n]) fun b1 h1 e1 hb1 k1 _ => ala (cs := [int 0, str [], .slice none 0 0]) fun b2 h2 e2 hb2 k2 _ => ?_)
  have k1 := k1.ext e2
  have e12 := e1.trans e2
  have hl1 := e1.le
  obtain ⟨hkd, hmay⟩ := hc
  unfold mayOp at hmay
  simp only [Bool.and_eq_true] at hmay
  have a0 : Lat lab (loc lab h b2) h := loc_lat lab (by omega)
  have kk2 := (kk.lat a0).ext e12
  have w2 : loc lab h b2 b2 = 99 := loc_at
  have fin : ∀ l3 h3, Lat (loc lab h b2) l3 h2 → KvS l3 h3 s c (applyP ps o.msg) → Ex (Lb (loc lab h b2) 1 15) h2 h3 → StA 3 (ptr b2 0) (.agg #[int 0, str [], .slice none 0 0]) h3 fun h26 => LdA 3 (ptr b2 0) h26 fun x27 => K x27 h26 := fun l3 h3 a3 k3 e3 => by
    have k23 := k2.ex e3 (nLb w2 (by decide))
    refine StA_b (vs := [int 0, str [], .slice none 0 0]) k23 rfl rfl rfl fun h4 _ e4 k4 => ?_
    have w3 : l3 b2 = 99 := (a3 b2 k2.lt).trans w2
    have e4' : Ex (Lb l3 99 99) h3 h4 := one_lb e4 ⟨by rw [w3]; decide, by rw [w3]; decide⟩
    have hl12 := e12.le
    refine (LdA_b k4 rfl).2 (r l3 h4 (a0.trans a3 hl12) (k3.ex16 e4' (by decide)) ?_)
    have e03 : Ex (Lb lab 1 15) h h3 := a0.ex (Ex.toM e12) e3
    exact e03.fresh e4 fun y hy he => by omega
  refine fv (v := int o.kind) (by rw [k1.get]; rfl) ?_
  rw [BiP_eql]
  refine cdp (fun h1k => ?_) (fun h1k => ?_)
  · have hm : o.msg = ⟨o.key, false, o.val⟩ := if_pos h1k
    refine fv (v := str o.key) (by rw [k1.get]; rfl) (fv (v := str o.val) (by rw [k1.get]; rfl) ?_)
    rw [hm] at ho hv
    refine c_kv_Put kk2 hmay.1 hv ho fun l3 h3 a3 k3 e3 => ?_
    refine ⟨_, #[int 0, str [], .slice none 0 0], rfl, rfl, ?_⟩
    exact fin l3 h3 a3 (by rw [hm]; exact k3) e3
  · rw [BiP_eql]
    have hm : o.msg = ⟨o.key, true, []⟩ := if_neg h1k
    refine cdp (fun _ => ?_) (fun h => absurd (hkd.resolve_left h1k) h)
    refine fv (v := str o.key) (by rw [k1.get]; rfl) ?_
    rw [hm] at ho
    refine c_kv_Delete kk2 hmay.1 h0 ho fun l3 h3 a3 k3 e3 => ?_
    refine ⟨_, #[int 0, str [], .slice none 0 0], rfl, rfl, ?_⟩
    exact fin l3 h3 a3 (by rw [hm]; exact k3) e3
end
end Go.Sg
namespace Go.Sg
open Go Vc
def psOf (L : List Opx) (i : Nat) : List Pair := ((L.take i).map Opx.msg).foldl applyP []
theorem psOf_succ {L : List Opx} {i : Nat} {o : Opx} (h : L[i]? = some o) : psOf L (i + 1) = applyP (psOf L i) o.msg := by
  unfold psOf
  rw [List.take_add_one, h]
  simp
def goodOps (c : Config) (L : List Opx) : Prop := ∀ i o, L[i]? = some o → chg c o ∧ o.key.length ≤ 200 ∧ o.val.length ≤ 400 ∧ (o.msg.val.length : Int) ≤ c.val ∧ lok c (psOf L (i + 1))
section
variable {lab lab' : Nat → Nat} {h h' : Heap} {K : Kt} {c : Config} {U : Nat → Prop} {x : Value} {L : List Opx}
theorem lok_bounds (hr : c.Right) {ps : List Pair} (ho : lok c ps) : ps.length ≤ 2 ^ 30 ∧ ∀ p ∈ ps, p.key.length < 2 ^ 62 := by
  have hf := outer_fits hr ho
  have hk := hr.1
  unfold Config.Sized at hk
  refine ⟨by have : ps.length ≤ 1024 := hf.2.1; omega, fun p hp => ?_⟩
  have := (hf.1 p hp).1
  omega
theorem c_law32_stored (hL : c.Light) (ho : lok c []) (hnf : c.frames.toNat ≤ 12) (h24 : c.blocks.toNat * c.bytes.toNat ≤ 2 ^ 24) (t : Tz h) (s : Sl U h x L) (hlen : L.length ≤ 249) (hg : goodOps c L)
    (r : ∀ lab' q h' y, KvS lab' h' q c (psOf L L.length) → (∀ b, b < h.size → lab' b = 0) → Ext h h' → h.size ≤ q → K (.tuple #[ptr q 0, y]) h') : Ca f_law32_stored #[c.v, x] h K := by
  have hr := hL.1
  have h0v : 0 ≤ c.val := by have := hr.1; unfold Config.Sized at this; omega
  refine m_law32_stored_ok (bxa (cs := c.cs) fun b2 h1 e1 hb2 k2 _ => (LdA_b k2 rfl).2 (c_law18_Light (c := c) fun h2 e2 => ?_))
  have k2 := k2.ext e2
  have e02 := e1.trans e2
  rw [decide_eq_true hL, UnP_not]
  refine cd (fun h => absurd h (by decide)) fun _ => (LdA_b k2 rfl).2 ?_
  refine c_kv_New hr ho hnf h24 (t.ext e02) fun l3 q h3 k3 z3 e3 hq => ?_
  rw [ex20, ex21, BiP_neq]
  refine cdp (fun h => absurd rfl h) fun _ => ?_
  refine bs (n0 := h3.size) (e := t_api_Pair) (zs := #[str [], str []]) ([] : List Pair) rfl (Nat.le_refl _) rfl (by decide) (cs := #[]) (by kernel_rfl) rfl fun v4 h4 o4 e4 => ?_
  have e34 := e3.trans e4
  have s2 : Sl No h2 x L := (s.ext e02).no
  have a4 := frl_lat l3 h3
  have k4 := (k3.lat a4).ext e4
  have hl02 := e02.le
  have hl23 := e3.le
  have z4 : ∀ b, b < h2.size → frl l3 h3 b = 0 := fun b hb => (a4 b (by omega)).trans (z3 b hb)
  have s4 : Sl (Use (frl l3 h3)) h4 x L := (s2.ex e34 (fun b hb hm => hm) (fun b hb hm => absurd (z4 b hb) hm) : Sl (Use (frl l3 h3)) h4 x L)
  have hb2l := k2.lt
  refine lop (σ := Nat × Value × (Nat → Nat)) (fun p => [.pointer none, .slice none 0 0, p.2.1, int p.1])
    (fun p h' => p.1 ≤ L.length ∧ KvS p.2.2 h' q c (psOf L p.1) ∧ (∀ b, b < h2.size → p.2.2 b = 0) ∧ Sl (Use p.2.2) h' x L ∧ Ow h2.size t_api_Pair h' p.2.1 (psOf L p.1) ∧ (∀ b, p.2.1.ownBlock = some b → p.2.2 b = 0) ∧ Ext h2 h')
    (fun p => L.length - p.1) (0, v4, frl l3 h3) rfl ⟨Nat.zero_le _, k4, z4, s4, o4.low hl23, fun b hb => frl_new (o4.block b hb), e34⟩ ?_
  rintro ⟨i, y, l5⟩ h5 N ⟨hi, k5, z5, s5, o5, zy, e5⟩ hN
  simp only at hi k5 z5 s5 o5 zy
  simp only [m_law32_stored_l16, gv_zero, gv_succ]
  refine s5.len ?_
  have k25 := k2.ext e5
  rw [BiP_lss]
  unfold m_law32_stored_j25
  refine cdp (fun hlt => ?_) (fun hge => ?_)
  · have hlt : i < L.length := by omega
    rw [BiP_lss, decide_eq_true (show (i : Int) < 250 by omega), CdP_true]
    have hx := List.getElem?_eq_getElem hlt
    obtain ⟨g1, g2, g3, g4, g5⟩ := hg i _ hx
    have hps := psOf_succ hx
    unfold m_law32_stored_j26
    refine s5.ea (x := L[i]) (by omega) (by rw [Int.toNat_natCast]; exact hx) ?_
    refine c_law27_Long (o := L[i]) fun h6 e6 => ?_
    rw [decide_eq_false (by omega), decide_eq_false (by omega)]
    show CdP (.bool false) _ _
    rw [CdP_false]
    have s6 := s5.ext e6
    refine s6.ea (x := L[i]) (by omega) (by rw [Int.toNat_natCast]; exact hx) ?_
    have a6 := frl_lat l5 h5
    have k6 := (k5.lat a6).ext e6
    have hl25 := e5.le
    refine c_law27_Step (o := L[i]) k6 h0v g1 g4 (by rw [← hps]; exact g5) fun l7 h7 a7 k7 e7 => ?_
    refine ⟨_, int 0, rfl, rfl, ?_⟩
    show BiP .eql (int 0) (int 0) _
    rw [BiP_eql]
    refine cdp (fun _ => ?_) fun h => absurd rfl h
    have hl56 := e6.le
    have z6 : ∀ b, b < h2.size → frl l5 h5 b = 0 := fun b hb => (a6 b (by omega)).trans (z5 b hb)
    have hz25 : ∀ b, b < h2.size → ¬ Lb (frl l5 h5) 1 15 b := fun b hb hm => by have := z6 b hb; obtain ⟨m1, m2⟩ := hm; omega
    have e57 : Ext h2 h7 := (e5.trans e6).andThen e7 hz25
    have k27 := k2.ext e57
    have zy6 : ∀ b, y.ownBlock = some b → frl l5 h5 b = 0 := fun b hb => by
      rcases Nat.lt_or_ge b h5.size with h | h
      · exact (a6 b h).trans (zy b hb)
      · exact frl_new h
    have o7 : Ow h2.size t_api_Pair h7 y (psOf L i) := (o5.ext e6).exb e7 fun b hb => nLb (zy6 b hb) (by decide)
    have s5' : Sl (Use (frl l5 h5)) h6 x L := s6.ex (Ex.refl No _) (fun _ _ h => h.elim) (fun b hb hm => by
      rcases Nat.lt_or_ge b h5.size with h | h
      · show l5 b ≠ 0; rw [← a6 b h]; exact hm
      · exact absurd (frl_new h) hm)
    have s7 : Sl (Use l7) h7 x L := s5'.lat e7 (by decide) a7
    refine (LdA_b k27 rfl).2 (s7.ea (x := L[i]) (by omega) (by rw [Int.toNat_natCast]; exact hx) ?_)
    have hob := lok_bounds (c := c) hr (ps := psOf L i) (by
      cases i with
      | zero => exact ho
      | succ j =>
        have hj : j < L.length := by omega
        exact (hg j _ (List.getElem?_eq_getElem hj)).2.2.2.2)
    have hasc : Asc Pair.key (psOf L i) := by
      cases i with
      | zero => exact List.Pairwise.nil
      | succ j =>
        have hj : j < L.length := by omega
        exact lok_asc (hg j _ (List.getElem?_eq_getElem hj)).2.2.2.2
    refine c_ref27_Do (o := L[i]) (o7.sl (U := No) fun _ _ h => h) hasc hob.1 hob.2 g1 fun w h8 o8 e8 => ⟨trivial, ?_⟩
    rw [ex20, ex21]
    unfold m_law32_stored_j45
    refine add64 (by omega) ?_
    have a8 := frl_lat l7 h7
    have hl67 := e7.le
    have hl27 := e57.le
    have z8 : ∀ b, b < h2.size → frl l7 h7 b = 0 := fun b hb => by rw [a8 b (by omega), a7 b (by omega)]; exact z6 b hb
    have s8 : Sl (Use (frl l7 h7)) h8 x L := (s7.ext e8).ex (Ex.refl No _) (fun _ _ h => h.elim) (fun b hb hm => by
      rcases Nat.lt_or_ge b h7.size with h | h
      · show l7 b ≠ 0; rw [← a8 b h]; exact hm
      · exact absurd (frl_new h) hm)
    have := hN (i + 1, w, frl l7 h7) h8 ⟨by show i + 1 ≤ _; omega, by show KvS _ _ _ _ (psOf L (i + 1)); rw [hps]; exact (k7.lat a8).ext e8, z8, s8, by show Ow _ _ _ _ (psOf L (i + 1)); rw [hps]; exact o8.low hl27, fun b hb => frl_new (o8.block b hb), e57.trans e8⟩ (by simp only; omega)
    simpa using this
  · have hin : i = L.length := by omega
    subst hin
    rw [CdP_false]
    unfold m_law32_stored_j47
    exact r l5 q h5 y k5 (fun b hb => z5 b (by omega)) (e02.trans e5) (by omega)
end
end Go.Sg
set_option maxRecDepth 100000
namespace Go.Sg
open Go Vc Go.Proofs
def m_cursor_Cursor_Next_j45 (x0_ x2_ : Value) (h : Heap) (K : Kt) : Prop :=
 Fl 6 x0_ h fun x48 =>
 Ea 2 x48 (.int .i64 0) h fun x50 =>
 AlP t_api_Pair zt_api_Pair h fun x52 h51 =>
 StA 2 x52 x50 h51 fun h53 =>
 Fl 6 x0_ h53 fun x56 =>
 SlP 2 x56 (some (.int .i64 1)) none fun x57 =>
 Fs 6 x0_ x57 h53 fun h60 =>
 Fv 0 x52 h60 fun x62 =>
 Ca f_lex_Next #[x62] h60 fun x64 h63 =>
 Fs 2 x0_ x64 h63 fun h67 =>
 Fl 5 x0_ h67 fun x70 =>
 BiP .add x70 (.int .i64 1) fun x71 =>
 Fs 5 x0_ x71 h67 fun h74 =>
 LdA 2 x52 h74 fun x75 =>
 StA 2 x2_ x75 h74 fun h76 =>
 LdA 2 x2_ h76 fun x77 =>
 K (.tuple #[x77, (.bool true), (.int .i64 0)]) h76
def m_cursor_Cursor_Next_j41 (x0_ x2_ x5_ : Value) (h : Heap) (K : Kt) : Prop :=
 Fs 6 x0_ x5_ h fun h44 =>
 m_cursor_Cursor_Next_j45 x0_ x2_ h44 K
def m_cursor_Cursor_Next_j37 (x0_ x2_ x5_ x6_ x43_ : Value) (h : Heap) (K : Kt) : Prop :=
 CdP x43_
 (BlP bt_api_Pair [] fun x38 =>
 StA 2 x2_ x38 h fun h39 =>
 LdA 2 x2_ h39 fun x40 =>
 K (.tuple #[x40, (.bool false), x6_]) h39)
 (m_cursor_Cursor_Next_j41 x0_ x2_ x5_ h K)
def m_cursor_Cursor_Next (x0_ : Value) (h : Heap) (K : Kt) : Prop :=
 AlP t_api_Pair zt_api_Pair h fun x2 h1 =>
 Ca f_cursor_Cursor_none #[x0_] h1 fun x4 h3 =>
 CdP x4
 (BlP bt_api_Pair [] fun x5 =>
 StA 2 x2 x5 h3 fun h6 =>
 LdA 2 x2 h6 fun x7 =>
 K (.tuple #[x7, (.bool false), (.int .i64 1)]) h6)
 (Fl 6 x0_ h3 fun x11 =>
 LenP (some true) x11 fun x12 =>
 BiP .eql x12 (.int .i64 0) fun x13 =>
 CdP x13
 (Fl 0 x0_ h3 fun x16 =>
 Fl 2 x0_ h3 fun x19 =>
 Fl 3 x0_ h3 fun x22 =>
 Fl 4 x0_ h3 fun x25 =>
 Ca f_kv_Store_Range #[x16, x19, x22, x25] h3 fun x27 h26 =>
 True ∧ (ExP x27 0 fun x28 =>
 ExP x27 1 fun x29 =>
 BiP .neq x29 (.int .i64 0) fun x32 =>
 CdP x32
 (m_cursor_Cursor_Next_j37 x0_ x2 x28 x29 (.bool true) h26 K)
 (LenP (some true) x28 fun x34 =>
 BiP .eql x34 (.int .i64 0) fun x35 =>
 m_cursor_Cursor_Next_j37 x0_ x2 x28 x29 x35 h26 K)))
 (m_cursor_Cursor_Next_j45 x0_ x2 h3 K))
theorem m_cursor_Cursor_Next_ok {x0_ : Value} {h : Heap} {K : Kt} (hh : m_cursor_Cursor_Next x0_ h K) : Ca f_cursor_Cursor_Next #[x0_] h K := cv Tryz.func6 (by kernel_rfl) hh
def m_cursor_Cursor_Seek (x0_ x1_ : Value) (h : Heap) (K : Kt) : Prop :=
 Ca f_cursor_Cursor_none #[x0_] h fun x2 h1 =>
 CdP x2
 (K (.int .i64 1) h1)
 (Fs 6 x0_ (.slice none 0 0) h1 fun h5 =>
 Fl 1 x0_ h5 fun x8 =>
 VH Pg (Builtin.max_ #[t_string, t_string] t_string #[x1_, x8]) h5 fun x10 h9 =>
 Fs 2 x0_ x10 h9 fun h13 =>
 K (.int .i64 0) h13)
theorem m_cursor_Cursor_Seek_ok {x0_ x1_ : Value} {h : Heap} {K : Kt} (hh : m_cursor_Cursor_Seek x0_ x1_ h K) : Ca f_cursor_Cursor_Seek #[x0_, x1_] h K := cv Tryz.func7 (by kernel_rfl) hh
def m_cursor_Cursor_Told (x0_ : Value) (h : Heap) (K : Kt) : Prop :=
 Ca f_cursor_Cursor_none #[x0_] h fun x2 h1 =>
 CdP x2
 (K (.int .i64 0) h1)
 (Fl 5 x0_ h1 fun x5 =>
 K x5 h1)
theorem m_cursor_Cursor_Told_ok {x0_ : Value} {h : Heap} {K : Kt} (hh : m_cursor_Cursor_Told x0_ h K) : Ca f_cursor_Cursor_Told #[x0_] h K := cv Tryz.func8 (by kernel_rfl) hh
def m_cursor_Cursor_All_j24 (x0_ x1_ x4_ x7_ x25_ : Value) (h : Heap) (nx5 : Nt) (K : Kt) : Prop :=
 CdP x25_
 (K x7_ h)
 (nx5 [x4_] h)
def m_cursor_Cursor_All_j25 (h : Heap) (K : Kt) : Prop :=
 K (.int .i64 0) h
def m_cursor_Cursor_All_l4 (vs : List Value) (x0_ x1_ : Value) (h : Heap) (nx5 : Nt) (K : Kt) : Prop :=
 EqP .neq t_func_8e0de9 (.tmp 10) (.const .nilFunc) x1_ .nilFunc h fun x7 h6 =>
 CdP x7
 (Ca f_cursor_Cursor_Next #[x0_] h6 fun x9 h8 =>
 ExP x9 0 fun x10 =>
 ExP x9 1 fun x11 =>
 ExP x9 2 fun x12 =>
 AlP t_api_Pair zt_api_Pair h8 fun x14 h13 =>
 StA 2 x14 x10 h13 fun h15 =>
 UnP .not x11 fun x17 =>
 CdP x17
 (m_cursor_Cursor_All_j24 x0_ x1_ (gv vs 0) x12 (.bool true) h15 nx5 K)
 (LdA 2 x14 h15 fun x19 =>
 CvH Pg x1_ #[x19] h15 fun x21 h20 =>
 UnP .not x21 fun x22 =>
 m_cursor_Cursor_All_j24 x0_ x1_ (gv vs 0) x12 x22 h20 nx5 K))
 (m_cursor_Cursor_All_j25 h6 K)
def m_cursor_Cursor_All (x0_ x1_ : Value) (h : Heap) (K : Kt) : Prop :=
 Ca f_cursor_Cursor_none #[x0_] h fun x2 h1 =>
 CdP x2
 (K (.int .i64 1) h1)
 (LoP (fun vt h nx5 => m_cursor_Cursor_All_l4 vt x0_ x1_ h nx5 K) [(.int .i64 0)] h1)
theorem m_cursor_Cursor_All_ok {x0_ x1_ : Value} {h : Heap} {K : Kt} (hh : m_cursor_Cursor_All x0_ x1_ h K) : Ca f_cursor_Cursor_All #[x0_, x1_] h K := cv Tryz.func9 (by kernel_rfl) hh
def m_cursor_New_j10 (x0_ x1_ x2_ x3_ : Value) (h : Heap) (K : Kt) : Prop :=
 BlP bt_cursor_Cursor [(0, x0_), (1, x1_), (2, x1_), (3, x2_), (4, x3_)] fun x11 =>
 BxP t_cursor_Cursor x11 h fun x13 h12 =>
 K (.tuple #[x13, (.int .i64 0)]) h12
def m_cursor_New_j9 (x0_ x1_ x2_ x3_ x13_ : Value) (h : Heap) (K : Kt) : Prop :=
 CdP x13_
 (K (.tuple #[(.pointer none), (.int .i64 2)]) h)
 (m_cursor_New_j10 x0_ x1_ x2_ x3_ h K)
def m_cursor_New (x0_ x1_ x2_ x3_ : Value) (h : Heap) (K : Kt) : Prop :=
 EqP .eql t_P_kv_Store (.tmp 11) (.const (.pointer none)) x0_ (.pointer none) h fun x3 h2 =>
 CdP x3
 (K (.tuple #[(.pointer none), (.int .i64 1)]) h2)
 (BiP .lss x3_ (.int .i64 1) fun x5 =>
 CdP x5
 (m_cursor_New_j9 x0_ x1_ x2_ x3_ (.bool true) h2 K)
 (BiP .gtr x3_ (.int .i64 1000) fun x7 =>
 m_cursor_New_j9 x0_ x1_ x2_ x3_ x7 h2 K))
theorem m_cursor_New_ok {x0_ x1_ x2_ x3_ : Value} {h : Heap} {K : Kt} (hh : m_cursor_New x0_ x1_ x2_ x3_ h K) : Ca f_cursor_New #[x0_, x1_, x2_, x3_] h K := cv Tryz.func10 (by kernel_rfl) hh
def m_cursor_Cursor_none_j11 (x2_ : Value) (h : Heap) (K : Kt) : Prop :=
 K x2_ h
def m_cursor_Cursor_none (x0_ : Value) (h : Heap) (K : Kt) : Prop :=
 EqP .eql t_P_cursor_Cursor (.tmp 3) (.const (.pointer none)) x0_ (.pointer none) h fun x3 h2 =>
 CdP x3
 (m_cursor_Cursor_none_j11 (.bool true) h2 K)
 (Fl 0 x0_ h2 fun x7 =>
 EqP .eql t_P_kv_Store (.tmp 9) (.const (.pointer none)) x7 (.pointer none) h2 fun x9 h8 =>
 m_cursor_Cursor_none_j11 x9 h8 K)
theorem m_cursor_Cursor_none_ok {x0_ : Value} {h : Heap} {K : Kt} (hh : m_cursor_Cursor_none x0_ h K) : Ca f_cursor_Cursor_none #[x0_] h K := cv Tryz.func29 (by kernel_rfl) hh
end Go.Sg
