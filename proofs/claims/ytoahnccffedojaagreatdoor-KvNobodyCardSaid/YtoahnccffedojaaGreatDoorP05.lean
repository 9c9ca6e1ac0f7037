/-
  Part 5 of a proof: own texts, merged by program.
-/
import Derived.Test.YtoahnccffedojaaGreatDoorP03
import Derived.Test.YtoahnccffedojaaGreatDoorP04
set_option linter.unusedVariables false
set_option linter.unusedSimpArgs false
set_option maxRecDepth 100000
namespace Go.Sg
open Go Vc Go.Proofs
/- slices.Clone[[]byte,byte] -/
def m_slices_Clone_byte (x0_ : Value) (h : Heap) (K : Kt) : Prop :=
 EqP .eql t_S_uint8 (.tmp 3) (.const (.slice none 0 0)) x0_ (.slice none 0 0) h fun x2 h1 =>
 CdP x2
 (K (.slice none 0 0) h1)
 (BsP st_S_uint8 0 [] h1 fun x4 h3 =>
 VH Pg (Builtin.append_ #[t_S_uint8, t_S_uint8] t_S_uint8 #[x4, x0_]) h3 fun x6 h5 =>
 K x6 h5)
theorem m_slices_Clone_byte_ok {x0_ : Value} {h : Heap} {K : Kt} (hh : m_slices_Clone_byte x0_ h K) : Ca f_slices_Clone_byte #[x0_] h K := cv Tryz.func52 (by kernel_rfl) hh
/- slices.Equal[[]byte,byte] -/
def m_slices_Equal_byte_j16 (h : Heap) (K : Kt) : Prop :=
 K (.bool true) h
def m_slices_Equal_byte_l6 (vs : List Value) (x0_ x1_ x12_ : Value) (h : Heap) (nx7 : Nt) (K : Kt) : Prop :=
 BiP .lss (gv vs 1) x12_ fun x8 =>
 CdP x8
 (Ei 1 x0_ (gv vs 1) h fun x11 =>
 Ei 1 x1_ (gv vs 1) h fun x13 =>
 BiP .neq x11 x13 fun x14 =>
 CdP x14
 (K (.bool false) h)
 (BiP .add (gv vs 1) (.int .i64 1) fun x15 =>
 nx7 [(gv vs 0), x15] h))
 (m_slices_Equal_byte_j16 h K)
def m_slices_Equal_byte (x0_ x1_ : Value) (h : Heap) (K : Kt) : Prop :=
 LenP (some true) x0_ fun x1 =>
 LenP (some true) x1_ fun x2 =>
 BiP .neq x1 x2 fun x3 =>
 CdP x3
 (K (.bool false) h)
 (LenP (some true) x0_ fun x5 =>
 LoP (fun vt h nx7 => m_slices_Equal_byte_l6 vt x0_ x1_ x5 h nx7 K) [(.bool false), (.int .i64 0)] h)
theorem m_slices_Equal_byte_ok {x0_ x1_ : Value} {h : Heap} {K : Kt} (hh : m_slices_Equal_byte x0_ x1_ h K) : Ca f_slices_Equal_byte #[x0_, x1_] h K := cv Tryz.func106 (by kernel_rfl) hh
/- slices.BinarySearchFunc[[]sluicegate/api.Msg,sluicegate/api.Msg,string] -/
def m_slices_BinarySearchFunc_api_Msg_j26 (x6_ x7_ : Value) (h : Heap) (K : Kt) : Prop :=
 K (.tuple #[x6_, x7_]) h
def m_slices_BinarySearchFunc_api_Msg_j16 (x0_ x1_ x2_ x8_ x9_ : Value) (h : Heap) (K : Kt) : Prop :=
 BiP .lss x9_ x8_ fun x18 =>
 CdP x18
 (Ea 3 x0_ x9_ h fun x20 =>
 CvH Pg x2_ #[x20, x1_] h fun x22 h21 =>
 BiP .eql x22 (.int .i64 0) fun x23 =>
 m_slices_BinarySearchFunc_api_Msg_j26 x9_ x23 h21 K)
 (m_slices_BinarySearchFunc_api_Msg_j26 x9_ (.bool false) h K)
def m_slices_BinarySearchFunc_api_Msg_l3 (vs : List Value) (x0_ x1_ x2_ x8_ : Value) (h : Heap) (nx4 : Nt) (K : Kt) : Prop :=
 BiP .lss (gv vs 0) (gv vs 1) fun x5 =>
 CdP x5
 (BiP .add (gv vs 0) (gv vs 1) fun x6 =>
 CvP .u64 x6 fun x7 =>
 BiP .shr x7 (.int .u64 1) fun x8 =>
 CvP .i64 x8 fun x9 =>
 Ea 3 x0_ x9 h fun x11 =>
 CvH Pg x2_ #[x11, x1_] h fun x13 h12 =>
 BiP .lss x13 (.int .i64 0) fun x14 =>
 CdP x14
 (BiP .add x9 (.int .i64 1) fun x15 =>
 nx4 [x15, (gv vs 1)] h12)
 (nx4 [(gv vs 0), x9] h12))
 (m_slices_BinarySearchFunc_api_Msg_j16 x0_ x1_ x2_ x8_ (gv vs 0) h K)
def m_slices_BinarySearchFunc_api_Msg (x0_ x1_ x2_ : Value) (h : Heap) (K : Kt) : Prop :=
 LenP (some true) x0_ fun x1 =>
 LoP (fun vt h nx4 => m_slices_BinarySearchFunc_api_Msg_l3 vt x0_ x1_ x2_ x1 h nx4 K) [(.int .i64 0), x1] h
theorem m_slices_BinarySearchFunc_api_Msg_ok {x0_ x1_ x2_ : Value} {h : Heap} {K : Kt} (hh : m_slices_BinarySearchFunc_api_Msg x0_ x1_ x2_ h K) : Ca f_slices_BinarySearchFunc_api_Msg #[x0_, x1_, x2_] h K := cv Tryz.func135 (by kernel_rfl) hh
/- slices.Clone[[]sluicegate/api.Pair,sluicegate/api.Pair] -/
def m_slices_Clone_api_Pair (x0_ : Value) (h : Heap) (K : Kt) : Prop :=
 EqP .eql t_S_api_Pair (.tmp 3) (.const (.slice none 0 0)) x0_ (.slice none 0 0) h fun x2 h1 =>
 CdP x2
 (K (.slice none 0 0) h1)
 (BsP st_S_api_Pair 0 [] h1 fun x4 h3 =>
 VH Pg (Builtin.append_ #[t_S_api_Pair, t_S_api_Pair] t_S_api_Pair #[x4, x0_]) h3 fun x6 h5 =>
 K x6 h5)
theorem m_slices_Clone_api_Pair_ok {x0_ : Value} {h : Heap} {K : Kt} (hh : m_slices_Clone_api_Pair x0_ h K) : Ca f_slices_Clone_api_Pair #[x0_] h K := cv Tryz.func139 (by kernel_rfl) hh
/- slices.BinarySearchFunc[[]sluicegate/api.Pair,sluicegate/api.Pair,string] -/
def m_slices_BinarySearchFunc_api_Pair_j26 (x6_ x7_ : Value) (h : Heap) (K : Kt) : Prop :=
 K (.tuple #[x6_, x7_]) h
def m_slices_BinarySearchFunc_api_Pair_j16 (x0_ x1_ x2_ x8_ x9_ : Value) (h : Heap) (K : Kt) : Prop :=
 BiP .lss x9_ x8_ fun x18 =>
 CdP x18
 (Ea 2 x0_ x9_ h fun x20 =>
 CvH Pg x2_ #[x20, x1_] h fun x22 h21 =>
 BiP .eql x22 (.int .i64 0) fun x23 =>
 m_slices_BinarySearchFunc_api_Pair_j26 x9_ x23 h21 K)
 (m_slices_BinarySearchFunc_api_Pair_j26 x9_ (.bool false) h K)
def m_slices_BinarySearchFunc_api_Pair_l3 (vs : List Value) (x0_ x1_ x2_ x8_ : Value) (h : Heap) (nx4 : Nt) (K : Kt) : Prop :=
 BiP .lss (gv vs 0) (gv vs 1) fun x5 =>
 CdP x5
 (BiP .add (gv vs 0) (gv vs 1) fun x6 =>
 CvP .u64 x6 fun x7 =>
 BiP .shr x7 (.int .u64 1) fun x8 =>
 CvP .i64 x8 fun x9 =>
 Ea 2 x0_ x9 h fun x11 =>
 CvH Pg x2_ #[x11, x1_] h fun x13 h12 =>
 BiP .lss x13 (.int .i64 0) fun x14 =>
 CdP x14
 (BiP .add x9 (.int .i64 1) fun x15 =>
 nx4 [x15, (gv vs 1)] h12)
 (nx4 [(gv vs 0), x9] h12))
 (m_slices_BinarySearchFunc_api_Pair_j16 x0_ x1_ x2_ x8_ (gv vs 0) h K)
def m_slices_BinarySearchFunc_api_Pair (x0_ x1_ x2_ : Value) (h : Heap) (K : Kt) : Prop :=
 LenP (some true) x0_ fun x1 =>
 LoP (fun vt h nx4 => m_slices_BinarySearchFunc_api_Pair_l3 vt x0_ x1_ x2_ x1 h nx4 K) [(.int .i64 0), x1] h
theorem m_slices_BinarySearchFunc_api_Pair_ok {x0_ x1_ x2_ : Value} {h : Heap} {K : Kt} (hh : m_slices_BinarySearchFunc_api_Pair x0_ x1_ x2_ h K) : Ca f_slices_BinarySearchFunc_api_Pair #[x0_, x1_, x2_] h K := cv Tryz.func140 (by kernel_rfl) hh
/- slices.Delete[[]sluicegate/api.Pair,sluicegate/api.Pair] -/
def m_slices_Delete_api_Pair (x0_ x1_ x2_ : Value) (h : Heap) (K : Kt) : Prop :=
 LenP (some true) x0_ fun x1 =>
 VH Pg (Instr.sliceAt t_S_api_Pair x0_ (some x1_) (some x2_) (some x1)) h fun x3 h2 =>
 BiP .eql x1_ x2_ fun x4 =>
 CdP x4
 (K x0_ h2)
 (LenP (some true) x0_ fun x5 =>
 SlP 2 x0_ none (some x1_) fun x6 =>
 SlP 2 x0_ (some x2_) none fun x7 =>
 VH Pg (Builtin.append_ #[t_S_api_Pair, t_S_api_Pair] t_S_api_Pair #[x6, x7]) h2 fun x9 h8 =>
 True ∧ (LenP (some true) x9 fun x10 =>
 SlP 2 x9 (some x10) (some x5) fun x11 =>
 VH Pg (Builtin.clear_ #[t_S_api_Pair] t_tuple_2e38e7 #[x11]) h8 fun x13 h12 =>
 K x9 h12))
theorem m_slices_Delete_api_Pair_ok {x0_ x1_ x2_ : Value} {h : Heap} {K : Kt} (hh : m_slices_Delete_api_Pair x0_ x1_ x2_ h K) : Ca f_slices_Delete_api_Pair #[x0_, x1_, x2_] h K := cv Tryz.func142 (by kernel_rfl) hh
/- slices.Insert[[]sluicegate/api.Pair,sluicegate/api.Pair] -/
def m_slices_Insert_api_Pair (x0_ x1_ x2_ : Value) (h : Heap) (K : Kt) : Prop :=
 SlP 2 x0_ (some x1_) none fun x1 =>
 LenP (some true) x2_ fun x2 =>
 BiP .eql x2 (.int .i64 0) fun x3 =>
 CdP x3
 (K x0_ h)
 (LenP (some true) x0_ fun x4 =>
 BiP .eql x1_ x4 fun x5 =>
 CdP x5
 (VH Pg (Builtin.append_ #[t_S_api_Pair, t_S_api_Pair] t_S_api_Pair #[x0_, x2_]) h fun x7 h6 =>
 K x7 h6)
 (BiP .add x4 x2 fun x8 =>
 VH Pg (Builtin.cap_ #[t_S_api_Pair] t_int #[x0_]) h fun x10 h9 =>
 BiP .gtr x8 x10 fun x11 =>
 CdP x11
 (SlP 2 x0_ none (some x1_) fun x12 =>
 BiP .add x4 x2 fun x13 =>
 BiP .sub x13 x1_ fun x14 =>
 VH Pg (Builtin.append_ #[t_S_api_Pair, t_int] t_S_api_Pair #[x12, x14]) h9 fun x16 h15 =>
 SlP 2 x16 (some x1_) none fun x17 =>
 VH Pg (Builtin.copy_ #[t_S_api_Pair, t_S_api_Pair] t_int #[x17, x2_]) h15 fun x19 h18 =>
 BiP .add x1_ x2 fun x20 =>
 SlP 2 x16 (some x20) none fun x21 =>
 SlP 2 x0_ (some x1_) none fun x22 =>
 VH Pg (Builtin.copy_ #[t_S_api_Pair, t_S_api_Pair] t_int #[x21, x22]) h18 fun x24 h23 =>
 True ∧ (K x16 h23))
 (BiP .add x4 x2 fun x25 =>
 SlP 2 x0_ none (some x25) fun x26 =>
 BiP .add x1_ x2 fun x27 =>
 SlP 2 x26 (some x27) none fun x28 =>
 Cx f_slices_overlaps_api_Pair #[x2_, x28] h9 fun x30 h29 =>
 UnP .not x30 fun x31 =>
 CdP x31
 (BiP .add x1_ x2 fun x32 =>
 SlP 2 x26 (some x32) none fun x33 =>
 SlP 2 x26 (some x1_) none fun x34 =>
 VH Pg (Builtin.copy_ #[t_S_api_Pair, t_S_api_Pair] t_int #[x33, x34]) h29 fun x36 h35 =>
 True ∧ (SlP 2 x26 (some x1_) none fun x37 =>
 VH Pg (Builtin.copy_ #[t_S_api_Pair, t_S_api_Pair] t_int #[x37, x2_]) h35 fun x39 h38 =>
 K x26 h38))
 (SlP 2 x26 (some x4) none fun x40 =>
 VH Pg (Builtin.copy_ #[t_S_api_Pair, t_S_api_Pair] t_int #[x40, x2_]) h29 fun x42 h41 =>
 SlP 2 x26 (some x1_) none fun x43 =>
 Ca f_slices_rotateRight_api_Pair #[x43, x2] h41 fun x45 h44 =>
 K x26 h44))))
theorem m_slices_Insert_api_Pair_ok {x0_ x1_ x2_ : Value} {h : Heap} {K : Kt} (hh : m_slices_Insert_api_Pair x0_ x1_ x2_ h K) : Ca f_slices_Insert_api_Pair #[x0_, x1_, x2_] h K := cv Tryz.func143 (by kernel_rfl) hh
/- slices.Clone[[]sluicegate/api.Msg,sluicegate/api.Msg] -/
def m_slices_Clone_api_Msg (x0_ : Value) (h : Heap) (K : Kt) : Prop :=
 EqP .eql t_S_api_Msg (.tmp 3) (.const (.slice none 0 0)) x0_ (.slice none 0 0) h fun x2 h1 =>
 CdP x2
 (K (.slice none 0 0) h1)
 (BsP st_S_api_Msg 0 [] h1 fun x4 h3 =>
 VH Pg (Builtin.append_ #[t_S_api_Msg, t_S_api_Msg] t_S_api_Msg #[x4, x0_]) h3 fun x6 h5 =>
 K x6 h5)
theorem m_slices_Clone_api_Msg_ok {x0_ : Value} {h : Heap} {K : Kt} (hh : m_slices_Clone_api_Msg x0_ h K) : Ca f_slices_Clone_api_Msg #[x0_] h K := cv Tryz.func145 (by kernel_rfl) hh
/- slices.Sort[[]uint32,uint32] -/
def m_slices_Sort_uint32 (x0_ : Value) (h : Heap) (K : Kt) : Prop :=
 LenP (some true) x0_ fun x1 =>
 CvP .u64 x1 fun x2 =>
 Ca f_bits_Len #[x2] h fun x4 h3 =>
 Ca f_slices_pdqsortOrdered_uint32 #[x0_, (.int .i64 0), x1, x4] h3 fun x6 h5 =>
 K (.tuple #[]) h5
theorem m_slices_Sort_uint32_ok {x0_ : Value} {h : Heap} {K : Kt} (hh : m_slices_Sort_uint32 x0_ h K) : Ca f_slices_Sort_uint32 #[x0_] h K := cv Tryz.func152 (by kernel_rfl) hh
/- slices.Sorted[uint32] -/
def m_slices_Sorted_uint32 (x0_ : Value) (h : Heap) (K : Kt) : Prop :=
 Ca f_slices_Collect_uint32 #[x0_] h fun x2 h1 =>
 Ca f_slices_Sort_uint32 #[x2] h1 fun x4 h3 =>
 K x2 h3
theorem m_slices_Sorted_uint32_ok {x0_ : Value} {h : Heap} {K : Kt} (hh : m_slices_Sorted_uint32 x0_ h K) : Ca f_slices_Sorted_uint32 #[x0_] h K := cv Tryz.func155 (by kernel_rfl) hh
/- maps.Keys[map[uint32]int,uint32,int] -/
def m_maps_Keys_map (x0_ : Value) (h : Heap) (K : Kt) : Prop :=
 BxP t_M_uint32_int x0_ h fun x2 h1 =>
 K (.func (.func f_maps_Keys_map_1) #[] #[x2]) h1
theorem m_maps_Keys_map_ok {x0_ : Value} {h : Heap} {K : Kt} (hh : m_maps_Keys_map x0_ h K) : Ca f_maps_Keys_map #[x0_] h K := cv Tryz.func156 (by kernel_rfl) hh
/- slices.Clone[[]uint32,uint32] -/
def m_slices_Clone_uint32 (x0_ : Value) (h : Heap) (K : Kt) : Prop :=
 EqP .eql t_S_uint32 (.tmp 3) (.const (.slice none 0 0)) x0_ (.slice none 0 0) h fun x2 h1 =>
 CdP x2
 (K (.slice none 0 0) h1)
 (BsP st_S_uint32 0 [] h1 fun x4 h3 =>
 VH Pg (Builtin.append_ #[t_S_uint32, t_S_uint32] t_S_uint32 #[x4, x0_]) h3 fun x6 h5 =>
 K x6 h5)
theorem m_slices_Clone_uint32_ok {x0_ : Value} {h : Heap} {K : Kt} (hh : m_slices_Clone_uint32 x0_ h K) : Ca f_slices_Clone_uint32 #[x0_] h K := cv Tryz.func159 (by kernel_rfl) hh
/- slices.Clone[[]string,string] -/
def m_slices_Clone_string (x0_ : Value) (h : Heap) (K : Kt) : Prop :=
 EqP .eql t_S_string (.tmp 3) (.const (.slice none 0 0)) x0_ (.slice none 0 0) h fun x2 h1 =>
 CdP x2
 (K (.slice none 0 0) h1)
 (BsP st_S_string 0 [] h1 fun x4 h3 =>
 VH Pg (Builtin.append_ #[t_S_string, t_S_string] t_S_string #[x4, x0_]) h3 fun x6 h5 =>
 K x6 h5)
theorem m_slices_Clone_string_ok {x0_ : Value} {h : Heap} {K : Kt} (hh : m_slices_Clone_string x0_ h K) : Ca f_slices_Clone_string #[x0_] h K := cv Tryz.func160 (by kernel_rfl) hh
/- slices.Insert[[]sluicegate/api.Msg,sluicegate/api.Msg] -/
def m_slices_Insert_api_Msg (x0_ x1_ x2_ : Value) (h : Heap) (K : Kt) : Prop :=
 SlP 3 x0_ (some x1_) none fun x1 =>
 LenP (some true) x2_ fun x2 =>
 BiP .eql x2 (.int .i64 0) fun x3 =>
 CdP x3
 (K x0_ h)
 (LenP (some true) x0_ fun x4 =>
 BiP .eql x1_ x4 fun x5 =>
 CdP x5
 (VH Pg (Builtin.append_ #[t_S_api_Msg, t_S_api_Msg] t_S_api_Msg #[x0_, x2_]) h fun x7 h6 =>
 K x7 h6)
 (BiP .add x4 x2 fun x8 =>
 VH Pg (Builtin.cap_ #[t_S_api_Msg] t_int #[x0_]) h fun x10 h9 =>
 BiP .gtr x8 x10 fun x11 =>
 CdP x11
 (SlP 3 x0_ none (some x1_) fun x12 =>
 BiP .add x4 x2 fun x13 =>
 BiP .sub x13 x1_ fun x14 =>
 VH Pg (Builtin.append_ #[t_S_api_Msg, t_int] t_S_api_Msg #[x12, x14]) h9 fun x16 h15 =>
 SlP 3 x16 (some x1_) none fun x17 =>
 VH Pg (Builtin.copy_ #[t_S_api_Msg, t_S_api_Msg] t_int #[x17, x2_]) h15 fun x19 h18 =>
 BiP .add x1_ x2 fun x20 =>
 SlP 3 x16 (some x20) none fun x21 =>
 SlP 3 x0_ (some x1_) none fun x22 =>
 VH Pg (Builtin.copy_ #[t_S_api_Msg, t_S_api_Msg] t_int #[x21, x22]) h18 fun x24 h23 =>
 True ∧ (K x16 h23))
 (BiP .add x4 x2 fun x25 =>
 SlP 3 x0_ none (some x25) fun x26 =>
 BiP .add x1_ x2 fun x27 =>
 SlP 3 x26 (some x27) none fun x28 =>
 Cx f_slices_overlaps_api_Msg #[x2_, x28] h9 fun x30 h29 =>
 UnP .not x30 fun x31 =>
 CdP x31
 (BiP .add x1_ x2 fun x32 =>
 SlP 3 x26 (some x32) none fun x33 =>
 SlP 3 x26 (some x1_) none fun x34 =>
 VH Pg (Builtin.copy_ #[t_S_api_Msg, t_S_api_Msg] t_int #[x33, x34]) h29 fun x36 h35 =>
 True ∧ (SlP 3 x26 (some x1_) none fun x37 =>
 VH Pg (Builtin.copy_ #[t_S_api_Msg, t_S_api_Msg] t_int #[x37, x2_]) h35 fun x39 h38 =>
 K x26 h38))
 (SlP 3 x26 (some x4) none fun x40 =>
 VH Pg (Builtin.copy_ #[t_S_api_Msg, t_S_api_Msg] t_int #[x40, x2_]) h29 fun x42 h41 =>
 SlP 3 x26 (some x1_) none fun x43 =>
 Ca f_slices_rotateRight_api_Msg #[x43, x2] h41 fun x45 h44 =>
 K x26 h44))))
theorem m_slices_Insert_api_Msg_ok {x0_ x1_ x2_ : Value} {h : Heap} {K : Kt} (hh : m_slices_Insert_api_Msg x0_ x1_ x2_ h K) : Ca f_slices_Insert_api_Msg #[x0_, x1_, x2_] h K := cv Tryz.func176 (by kernel_rfl) hh
/- slices.BinarySearchFunc[[]string,string,string] -/
def m_slices_BinarySearchFunc_string_j26 (x6_ x7_ : Value) (h : Heap) (K : Kt) : Prop :=
 K (.tuple #[x6_, x7_]) h
def m_slices_BinarySearchFunc_string_j16 (x0_ x1_ x2_ x8_ x9_ : Value) (h : Heap) (K : Kt) : Prop :=
 BiP .lss x9_ x8_ fun x18 =>
 CdP x18
 (Ei 1 x0_ x9_ h fun x20 =>
 CvH Pg x2_ #[x20, x1_] h fun x22 h21 =>
 BiP .eql x22 (.int .i64 0) fun x23 =>
 m_slices_BinarySearchFunc_string_j26 x9_ x23 h21 K)
 (m_slices_BinarySearchFunc_string_j26 x9_ (.bool false) h K)
def m_slices_BinarySearchFunc_string_l3 (vs : List Value) (x0_ x1_ x2_ x8_ : Value) (h : Heap) (nx4 : Nt) (K : Kt) : Prop :=
 BiP .lss (gv vs 0) (gv vs 1) fun x5 =>
 CdP x5
 (BiP .add (gv vs 0) (gv vs 1) fun x6 =>
 CvP .u64 x6 fun x7 =>
 BiP .shr x7 (.int .u64 1) fun x8 =>
 CvP .i64 x8 fun x9 =>
 Ei 1 x0_ x9 h fun x11 =>
 CvH Pg x2_ #[x11, x1_] h fun x13 h12 =>
 BiP .lss x13 (.int .i64 0) fun x14 =>
 CdP x14
 (BiP .add x9 (.int .i64 1) fun x15 =>
 nx4 [x15, (gv vs 1)] h12)
 (nx4 [(gv vs 0), x9] h12))
 (m_slices_BinarySearchFunc_string_j16 x0_ x1_ x2_ x8_ (gv vs 0) h K)
def m_slices_BinarySearchFunc_string (x0_ x1_ x2_ : Value) (h : Heap) (K : Kt) : Prop :=
 LenP (some true) x0_ fun x1 =>
 LoP (fun vt h nx4 => m_slices_BinarySearchFunc_string_l3 vt x0_ x1_ x2_ x1 h nx4 K) [(.int .i64 0), x1] h
theorem m_slices_BinarySearchFunc_string_ok {x0_ x1_ x2_ : Value} {h : Heap} {K : Kt} (hh : m_slices_BinarySearchFunc_string x0_ x1_ x2_ h K) : Ca f_slices_BinarySearchFunc_string #[x0_, x1_, x2_] h K := cv Tryz.func182 (by kernel_rfl) hh
/- slices.rotateRight[sluicegate/api.Pair] -/
def m_slices_rotateRight_api_Pair (x0_ x1_ : Value) (h : Heap) (K : Kt) : Prop :=
 LenP (some true) x0_ fun x1 =>
 BiP .sub x1 x1_ fun x2 =>
 Ca f_slices_rotateLeft_api_Pair #[x0_, x2] h fun x4 h3 =>
 K (.tuple #[]) h3
theorem m_slices_rotateRight_api_Pair_ok {x0_ x1_ : Value} {h : Heap} {K : Kt} (hh : m_slices_rotateRight_api_Pair x0_ x1_ h K) : Ca f_slices_rotateRight_api_Pair #[x0_, x1_] h K := cv Tryz.func184 (by kernel_rfl) hh
/- slices.pdqsortOrdered[uint32] -/
def m_slices_pdqsortOrdered_uint32_j56 (x0_ x1_ x2_ x3_ x10_ x11_ : Value) (h : Heap) (nx2 : Nt) (K : Kt) : Prop :=
 Ca f_slices_partitionOrdered_uint32 #[x0_, x1_, x2_, x11_] h fun x58 h57 =>
 ExP x58 0 fun x59 =>
 ExP x58 1 fun x60 =>
 BiP .sub x59 x1_ fun x61 =>
 BiP .sub x2_ x59 fun x62 =>
 BiP .quo x10_ (.int .i64 8) fun x63 =>
 BiP .lss x61 x62 fun x64 =>
 CdP x64
 (BiP .geq x61 x63 fun x65 =>
 Ca f_slices_pdqsortOrdered_uint32 #[x0_, x1_, x59, x3_] h57 fun x67 h66 =>
 BiP .add x59 (.int .i64 1) fun x68 =>
 nx2 [x68, x2_, x3_, x65, x60] h66)
 (BiP .geq x62 x63 fun x69 =>
 BiP .add x59 (.int .i64 1) fun x70 =>
 Ca f_slices_pdqsortOrdered_uint32 #[x0_, x70, x2_, x3_] h57 fun x72 h71 =>
 nx2 [x1_, x59, x3_, x69, x60] h71)
def m_slices_pdqsortOrdered_uint32_j53 (x0_ x1_ x2_ x3_ x8_ x9_ x10_ x11_ x87_ : Value) (h : Heap) (nx2 : Nt) (K : Kt) : Prop :=
 CdP x87_
 (Ca f_slices_partitionEqualOrdered_uint32 #[x0_, x1_, x2_, x11_] h fun x55 h54 =>
 nx2 [x55, x2_, x3_, x8_, x9_] h54)
 (m_slices_pdqsortOrdered_uint32_j56 x0_ x1_ x2_ x3_ x10_ x11_ h nx2 K)
def m_slices_pdqsortOrdered_uint32_j39 (x0_ x1_ x2_ x3_ x8_ x9_ x10_ x11_ : Value) (h : Heap) (nx2 : Nt) (K : Kt) : Prop :=
 BiP .gtr x1_ (.int .i64 0) fun x42 =>
 CdP x42
 (BiP .sub x1_ (.int .i64 1) fun x43 =>
 Ei 1 x0_ x43 h fun x45 =>
 Ei 1 x0_ x11_ h fun x47 =>
 Ca f_cmp_Less_uint32 #[x45, x47] h fun x49 h48 =>
 True ∧ (UnP .not x49 fun x50 =>
 m_slices_pdqsortOrdered_uint32_j53 x0_ x1_ x2_ x3_ x8_ x9_ x10_ x11_ x50 h48 nx2 K))
 (m_slices_pdqsortOrdered_uint32_j53 x0_ x1_ x2_ x3_ x8_ x9_ x10_ x11_ (.bool false) h nx2 K)
def m_slices_pdqsortOrdered_uint32_j36 (x0_ x1_ x2_ x3_ x8_ x9_ x10_ x11_ x68_ : Value) (h : Heap) (nx2 : Nt) (K : Kt) : Prop :=
 CdP x68_
 (Ca f_slices_partialInsertionSortOrdered_uint32 #[x0_, x1_, x2_] h fun x38 h37 =>
 CdP x38
 (K (.tuple #[]) h37)
 (m_slices_pdqsortOrdered_uint32_j39 x0_ x1_ x2_ x3_ x8_ x9_ x10_ x11_ h37 nx2 K))
 (m_slices_pdqsortOrdered_uint32_j39 x0_ x1_ x2_ x3_ x8_ x9_ x10_ x11_ h nx2 K)
def m_slices_pdqsortOrdered_uint32_j27 (x0_ x1_ x2_ x3_ x8_ x9_ x10_ x11_ x12_ : Value) (h : Heap) (nx2 : Nt) (K : Kt) : Prop :=
 CdP x8_
 (CdP x9_
 (BiP .eql x12_ (.int .i64 1) fun x31 =>
 m_slices_pdqsortOrdered_uint32_j36 x0_ x1_ x2_ x3_ x8_ x9_ x10_ x11_ x31 h nx2 K)
 (m_slices_pdqsortOrdered_uint32_j36 x0_ x1_ x2_ x3_ x8_ x9_ x10_ x11_ (.bool false) h nx2 K))
 (m_slices_pdqsortOrdered_uint32_j36 x0_ x1_ x2_ x3_ x8_ x9_ x10_ x11_ (.bool false) h nx2 K)
def m_slices_pdqsortOrdered_uint32_j15 (x0_ x1_ x2_ x3_ x8_ x9_ x10_ : Value) (h : Heap) (nx2 : Nt) (K : Kt) : Prop :=
 Ca f_slices_choosePivotOrdered_uint32 #[x0_, x1_, x2_] h fun x17 h16 =>
 ExP x17 0 fun x18 =>
 ExP x17 1 fun x19 =>
 BiP .eql x19 (.int .i64 2) fun x21 =>
 CdP x21
 (Ca f_slices_reverseRangeOrdered_uint32 #[x0_, x1_, x2_] h16 fun x23 h22 =>
 BiP .sub x2_ (.int .i64 1) fun x24 =>
 BiP .sub x18 x1_ fun x25 =>
 BiP .sub x24 x25 fun x26 =>
 m_slices_pdqsortOrdered_uint32_j27 x0_ x1_ x2_ x3_ x8_ x9_ x10_ x26 (.int .i64 1) h22 nx2 K)
 (m_slices_pdqsortOrdered_uint32_j27 x0_ x1_ x2_ x3_ x8_ x9_ x10_ x18 x19 h16 nx2 K)
def m_slices_pdqsortOrdered_uint32_l1 (vs : List Value) (x0_ : Value) (h : Heap) (nx2 : Nt) (K : Kt) : Prop :=
 BiP .sub (gv vs 1) (gv vs 0) fun x3 =>
 BiP .leq x3 (.int .i64 12) fun x4 =>
 CdP x4
 (Ca f_slices_insertionSortOrdered_uint32 #[x0_, (gv vs 0), (gv vs 1)] h fun x6 h5 =>
 K (.tuple #[]) h5)
 (BiP .eql (gv vs 2) (.int .i64 0) fun x7 =>
 CdP x7
 (Ca f_slices_heapSortOrdered_uint32 #[x0_, (gv vs 0), (gv vs 1)] h fun x9 h8 =>
 K (.tuple #[]) h8)
 (UnP .not (gv vs 3) fun x11 =>
 CdP x11
 (Ca f_slices_breakPatternsOrdered_uint32 #[x0_, (gv vs 0), (gv vs 1)] h fun x13 h12 =>
 BiP .sub (gv vs 2) (.int .i64 1) fun x14 =>
 m_slices_pdqsortOrdered_uint32_j15 x0_ (gv vs 0) (gv vs 1) x14 (gv vs 3) (gv vs 4) x3 h12 nx2 K)
 (m_slices_pdqsortOrdered_uint32_j15 x0_ (gv vs 0) (gv vs 1) (gv vs 2) (gv vs 3) (gv vs 4) x3 h nx2 K)))
def m_slices_pdqsortOrdered_uint32 (x0_ x1_ x2_ x3_ : Value) (h : Heap) (K : Kt) : Prop :=
 LoP (fun vt h nx2 => m_slices_pdqsortOrdered_uint32_l1 vt x0_ h nx2 K) [x1_, x2_, x3_, (.bool true), (.bool true)] h
theorem m_slices_pdqsortOrdered_uint32_ok {x0_ x1_ x2_ x3_ : Value} {h : Heap} {K : Kt} (hh : m_slices_pdqsortOrdered_uint32 x0_ x1_ x2_ x3_ h K) : Ca f_slices_pdqsortOrdered_uint32 #[x0_, x1_, x2_, x3_] h K := cv Tryz.func187 (by kernel_rfl) hh
/- slices.Collect[uint32] -/
def m_slices_Collect_uint32 (x0_ : Value) (h : Heap) (K : Kt) : Prop :=
 Ca f_slices_AppendSeq_uint32 #[(.slice none 0 0), x0_] h fun x2 h1 =>
 K x2 h1
theorem m_slices_Collect_uint32_ok {x0_ : Value} {h : Heap} {K : Kt} (hh : m_slices_Collect_uint32 x0_ h K) : Ca f_slices_Collect_uint32 #[x0_] h K := cv Tryz.func189 (by kernel_rfl) hh
/- maps.Keys[map[uint32]int,uint32,int]$1 -/
def m_maps_Keys_map_1_l4 (vs : List Value) (x0_ x5_ : Value) (h : Heap) (nx5 : Nt) (K : Kt) : Prop :=
 VH Pg (Instr.next x5_ false t_tuple_2e38e7) h fun x7 h6 =>
 ExP x7 0 fun x8 =>
 CdP x8
 (VH Pg (Instr.entry x5_) h6 fun x10 h9 =>
 ExP x10 0 fun x11 =>
 CvH Pg x0_ #[x11] h9 fun x13 h12 =>
 UnP .not x13 fun x14 =>
 CdP x14
 (K (.tuple #[]) h12)
 (nx5 [] h12))
 (K (.tuple #[]) h6)
def m_maps_Keys_map_1 (x0_ x1_ : Value) (h : Heap) (K : Kt) : Prop :=
 LdP x1_ h fun x1 =>
 VH Pg (Instr.range t_M_uint32_int x1) h fun x3 h2 =>
 LoP (fun vt h nx5 => m_maps_Keys_map_1_l4 vt x0_ x3 h nx5 K) [] h2
theorem m_maps_Keys_map_1_ok {x0_ x1_ : Value} {h : Heap} {K : Kt} (hh : m_maps_Keys_map_1 x0_ x1_ h K) : Ca f_maps_Keys_map_1 #[x0_, x1_] h K := cv Tryz.func190 (by kernel_rfl) hh
/- slices.ContainsFunc[[]sluicegate/api.Pair,sluicegate/api.Pair] -/
def m_slices_ContainsFunc_api_Pair (x0_ x1_ : Value) (h : Heap) (K : Kt) : Prop :=
 Ca f_slices_IndexFunc_api_Pair #[x0_, x1_] h fun x2 h1 =>
 BiP .geq x2 (.int .i64 0) fun x3 =>
 K x3 h1
theorem m_slices_ContainsFunc_api_Pair_ok {x0_ x1_ : Value} {h : Heap} {K : Kt} (hh : m_slices_ContainsFunc_api_Pair x0_ x1_ h K) : Ca f_slices_ContainsFunc_api_Pair #[x0_, x1_] h K := cv Tryz.func192 (by kernel_rfl) hh
/- slices.ContainsFunc[[]string,string] -/
def m_slices_ContainsFunc_string (x0_ x1_ : Value) (h : Heap) (K : Kt) : Prop :=
 Ca f_slices_IndexFunc_string #[x0_, x1_] h fun x2 h1 =>
 BiP .geq x2 (.int .i64 0) fun x3 =>
 K x3 h1
theorem m_slices_ContainsFunc_string_ok {x0_ x1_ : Value} {h : Heap} {K : Kt} (hh : m_slices_ContainsFunc_string x0_ x1_ h K) : Ca f_slices_ContainsFunc_string #[x0_, x1_] h K := cv Tryz.func197 (by kernel_rfl) hh
/- slices.ContainsFunc[[]sluicegate/api.Msg,sluicegate/api.Msg] -/
def m_slices_ContainsFunc_api_Msg (x0_ x1_ : Value) (h : Heap) (K : Kt) : Prop :=
 Ca f_slices_IndexFunc_api_Msg #[x0_, x1_] h fun x2 h1 =>
 BiP .geq x2 (.int .i64 0) fun x3 =>
 K x3 h1
theorem m_slices_ContainsFunc_api_Msg_ok {x0_ x1_ : Value} {h : Heap} {K : Kt} (hh : m_slices_ContainsFunc_api_Msg x0_ x1_ h K) : Ca f_slices_ContainsFunc_api_Msg #[x0_, x1_] h K := cv Tryz.func200 (by kernel_rfl) hh
/- slices.ContainsFunc[[]byte,byte] -/
def m_slices_ContainsFunc_byte (x0_ x1_ : Value) (h : Heap) (K : Kt) : Prop :=
 Ca f_slices_IndexFunc_byte #[x0_, x1_] h fun x2 h1 =>
 BiP .geq x2 (.int .i64 0) fun x3 =>
 K x3 h1
theorem m_slices_ContainsFunc_byte_ok {x0_ x1_ : Value} {h : Heap} {K : Kt} (hh : m_slices_ContainsFunc_byte x0_ x1_ h K) : Ca f_slices_ContainsFunc_byte #[x0_, x1_] h K := cv Tryz.func214 (by kernel_rfl) hh
/- slices.rotateRight[sluicegate/api.Msg] -/
def m_slices_rotateRight_api_Msg (x0_ x1_ : Value) (h : Heap) (K : Kt) : Prop :=
 LenP (some true) x0_ fun x1 =>
 BiP .sub x1 x1_ fun x2 =>
 Ca f_slices_rotateLeft_api_Msg #[x0_, x2] h fun x4 h3 =>
 K (.tuple #[]) h3
theorem m_slices_rotateRight_api_Msg_ok {x0_ x1_ : Value} {h : Heap} {K : Kt} (hh : m_slices_rotateRight_api_Msg x0_ x1_ h K) : Ca f_slices_rotateRight_api_Msg #[x0_, x1_] h K := cv Tryz.func219 (by kernel_rfl) hh
/- slices.rotateLeft[sluicegate/api.Pair] -/
def m_slices_rotateLeft_api_Pair (x0_ x1_ : Value) (h : Heap) (K : Kt) : Prop :=
 SlP 2 x0_ none (some x1_) fun x1 =>
 Ca f_slices_Reverse_api_Pair #[x1] h fun x3 h2 =>
 SlP 2 x0_ (some x1_) none fun x4 =>
 Ca f_slices_Reverse_api_Pair #[x4] h2 fun x6 h5 =>
 Ca f_slices_Reverse_api_Pair #[x0_] h5 fun x8 h7 =>
 K (.tuple #[]) h7
theorem m_slices_rotateLeft_api_Pair_ok {x0_ x1_ : Value} {h : Heap} {K : Kt} (hh : m_slices_rotateLeft_api_Pair x0_ x1_ h K) : Ca f_slices_rotateLeft_api_Pair #[x0_, x1_] h K := cv Tryz.func226 (by kernel_rfl) hh
/- slices.insertionSortOrdered[uint32] -/
def m_slices_insertionSortOrdered_uint32_j21 (x0_ x1_ x2_ x6_ x7_ : Value) (h : Heap) (nx3 : Nt) (nx7 : Nt) (K : Kt) : Prop :=
 BiP .sub x7_ (.int .i64 1) fun x23 =>
 BiP .sub x7_ (.int .i64 1) fun x24 =>
 Ei 1 x0_ x24 h fun x26 =>
 Ei 1 x0_ x7_ h fun x28 =>
 IxP 1 x0_ x7_ fun x29 =>
 StP x29 x26 h fun h30 =>
 True ∧ (IxP 1 x0_ x23 fun x31 =>
 StP x31 x28 h30 fun h32 =>
 True ∧ (BiP .sub x7_ (.int .i64 1) fun x33 =>
 nx7 [x33] h32))
def m_slices_insertionSortOrdered_uint32_j34 (x0_ x1_ x2_ x6_ : Value) (h : Heap) (nx3 : Nt) (K : Kt) : Prop :=
 BiP .add x6_ (.int .i64 1) fun x35 =>
 nx3 [x35] h
def m_slices_insertionSortOrdered_uint32_j20 (x0_ x1_ x2_ x6_ x7_ x30_ : Value) (h : Heap) (nx3 : Nt) (nx7 : Nt) (K : Kt) : Prop :=
 CdP x30_
 (m_slices_insertionSortOrdered_uint32_j21 x0_ x1_ x2_ x6_ x7_ h nx3 nx7 K)
 (m_slices_insertionSortOrdered_uint32_j34 x0_ x1_ x2_ x6_ h nx3 K)
def m_slices_insertionSortOrdered_uint32_l6 (vs : List Value) (x0_ x1_ x2_ x6_ : Value) (h : Heap) (nx3 : Nt) (nx7 : Nt) (K : Kt) : Prop :=
 BiP .gtr (gv vs 0) x1_ fun x10 =>
 CdP x10
 (Ei 1 x0_ (gv vs 0) h fun x12 =>
 BiP .sub (gv vs 0) (.int .i64 1) fun x13 =>
 Ei 1 x0_ x13 h fun x15 =>
 Ca f_cmp_Less_uint32 #[x12, x15] h fun x17 h16 =>
 True ∧ (m_slices_insertionSortOrdered_uint32_j20 x0_ x1_ x2_ x6_ (gv vs 0) x17 h16 nx3 nx7 K))
 (m_slices_insertionSortOrdered_uint32_j20 x0_ x1_ x2_ x6_ (gv vs 0) (.bool false) h nx3 nx7 K)
def m_slices_insertionSortOrdered_uint32_l2 (vs : List Value) (x0_ x1_ x2_ : Value) (h : Heap) (nx3 : Nt) (K : Kt) : Prop :=
 BiP .lss (gv vs 0) x2_ fun x4 =>
 CdP x4
 (LoP (fun vt h nx7 => m_slices_insertionSortOrdered_uint32_l6 vt x0_ x1_ x2_ (gv vs 0) h nx3 nx7 K) [(gv vs 0)] h)
 (K (.tuple #[]) h)
def m_slices_insertionSortOrdered_uint32 (x0_ x1_ x2_ : Value) (h : Heap) (K : Kt) : Prop :=
 BiP .add x1_ (.int .i64 1) fun x1 =>
 LoP (fun vt h nx3 => m_slices_insertionSortOrdered_uint32_l2 vt x0_ x1_ x2_ h nx3 K) [x1] h
theorem m_slices_insertionSortOrdered_uint32_ok {x0_ x1_ x2_ : Value} {h : Heap} {K : Kt} (hh : m_slices_insertionSortOrdered_uint32 x0_ x1_ x2_ h K) : Ca f_slices_insertionSortOrdered_uint32 #[x0_, x1_, x2_] h K := cv Tryz.func227 (by kernel_rfl) hh
/- slices.heapSortOrdered[uint32] -/
def m_slices_heapSortOrdered_uint32_l14 (vs : List Value) (x0_ x6_ : Value) (h : Heap) (nx15 : Nt) (K : Kt) : Prop :=
 BiP .geq (gv vs 0) (.int .i64 0) fun x16 =>
 CdP x16
 (BiP .add x6_ (gv vs 0) fun x19 =>
 BiP .add x6_ (gv vs 0) fun x20 =>
 Ei 1 x0_ x20 h fun x22 =>
 Ei 1 x0_ x6_ h fun x24 =>
 IxP 1 x0_ x6_ fun x25 =>
 StP x25 x22 h fun h26 =>
 True ∧ (IxP 1 x0_ x19 fun x27 =>
 StP x27 x24 h26 fun h28 =>
 True ∧ (Ca f_slices_siftDownOrdered_uint32 #[x0_, (.int .i64 0), (gv vs 0), x6_] h28 fun x30 h29 =>
 BiP .sub (gv vs 0) (.int .i64 1) fun x31 =>
 nx15 [x31] h29)))
 (K (.tuple #[]) h)
def m_slices_heapSortOrdered_uint32_j12 (x0_ x6_ x8_ : Value) (h : Heap) (K : Kt) : Prop :=
 BiP .sub x8_ (.int .i64 1) fun x13 =>
 LoP (fun vt h nx15 => m_slices_heapSortOrdered_uint32_l14 vt x0_ x6_ h nx15 K) [x13] h
def m_slices_heapSortOrdered_uint32_l5 (vs : List Value) (x0_ x6_ x8_ : Value) (h : Heap) (nx6 : Nt) (K : Kt) : Prop :=
 BiP .geq (gv vs 0) (.int .i64 0) fun x7 =>
 CdP x7
 (Ca f_slices_siftDownOrdered_uint32 #[x0_, (gv vs 0), x8_, x6_] h fun x10 h9 =>
 BiP .sub (gv vs 0) (.int .i64 1) fun x11 =>
 nx6 [x11] h9)
 (m_slices_heapSortOrdered_uint32_j12 x0_ x6_ x8_ h K)
def m_slices_heapSortOrdered_uint32 (x0_ x1_ x2_ : Value) (h : Heap) (K : Kt) : Prop :=
 BiP .sub x2_ x1_ fun x1 =>
 BiP .sub x1 (.int .i64 1) fun x3 =>
 BiP .quo x3 (.int .i64 2) fun x4 =>
 LoP (fun vt h nx6 => m_slices_heapSortOrdered_uint32_l5 vt x0_ x1_ x1 h nx6 K) [x4] h
theorem m_slices_heapSortOrdered_uint32_ok {x0_ x1_ x2_ : Value} {h : Heap} {K : Kt} (hh : m_slices_heapSortOrdered_uint32 x0_ x1_ x2_ h K) : Ca f_slices_heapSortOrdered_uint32 #[x0_, x1_, x2_] h K := cv Tryz.func228 (by kernel_rfl) hh
/- slices.breakPatternsOrdered[uint32] -/
def m_slices_breakPatternsOrdered_uint32_j40 (x0_ x1_ x6_ x7_ x8_ x9_ : Value) (h : Heap) (nx14 : Nt) (K : Kt) : Prop :=
 BiP .add x9_ (.int .i64 1) fun x41 =>
 nx14 [x41] h
def m_slices_breakPatternsOrdered_uint32_j29 (x0_ x1_ x6_ x7_ x8_ x9_ x10_ : Value) (h : Heap) (nx14 : Nt) (K : Kt) : Prop :=
 BiP .add x1_ x10_ fun x30 =>
 BiP .add x1_ x10_ fun x31 =>
 Ei 1 x0_ x31 h fun x33 =>
 Ei 1 x0_ x9_ h fun x35 =>
 IxP 1 x0_ x9_ fun x36 =>
 StP x36 x33 h fun h37 =>
 True ∧ (IxP 1 x0_ x30 fun x38 =>
 StP x38 x35 h37 fun h39 =>
 True ∧ (m_slices_breakPatternsOrdered_uint32_j40 x0_ x1_ x6_ x7_ x8_ x9_ h39 nx14 K))
def m_slices_breakPatternsOrdered_uint32_l13 (vs : List Value) (x0_ x1_ x6_ x7_ x8_ : Value) (h : Heap) (nx14 : Nt) (K : Kt) : Prop :=
 BiP .quo x6_ (.int .i64 4) fun x15 =>
 BiP .mul x15 (.int .i64 2) fun x16 =>
 BiP .add x1_ x16 fun x17 =>
 BiP .add x17 (.int .i64 1) fun x18 =>
 BiP .leq (gv vs 0) x18 fun x19 =>
 CdP x19
 (Ca f_slices_xorshift_Next #[x7_] h fun x22 h21 =>
 BiP .sub x8_ (.int .u64 1) fun x23 =>
 BiP .and x22 x23 fun x24 =>
 CvP .i64 x24 fun x25 =>
 BiP .geq x25 x6_ fun x27 =>
 CdP x27
 (BiP .sub x25 x6_ fun x28 =>
 m_slices_breakPatternsOrdered_uint32_j29 x0_ x1_ x6_ x7_ x8_ (gv vs 0) x28 h21 nx14 K)
 (m_slices_breakPatternsOrdered_uint32_j29 x0_ x1_ x6_ x7_ x8_ (gv vs 0) x25 h21 nx14 K))
 (K (.tuple #[]) h)
def m_slices_breakPatternsOrdered_uint32 (x0_ x1_ x2_ : Value) (h : Heap) (K : Kt) : Prop :=
 BiP .sub x2_ x1_ fun x1 =>
 BiP .geq x1 (.int .i64 8) fun x2 =>
 CdP x2
 (CvP .u64 x1 fun x3 =>
 AlP t_slices_xorshift zt_slices_xorshift h fun x5 h4 =>
 StP x5 x3 h4 fun h6 =>
 Ca f_slices_nextPowerOfTwo #[x1] h6 fun x8 h7 =>
 BiP .quo x1 (.int .i64 4) fun x9 =>
 BiP .mul x9 (.int .i64 2) fun x10 =>
 BiP .add x1_ x10 fun x11 =>
 BiP .sub x11 (.int .i64 1) fun x12 =>
 LoP (fun vt h nx14 => m_slices_breakPatternsOrdered_uint32_l13 vt x0_ x1_ x1 x5 x8 h nx14 K) [x12] h7)
 (K (.tuple #[]) h)
theorem m_slices_breakPatternsOrdered_uint32_ok {x0_ x1_ x2_ : Value} {h : Heap} {K : Kt} (hh : m_slices_breakPatternsOrdered_uint32 x0_ x1_ x2_ h K) : Ca f_slices_breakPatternsOrdered_uint32 #[x0_, x1_, x2_] h K := cv Tryz.func229 (by kernel_rfl) hh
/- slices.choosePivotOrdered[uint32] -/
def m_slices_choosePivotOrdered_uint32_j26 (x9_ x11_ : Value) (h : Heap) (K : Kt) : Prop :=
 LdP x9_ h fun x27 =>
 BiP .eql x27 (.int .i64 0) fun x28 =>
 CdP x28
 (K (.tuple #[x11_, (.int .i64 1)]) h)
 (BiP .eql x27 (.int .i64 12) fun x29 =>
 CdP x29
 (K (.tuple #[x11_, (.int .i64 2)]) h)
 (K (.tuple #[x11_, (.int .i64 0)]) h))
def m_slices_choosePivotOrdered_uint32_j23 (x0_ x9_ x10_ x11_ x12_ : Value) (h : Heap) (K : Kt) : Prop :=
 Ca f_slices_medianOrdered_uint32 #[x0_, x10_, x11_, x12_, x9_] h fun x25 h24 =>
 m_slices_choosePivotOrdered_uint32_j26 x9_ x25 h24 K
def m_slices_choosePivotOrdered_uint32 (x0_ x1_ x2_ : Value) (h : Heap) (K : Kt) : Prop :=
 BiP .sub x2_ x1_ fun x1 =>
 AlP t_int zt_int h fun x3 h2 =>
 BiP .quo x1 (.int .i64 4) fun x4 =>
 BiP .mul x4 (.int .i64 1) fun x5 =>
 BiP .add x1_ x5 fun x6 =>
 BiP .quo x1 (.int .i64 4) fun x7 =>
 BiP .mul x7 (.int .i64 2) fun x8 =>
 BiP .add x1_ x8 fun x9 =>
 BiP .quo x1 (.int .i64 4) fun x10 =>
 BiP .mul x10 (.int .i64 3) fun x11 =>
 BiP .add x1_ x11 fun x12 =>
 BiP .geq x1 (.int .i64 8) fun x14 =>
 CdP x14
 (BiP .geq x1 (.int .i64 50) fun x16 =>
 CdP x16
 (Ca f_slices_medianAdjacentOrdered_uint32 #[x0_, x6, x3] h2 fun x18 h17 =>
 Ca f_slices_medianAdjacentOrdered_uint32 #[x0_, x9, x3] h17 fun x20 h19 =>
 Ca f_slices_medianAdjacentOrdered_uint32 #[x0_, x12, x3] h19 fun x22 h21 =>
 m_slices_choosePivotOrdered_uint32_j23 x0_ x3 x18 x20 x22 h21 K)
 (m_slices_choosePivotOrdered_uint32_j23 x0_ x3 x6 x9 x12 h2 K))
 (m_slices_choosePivotOrdered_uint32_j26 x3 x9 h2 K)
theorem m_slices_choosePivotOrdered_uint32_ok {x0_ x1_ x2_ : Value} {h : Heap} {K : Kt} (hh : m_slices_choosePivotOrdered_uint32 x0_ x1_ x2_ h K) : Ca f_slices_choosePivotOrdered_uint32 #[x0_, x1_, x2_] h K := cv Tryz.func230 (by kernel_rfl) hh
/- slices.reverseRangeOrdered[uint32] -/
def m_slices_reverseRangeOrdered_uint32_l2 (vs : List Value) (x0_ : Value) (h : Heap) (nx3 : Nt) (K : Kt) : Prop :=
 BiP .lss (gv vs 0) (gv vs 1) fun x4 =>
 CdP x4
 (Ei 1 x0_ (gv vs 1) h fun x7 =>
 Ei 1 x0_ (gv vs 0) h fun x9 =>
 IxP 1 x0_ (gv vs 0) fun x10 =>
 StP x10 x7 h fun h11 =>
 True ∧ (IxP 1 x0_ (gv vs 1) fun x12 =>
 StP x12 x9 h11 fun h13 =>
 True ∧ (BiP .add (gv vs 0) (.int .i64 1) fun x14 =>
 BiP .sub (gv vs 1) (.int .i64 1) fun x15 =>
 nx3 [x14, x15] h13)))
 (K (.tuple #[]) h)
def m_slices_reverseRangeOrdered_uint32 (x0_ x1_ x2_ : Value) (h : Heap) (K : Kt) : Prop :=
 BiP .sub x2_ (.int .i64 1) fun x1 =>
 LoP (fun vt h nx3 => m_slices_reverseRangeOrdered_uint32_l2 vt x0_ h nx3 K) [x1_, x1] h
theorem m_slices_reverseRangeOrdered_uint32_ok {x0_ x1_ x2_ : Value} {h : Heap} {K : Kt} (hh : m_slices_reverseRangeOrdered_uint32 x0_ x1_ x2_ h K) : Ca f_slices_reverseRangeOrdered_uint32 #[x0_, x1_, x2_] h K := cv Tryz.func231 (by kernel_rfl) hh
/- slices.partialInsertionSortOrdered[uint32] -/
def m_slices_partialInsertionSortOrdered_uint32_j24 (x0_ x1_ x2_ x6_ x7_ x8_ : Value) (h : Heap) (nx4 : Nt) (nx9 : Nt) (K : Kt) : Prop :=
 BiP .add x7_ (.int .i64 1) fun x25 =>
 nx9 [x25] h
def m_slices_partialInsertionSortOrdered_uint32_j95 (x0_ x1_ x2_ x6_ x7_ x8_ : Value) (h : Heap) (nx4 : Nt) (K : Kt) : Prop :=
 BiP .add x8_ (.int .i64 1) fun x96 =>
 nx4 [x6_, x7_, x96] h
def m_slices_partialInsertionSortOrdered_uint32_l72 (vs : List Value) (x0_ x1_ x2_ x6_ x7_ x8_ : Value) (h : Heap) (nx4 : Nt) (nx73 : Nt) (K : Kt) : Prop :=
 BiP .lss (gv vs 0) x2_ fun x74 =>
 CdP x74
 (Ei 1 x0_ (gv vs 0) h fun x77 =>
 BiP .sub (gv vs 0) (.int .i64 1) fun x78 =>
 Ei 1 x0_ x78 h fun x80 =>
 Ca f_cmp_Less_uint32 #[x77, x80] h fun x82 h81 =>
 True ∧ (UnP .not x82 fun x83 =>
 CdP x83
 (m_slices_partialInsertionSortOrdered_uint32_j95 x0_ x1_ x2_ x6_ x7_ x8_ h81 nx4 K)
 (BiP .sub (gv vs 0) (.int .i64 1) fun x84 =>
 BiP .sub (gv vs 0) (.int .i64 1) fun x85 =>
 Ei 1 x0_ x85 h81 fun x87 =>
 Ei 1 x0_ (gv vs 0) h81 fun x89 =>
 IxP 1 x0_ (gv vs 0) fun x90 =>
 StP x90 x87 h81 fun h91 =>
 True ∧ (IxP 1 x0_ x84 fun x92 =>
 StP x92 x89 h91 fun h93 =>
 True ∧ (BiP .add (gv vs 0) (.int .i64 1) fun x94 =>
 nx73 [x94] h93)))))
 (m_slices_partialInsertionSortOrdered_uint32_j95 x0_ x1_ x2_ x6_ x7_ x8_ h nx4 K)
def m_slices_partialInsertionSortOrdered_uint32_j68 (x0_ x1_ x2_ x6_ x7_ x8_ : Value) (h : Heap) (nx4 : Nt) (K : Kt) : Prop :=
 BiP .sub x2_ x7_ fun x69 =>
 BiP .geq x69 (.int .i64 2) fun x70 =>
 CdP x70
 (BiP .add x7_ (.int .i64 1) fun x71 =>
 LoP (fun vt h nx73 => m_slices_partialInsertionSortOrdered_uint32_l72 vt x0_ x1_ x2_ x6_ x7_ x8_ h nx4 nx73 K) [x71] h)
 (m_slices_partialInsertionSortOrdered_uint32_j95 x0_ x1_ x2_ x6_ x7_ x8_ h nx4 K)
def m_slices_partialInsertionSortOrdered_uint32_l45 (vs : List Value) (x0_ x1_ x2_ x6_ x7_ x8_ : Value) (h : Heap) (nx4 : Nt) (nx46 : Nt) (K : Kt) : Prop :=
 BiP .geq (gv vs 0) (.int .i64 1) fun x47 =>
 CdP x47
 (Ei 1 x0_ (gv vs 0) h fun x50 =>
 BiP .sub (gv vs 0) (.int .i64 1) fun x51 =>
 Ei 1 x0_ x51 h fun x53 =>
 Ca f_cmp_Less_uint32 #[x50, x53] h fun x55 h54 =>
 True ∧ (UnP .not x55 fun x56 =>
 CdP x56
 (m_slices_partialInsertionSortOrdered_uint32_j68 x0_ x1_ x2_ x6_ x7_ x8_ h54 nx4 K)
 (BiP .sub (gv vs 0) (.int .i64 1) fun x57 =>
 BiP .sub (gv vs 0) (.int .i64 1) fun x58 =>
 Ei 1 x0_ x58 h54 fun x60 =>
 Ei 1 x0_ (gv vs 0) h54 fun x62 =>
 IxP 1 x0_ (gv vs 0) fun x63 =>
 StP x63 x60 h54 fun h64 =>
 True ∧ (IxP 1 x0_ x57 fun x65 =>
 StP x65 x62 h64 fun h66 =>
 True ∧ (BiP .sub (gv vs 0) (.int .i64 1) fun x67 =>
 nx46 [x67] h66)))))
 (m_slices_partialInsertionSortOrdered_uint32_j68 x0_ x1_ x2_ x6_ x7_ x8_ h nx4 K)
def m_slices_partialInsertionSortOrdered_uint32_j26 (x0_ x1_ x2_ x6_ x7_ x8_ : Value) (h : Heap) (nx4 : Nt) (K : Kt) : Prop :=
 BiP .eql x7_ x2_ fun x27 =>
 CdP x27
 (K (.bool true) h)
 (BiP .sub x2_ x1_ fun x28 =>
 BiP .lss x28 (.int .i64 50) fun x29 =>
 CdP x29
 (K (.bool false) h)
 (BiP .sub x7_ (.int .i64 1) fun x31 =>
 BiP .sub x7_ (.int .i64 1) fun x32 =>
 Ei 1 x0_ x32 h fun x34 =>
 Ei 1 x0_ x7_ h fun x36 =>
 IxP 1 x0_ x7_ fun x37 =>
 StP x37 x34 h fun h38 =>
 True ∧ (IxP 1 x0_ x31 fun x39 =>
 StP x39 x36 h38 fun h40 =>
 True ∧ (BiP .sub x7_ x1_ fun x42 =>
 BiP .geq x42 (.int .i64 2) fun x43 =>
 CdP x43
 (BiP .sub x7_ (.int .i64 1) fun x44 =>
 LoP (fun vt h nx46 => m_slices_partialInsertionSortOrdered_uint32_l45 vt x0_ x1_ x2_ x6_ x7_ x8_ h nx4 nx46 K) [x44] h40)
 (m_slices_partialInsertionSortOrdered_uint32_j68 x0_ x1_ x2_ x6_ x7_ x8_ h40 nx4 K)))))
def m_slices_partialInsertionSortOrdered_uint32_j23 (x0_ x1_ x2_ x6_ x7_ x8_ x32_ : Value) (h : Heap) (nx4 : Nt) (nx9 : Nt) (K : Kt) : Prop :=
 CdP x32_
 (m_slices_partialInsertionSortOrdered_uint32_j24 x0_ x1_ x2_ x6_ x7_ x8_ h nx4 nx9 K)
 (m_slices_partialInsertionSortOrdered_uint32_j26 x0_ x1_ x2_ x6_ x7_ x8_ h nx4 K)
def m_slices_partialInsertionSortOrdered_uint32_l8 (vs : List Value) (x0_ x1_ x2_ x6_ x8_ : Value) (h : Heap) (nx4 : Nt) (nx9 : Nt) (K : Kt) : Prop :=
 BiP .lss (gv vs 0) x2_ fun x12 =>
 CdP x12
 (Ei 1 x0_ (gv vs 0) h fun x14 =>
 BiP .sub (gv vs 0) (.int .i64 1) fun x15 =>
 Ei 1 x0_ x15 h fun x17 =>
 Ca f_cmp_Less_uint32 #[x14, x17] h fun x19 h18 =>
 True ∧ (UnP .not x19 fun x20 =>
 m_slices_partialInsertionSortOrdered_uint32_j23 x0_ x1_ x2_ x6_ (gv vs 0) x8_ x20 h18 nx4 nx9 K))
 (m_slices_partialInsertionSortOrdered_uint32_j23 x0_ x1_ x2_ x6_ (gv vs 0) x8_ (.bool false) h nx4 nx9 K)
def m_slices_partialInsertionSortOrdered_uint32_j97 (h : Heap) (K : Kt) : Prop :=
 K (.bool false) h
def m_slices_partialInsertionSortOrdered_uint32_l3 (vs : List Value) (x0_ x1_ x2_ : Value) (h : Heap) (nx4 : Nt) (K : Kt) : Prop :=
 BiP .lss (gv vs 2) (.int .i64 5) fun x5 =>
 CdP x5
 (LoP (fun vt h nx9 => m_slices_partialInsertionSortOrdered_uint32_l8 vt x0_ x1_ x2_ (gv vs 0) (gv vs 2) h nx4 nx9 K) [(gv vs 1)] h)
 (m_slices_partialInsertionSortOrdered_uint32_j97 h K)
def m_slices_partialInsertionSortOrdered_uint32 (x0_ x1_ x2_ : Value) (h : Heap) (K : Kt) : Prop :=
 BiP .add x1_ (.int .i64 1) fun x1 =>
 LoP (fun vt h nx4 => m_slices_partialInsertionSortOrdered_uint32_l3 vt x0_ x1_ x2_ h nx4 K) [(.bool false), x1, (.int .i64 0)] h
theorem m_slices_partialInsertionSortOrdered_uint32_ok {x0_ x1_ x2_ : Value} {h : Heap} {K : Kt} (hh : m_slices_partialInsertionSortOrdered_uint32 x0_ x1_ x2_ h K) : Ca f_slices_partialInsertionSortOrdered_uint32 #[x0_, x1_, x2_] h K := cv Tryz.func232 (by kernel_rfl) hh
/- cmp.Less[uint32] -/
def m_cmp_Less_uint32_j14 (x4_ : Value) (h : Heap) (K : Kt) : Prop :=
 K x4_ h
def m_cmp_Less_uint32 (x0_ x1_ : Value) (h : Heap) (K : Kt) : Prop :=
 Ca f_cmp_isNaN_uint32 #[x0_] h fun x3 h2 =>
 CdP x3
 (Ca f_cmp_isNaN_uint32 #[x1_] h2 fun x5 h4 =>
 UnP .not x5 fun x6 =>
 CdP x6
 (m_cmp_Less_uint32_j14 (.bool true) h4 K)
 (BiP .lss x0_ x1_ fun x9 =>
 m_cmp_Less_uint32_j14 x9 h4 K))
 (BiP .lss x0_ x1_ fun x12 =>
 m_cmp_Less_uint32_j14 x12 h2 K)
theorem m_cmp_Less_uint32_ok {x0_ x1_ : Value} {h : Heap} {K : Kt} (hh : m_cmp_Less_uint32 x0_ x1_ h K) : Ca f_cmp_Less_uint32 #[x0_, x1_] h K := cv Tryz.func233 (by kernel_rfl) hh
/- slices.partitionEqualOrdered[uint32] -/
def m_slices_partitionEqualOrdered_uint32_j31 (x0_ x1_ x9_ x10_ : Value) (h : Heap) (nx14 : Nt) (nx17 : Nt) (K : Kt) : Prop :=
 BiP .add x9_ (.int .i64 1) fun x32 =>
 nx17 [x32] h
def m_slices_partitionEqualOrdered_uint32_j49 (x0_ x1_ x9_ x10_ : Value) (h : Heap) (nx14 : Nt) (nx36 : Nt) (K : Kt) : Prop :=
 BiP .sub x10_ (.int .i64 1) fun x50 =>
 nx36 [x50] h
def m_slices_partitionEqualOrdered_uint32_j64 (x9_ : Value) (h : Heap) (K : Kt) : Prop :=
 K x9_ h
def m_slices_partitionEqualOrdered_uint32_j51 (x0_ x1_ x9_ x10_ : Value) (h : Heap) (nx14 : Nt) (K : Kt) : Prop :=
 BiP .gtr x9_ x10_ fun x52 =>
 CdP x52
 (m_slices_partitionEqualOrdered_uint32_j64 x9_ h K)
 (Ei 1 x0_ x10_ h fun x55 =>
 Ei 1 x0_ x9_ h fun x57 =>
 IxP 1 x0_ x9_ fun x58 =>
 StP x58 x55 h fun h59 =>
 True ∧ (IxP 1 x0_ x10_ fun x60 =>
 StP x60 x57 h59 fun h61 =>
 True ∧ (BiP .add x9_ (.int .i64 1) fun x62 =>
 BiP .sub x10_ (.int .i64 1) fun x63 =>
 nx14 [x62, x63] h61)))
def m_slices_partitionEqualOrdered_uint32_j48 (x0_ x1_ x9_ x10_ x59_ : Value) (h : Heap) (nx14 : Nt) (nx36 : Nt) (K : Kt) : Prop :=
 CdP x59_
 (m_slices_partitionEqualOrdered_uint32_j49 x0_ x1_ x9_ x10_ h nx14 nx36 K)
 (m_slices_partitionEqualOrdered_uint32_j51 x0_ x1_ x9_ x10_ h nx14 K)
def m_slices_partitionEqualOrdered_uint32_l35 (vs : List Value) (x0_ x1_ x9_ : Value) (h : Heap) (nx14 : Nt) (nx36 : Nt) (K : Kt) : Prop :=
 BiP .leq x9_ (gv vs 0) fun x39 =>
 CdP x39
 (Ei 1 x0_ x1_ h fun x41 =>
 Ei 1 x0_ (gv vs 0) h fun x43 =>
 Ca f_cmp_Less_uint32 #[x41, x43] h fun x45 h44 =>
 True ∧ (m_slices_partitionEqualOrdered_uint32_j48 x0_ x1_ x9_ (gv vs 0) x45 h44 nx14 nx36 K))
 (m_slices_partitionEqualOrdered_uint32_j48 x0_ x1_ x9_ (gv vs 0) (.bool false) h nx14 nx36 K)
def m_slices_partitionEqualOrdered_uint32_j33 (x0_ x1_ x9_ x10_ : Value) (h : Heap) (nx14 : Nt) (K : Kt) : Prop :=
 LoP (fun vt h nx36 => m_slices_partitionEqualOrdered_uint32_l35 vt x0_ x1_ x9_ h nx14 nx36 K) [x10_] h
def m_slices_partitionEqualOrdered_uint32_j30 (x0_ x1_ x9_ x10_ x43_ : Value) (h : Heap) (nx14 : Nt) (nx17 : Nt) (K : Kt) : Prop :=
 CdP x43_
 (m_slices_partitionEqualOrdered_uint32_j31 x0_ x1_ x9_ x10_ h nx14 nx17 K)
 (m_slices_partitionEqualOrdered_uint32_j33 x0_ x1_ x9_ x10_ h nx14 K)
def m_slices_partitionEqualOrdered_uint32_l16 (vs : List Value) (x0_ x1_ x10_ : Value) (h : Heap) (nx14 : Nt) (nx17 : Nt) (K : Kt) : Prop :=
 BiP .leq (gv vs 0) x10_ fun x20 =>
 CdP x20
 (Ei 1 x0_ x1_ h fun x22 =>
 Ei 1 x0_ (gv vs 0) h fun x24 =>
 Ca f_cmp_Less_uint32 #[x22, x24] h fun x26 h25 =>
 True ∧ (UnP .not x26 fun x27 =>
 m_slices_partitionEqualOrdered_uint32_j30 x0_ x1_ (gv vs 0) x10_ x27 h25 nx14 nx17 K))
 (m_slices_partitionEqualOrdered_uint32_j30 x0_ x1_ (gv vs 0) x10_ (.bool false) h nx14 nx17 K)
def m_slices_partitionEqualOrdered_uint32_l13 (vs : List Value) (x0_ x1_ : Value) (h : Heap) (nx14 : Nt) (K : Kt) : Prop :=
 LoP (fun vt h nx17 => m_slices_partitionEqualOrdered_uint32_l16 vt x0_ x1_ (gv vs 1) h nx14 nx17 K) [(gv vs 0)] h
def m_slices_partitionEqualOrdered_uint32 (x0_ x1_ x2_ x3_ : Value) (h : Heap) (K : Kt) : Prop :=
 Ei 1 x0_ x3_ h fun x3 =>
 Ei 1 x0_ x1_ h fun x5 =>
 IxP 1 x0_ x1_ fun x6 =>
 StP x6 x3 h fun h7 =>
 True ∧ (IxP 1 x0_ x3_ fun x8 =>
 StP x8 x5 h7 fun h9 =>
 True ∧ (BiP .add x1_ (.int .i64 1) fun x10 =>
 BiP .sub x2_ (.int .i64 1) fun x11 =>
 LoP (fun vt h nx14 => m_slices_partitionEqualOrdered_uint32_l13 vt x0_ x1_ h nx14 K) [x10, x11] h9))
theorem m_slices_partitionEqualOrdered_uint32_ok {x0_ x1_ x2_ x3_ : Value} {h : Heap} {K : Kt} (hh : m_slices_partitionEqualOrdered_uint32 x0_ x1_ x2_ x3_ h K) : Ca f_slices_partitionEqualOrdered_uint32 #[x0_, x1_, x2_, x3_] h K := cv Tryz.func234 (by kernel_rfl) hh
/- slices.partitionOrdered[uint32] -/
def m_slices_partitionOrdered_uint32_j27 (x0_ x1_ x10_ x11_ : Value) (h : Heap) (nx14 : Nt) (K : Kt) : Prop :=
 BiP .add x10_ (.int .i64 1) fun x28 =>
 nx14 [x28] h
def m_slices_partitionOrdered_uint32_j46 (x0_ x1_ x10_ x11_ : Value) (h : Heap) (nx32 : Nt) (K : Kt) : Prop :=
 BiP .sub x11_ (.int .i64 1) fun x47 =>
 nx32 [x47] h
def m_slices_partitionOrdered_uint32_j88 (x0_ x1_ x10_ x11_ : Value) (h : Heap) (nx72 : Nt) (nx75 : Nt) (K : Kt) : Prop :=
 BiP .add x10_ (.int .i64 1) fun x89 =>
 nx75 [x89] h
def m_slices_partitionOrdered_uint32_j107 (x0_ x1_ x10_ x11_ : Value) (h : Heap) (nx72 : Nt) (nx93 : Nt) (K : Kt) : Prop :=
 BiP .sub x11_ (.int .i64 1) fun x108 =>
 nx93 [x108] h
def m_slices_partitionOrdered_uint32_j122 (x0_ x1_ x11_ : Value) (h : Heap) (K : Kt) : Prop :=
 Ei 1 x0_ x1_ h fun x125 =>
 Ei 1 x0_ x11_ h fun x127 =>
 IxP 1 x0_ x11_ fun x128 =>
 StP x128 x125 h fun h129 =>
 True ∧ (IxP 1 x0_ x1_ fun x130 =>
 StP x130 x127 h129 fun h131 =>
 True ∧ (K (.tuple #[x11_, (.bool false)]) h131))
def m_slices_partitionOrdered_uint32_j109 (x0_ x1_ x10_ x11_ : Value) (h : Heap) (nx72 : Nt) (K : Kt) : Prop :=
 BiP .gtr x10_ x11_ fun x110 =>
 CdP x110
 (m_slices_partitionOrdered_uint32_j122 x0_ x1_ x11_ h K)
 (Ei 1 x0_ x11_ h fun x113 =>
 Ei 1 x0_ x10_ h fun x115 =>
 IxP 1 x0_ x10_ fun x116 =>
 StP x116 x113 h fun h117 =>
 True ∧ (IxP 1 x0_ x11_ fun x118 =>
 StP x118 x115 h117 fun h119 =>
 True ∧ (BiP .add x10_ (.int .i64 1) fun x120 =>
 BiP .sub x11_ (.int .i64 1) fun x121 =>
 nx72 [x120, x121] h119)))
def m_slices_partitionOrdered_uint32_j106 (x0_ x1_ x10_ x11_ x129_ : Value) (h : Heap) (nx72 : Nt) (nx93 : Nt) (K : Kt) : Prop :=
 CdP x129_
 (m_slices_partitionOrdered_uint32_j107 x0_ x1_ x10_ x11_ h nx72 nx93 K)
 (m_slices_partitionOrdered_uint32_j109 x0_ x1_ x10_ x11_ h nx72 K)
def m_slices_partitionOrdered_uint32_l92 (vs : List Value) (x0_ x1_ x10_ : Value) (h : Heap) (nx72 : Nt) (nx93 : Nt) (K : Kt) : Prop :=
 BiP .leq x10_ (gv vs 0) fun x96 =>
 CdP x96
 (Ei 1 x0_ (gv vs 0) h fun x98 =>
 Ei 1 x0_ x1_ h fun x100 =>
 Ca f_cmp_Less_uint32 #[x98, x100] h fun x102 h101 =>
 True ∧ (UnP .not x102 fun x103 =>
 m_slices_partitionOrdered_uint32_j106 x0_ x1_ x10_ (gv vs 0) x103 h101 nx72 nx93 K))
 (m_slices_partitionOrdered_uint32_j106 x0_ x1_ x10_ (gv vs 0) (.bool false) h nx72 nx93 K)
def m_slices_partitionOrdered_uint32_j90 (x0_ x1_ x10_ x11_ : Value) (h : Heap) (nx72 : Nt) (K : Kt) : Prop :=
 LoP (fun vt h nx93 => m_slices_partitionOrdered_uint32_l92 vt x0_ x1_ x10_ h nx72 nx93 K) [x11_] h
def m_slices_partitionOrdered_uint32_j87 (x0_ x1_ x10_ x11_ x112_ : Value) (h : Heap) (nx72 : Nt) (nx75 : Nt) (K : Kt) : Prop :=
 CdP x112_
 (m_slices_partitionOrdered_uint32_j88 x0_ x1_ x10_ x11_ h nx72 nx75 K)
 (m_slices_partitionOrdered_uint32_j90 x0_ x1_ x10_ x11_ h nx72 K)
def m_slices_partitionOrdered_uint32_l74 (vs : List Value) (x0_ x1_ x11_ : Value) (h : Heap) (nx72 : Nt) (nx75 : Nt) (K : Kt) : Prop :=
 BiP .leq (gv vs 0) x11_ fun x78 =>
 CdP x78
 (Ei 1 x0_ (gv vs 0) h fun x80 =>
 Ei 1 x0_ x1_ h fun x82 =>
 Ca f_cmp_Less_uint32 #[x80, x82] h fun x84 h83 =>
 True ∧ (m_slices_partitionOrdered_uint32_j87 x0_ x1_ (gv vs 0) x11_ x84 h83 nx72 nx75 K))
 (m_slices_partitionOrdered_uint32_j87 x0_ x1_ (gv vs 0) x11_ (.bool false) h nx72 nx75 K)
def m_slices_partitionOrdered_uint32_l71 (vs : List Value) (x0_ x1_ : Value) (h : Heap) (nx72 : Nt) (K : Kt) : Prop :=
 LoP (fun vt h nx75 => m_slices_partitionOrdered_uint32_l74 vt x0_ x1_ (gv vs 1) h nx72 nx75 K) [(gv vs 0)] h
def m_slices_partitionOrdered_uint32_j48 (x0_ x1_ x10_ x11_ : Value) (h : Heap) (K : Kt) : Prop :=
 BiP .gtr x10_ x11_ fun x49 =>
 CdP x49
 (Ei 1 x0_ x1_ h fun x52 =>
 Ei 1 x0_ x11_ h fun x54 =>
 IxP 1 x0_ x11_ fun x55 =>
 StP x55 x52 h fun h56 =>
 True ∧ (IxP 1 x0_ x1_ fun x57 =>
 StP x57 x54 h56 fun h58 =>
 True ∧ (K (.tuple #[x11_, (.bool true)]) h58)))
 (Ei 1 x0_ x11_ h fun x61 =>
 Ei 1 x0_ x10_ h fun x63 =>
 IxP 1 x0_ x10_ fun x64 =>
 StP x64 x61 h fun h65 =>
 True ∧ (IxP 1 x0_ x11_ fun x66 =>
 StP x66 x63 h65 fun h67 =>
 True ∧ (BiP .add x10_ (.int .i64 1) fun x68 =>
 BiP .sub x11_ (.int .i64 1) fun x69 =>
 LoP (fun vt h nx72 => m_slices_partitionOrdered_uint32_l71 vt x0_ x1_ h nx72 K) [x68, x69] h67)))
def m_slices_partitionOrdered_uint32_j45 (x0_ x1_ x10_ x11_ x60_ : Value) (h : Heap) (nx32 : Nt) (K : Kt) : Prop :=
 CdP x60_
 (m_slices_partitionOrdered_uint32_j46 x0_ x1_ x10_ x11_ h nx32 K)
 (m_slices_partitionOrdered_uint32_j48 x0_ x1_ x10_ x11_ h K)
def m_slices_partitionOrdered_uint32_l31 (vs : List Value) (x0_ x1_ x10_ : Value) (h : Heap) (nx32 : Nt) (K : Kt) : Prop :=
 BiP .leq x10_ (gv vs 0) fun x35 =>
 CdP x35
 (Ei 1 x0_ (gv vs 0) h fun x37 =>
 Ei 1 x0_ x1_ h fun x39 =>
 Ca f_cmp_Less_uint32 #[x37, x39] h fun x41 h40 =>
 True ∧ (UnP .not x41 fun x42 =>
 m_slices_partitionOrdered_uint32_j45 x0_ x1_ x10_ (gv vs 0) x42 h40 nx32 K))
 (m_slices_partitionOrdered_uint32_j45 x0_ x1_ x10_ (gv vs 0) (.bool false) h nx32 K)
def m_slices_partitionOrdered_uint32_j29 (x0_ x1_ x10_ x11_ : Value) (h : Heap) (K : Kt) : Prop :=
 LoP (fun vt h nx32 => m_slices_partitionOrdered_uint32_l31 vt x0_ x1_ x10_ h nx32 K) [x11_] h
def m_slices_partitionOrdered_uint32_j26 (x0_ x1_ x10_ x11_ x43_ : Value) (h : Heap) (nx14 : Nt) (K : Kt) : Prop :=
 CdP x43_
 (m_slices_partitionOrdered_uint32_j27 x0_ x1_ x10_ x11_ h nx14 K)
 (m_slices_partitionOrdered_uint32_j29 x0_ x1_ x10_ x11_ h K)
def m_slices_partitionOrdered_uint32_l13 (vs : List Value) (x0_ x1_ x11_ : Value) (h : Heap) (nx14 : Nt) (K : Kt) : Prop :=
 BiP .leq (gv vs 0) x11_ fun x17 =>
 CdP x17
 (Ei 1 x0_ (gv vs 0) h fun x19 =>
 Ei 1 x0_ x1_ h fun x21 =>
 Ca f_cmp_Less_uint32 #[x19, x21] h fun x23 h22 =>
 True ∧ (m_slices_partitionOrdered_uint32_j26 x0_ x1_ (gv vs 0) x11_ x23 h22 nx14 K))
 (m_slices_partitionOrdered_uint32_j26 x0_ x1_ (gv vs 0) x11_ (.bool false) h nx14 K)
def m_slices_partitionOrdered_uint32 (x0_ x1_ x2_ x3_ : Value) (h : Heap) (K : Kt) : Prop :=
 Ei 1 x0_ x3_ h fun x3 =>
 Ei 1 x0_ x1_ h fun x5 =>
 IxP 1 x0_ x1_ fun x6 =>
 StP x6 x3 h fun h7 =>
 True ∧ (IxP 1 x0_ x3_ fun x8 =>
 StP x8 x5 h7 fun h9 =>
 True ∧ (BiP .add x1_ (.int .i64 1) fun x10 =>
 BiP .sub x2_ (.int .i64 1) fun x11 =>
 LoP (fun vt h nx14 => m_slices_partitionOrdered_uint32_l13 vt x0_ x1_ x11 h nx14 K) [x10] h9))
theorem m_slices_partitionOrdered_uint32_ok {x0_ x1_ x2_ x3_ : Value} {h : Heap} {K : Kt} (hh : m_slices_partitionOrdered_uint32 x0_ x1_ x2_ x3_ h K) : Ca f_slices_partitionOrdered_uint32 #[x0_, x1_, x2_, x3_] h K := cv Tryz.func235 (by kernel_rfl) hh
/- math/bits.Len32 -/
def m_bits_Len32_j9 (x0_ x2_ : Value) (h : Heap) (K : Kt) : Prop :=
 CvP .u8 x0_ fun x10 =>
 IsP (.string { data := (List.toArray (List.append (List.append [0, 1, 2, 2, 3, 3, 3, 3, 4, 4, 4, 4, 4, 4, 4, 4, 5, 5, 5, 5, 5, 5, 5, 5, 5, 5, 5, 5, 5, 5, 5, 5, 6, 6, 6, 6, 6, 6, 6, 6, 6, 6, 6, 6, 6, 6, 6, 6, 6, 6, 6, 6, 6, 6, 6, 6, 6, 6, 6, 6, 6, 6, 6, 6] [7, 7, 7, 7, 7, 7, 7, 7, 7, 7, 7, 7, 7, 7, 7, 7, 7, 7, 7, 7, 7, 7, 7, 7, 7, 7, 7, 7, 7, 7, 7, 7, 7, 7, 7, 7, 7, 7, 7, 7, 7, 7, 7, 7, 7, 7, 7, 7, 7, 7, 7, 7, 7, 7, 7, 7, 7, 7, 7, 7, 7, 7, 7, 7]) (List.append [8, 8, 8, 8, 8, 8, 8, 8, 8, 8, 8, 8, 8, 8, 8, 8, 8, 8, 8, 8, 8, 8, 8, 8, 8, 8, 8, 8, 8, 8, 8, 8, 8, 8, 8, 8, 8, 8, 8, 8, 8, 8, 8, 8, 8, 8, 8, 8, 8, 8, 8, 8, 8, 8, 8, 8, 8, 8, 8, 8, 8, 8, 8, 8] [8, 8, 8, 8, 8, 8, 8, 8, 8, 8, 8, 8, 8, 8, 8, 8, 8, 8, 8, 8, 8, 8, 8, 8, 8, 8, 8, 8, 8, 8, 8, 8, 8, 8, 8, 8, 8, 8, 8, 8, 8, 8, 8, 8, 8, 8, 8, 8, 8, 8, 8, 8, 8, 8, 8, 8, 8, 8, 8, 8, 8, 8, 8, 8]))) }) x10 fun x11 =>
 CvP .i64 x11 fun x12 =>
 BiP .add x2_ x12 fun x13 =>
 K x13 h
def m_bits_Len32_j4 (x0_ x2_ : Value) (h : Heap) (K : Kt) : Prop :=
 BiP .geq x0_ (.int .u32 256) fun x6 =>
 CdP x6
 (BiP .shr x0_ (.int .u64 8) fun x7 =>
 BiP .add x2_ (.int .i64 8) fun x8 =>
 m_bits_Len32_j9 x7 x8 h K)
 (m_bits_Len32_j9 x0_ x2_ h K)
def m_bits_Len32 (x0_ : Value) (h : Heap) (K : Kt) : Prop :=
 BiP .geq x0_ (.int .u32 65536) fun x2 =>
 CdP x2
 (BiP .shr x0_ (.int .u64 16) fun x3 =>
 m_bits_Len32_j4 x3 (.int .i64 16) h K)
 (m_bits_Len32_j4 x0_ (.int .i64 0) h K)
theorem m_bits_Len32_ok {x0_ : Value} {h : Heap} {K : Kt} (hh : m_bits_Len32 x0_ h K) : Ca f_bits_Len32 #[x0_] h K := cv Tryz.func236 (by kernel_rfl) hh
/- math/bits.Len64 -/
def m_bits_Len64_j14 (x0_ x2_ : Value) (h : Heap) (K : Kt) : Prop :=
 CvP .u8 x0_ fun x15 =>
 IsP (.string { data := (List.toArray (List.append (List.append [0, 1, 2, 2, 3, 3, 3, 3, 4, 4, 4, 4, 4, 4, 4, 4, 5, 5, 5, 5, 5, 5, 5, 5, 5, 5, 5, 5, 5, 5, 5, 5, 6, 6, 6, 6, 6, 6, 6, 6, 6, 6, 6, 6, 6, 6, 6, 6, 6, 6, 6, 6, 6, 6, 6, 6, 6, 6, 6, 6, 6, 6, 6, 6] [7, 7, 7, 7, 7, 7, 7, 7, 7, 7, 7, 7, 7, 7, 7, 7, 7, 7, 7, 7, 7, 7, 7, 7, 7, 7, 7, 7, 7, 7, 7, 7, 7, 7, 7, 7, 7, 7, 7, 7, 7, 7, 7, 7, 7, 7, 7, 7, 7, 7, 7, 7, 7, 7, 7, 7, 7, 7, 7, 7, 7, 7, 7, 7]) (List.append [8, 8, 8, 8, 8, 8, 8, 8, 8, 8, 8, 8, 8, 8, 8, 8, 8, 8, 8, 8, 8, 8, 8, 8, 8, 8, 8, 8, 8, 8, 8, 8, 8, 8, 8, 8, 8, 8, 8, 8, 8, 8, 8, 8, 8, 8, 8, 8, 8, 8, 8, 8, 8, 8, 8, 8, 8, 8, 8, 8, 8, 8, 8, 8] [8, 8, 8, 8, 8, 8, 8, 8, 8, 8, 8, 8, 8, 8, 8, 8, 8, 8, 8, 8, 8, 8, 8, 8, 8, 8, 8, 8, 8, 8, 8, 8, 8, 8, 8, 8, 8, 8, 8, 8, 8, 8, 8, 8, 8, 8, 8, 8, 8, 8, 8, 8, 8, 8, 8, 8, 8, 8, 8, 8, 8, 8, 8, 8]))) }) x15 fun x16 =>
 CvP .i64 x16 fun x17 =>
 BiP .add x2_ x17 fun x18 =>
 K x18 h
def m_bits_Len64_j9 (x0_ x2_ : Value) (h : Heap) (K : Kt) : Prop :=
 BiP .geq x0_ (.int .u64 256) fun x11 =>
 CdP x11
 (BiP .shr x0_ (.int .u64 8) fun x12 =>
 BiP .add x2_ (.int .i64 8) fun x13 =>
 m_bits_Len64_j14 x12 x13 h K)
 (m_bits_Len64_j14 x0_ x2_ h K)
def m_bits_Len64_j4 (x0_ x2_ : Value) (h : Heap) (K : Kt) : Prop :=
 BiP .geq x0_ (.int .u64 65536) fun x6 =>
 CdP x6
 (BiP .shr x0_ (.int .u64 16) fun x7 =>
 BiP .add x2_ (.int .i64 16) fun x8 =>
 m_bits_Len64_j9 x7 x8 h K)
 (m_bits_Len64_j9 x0_ x2_ h K)
def m_bits_Len64 (x0_ : Value) (h : Heap) (K : Kt) : Prop :=
 BiP .geq x0_ (.int .u64 4294967296) fun x2 =>
 CdP x2
 (BiP .shr x0_ (.int .u64 32) fun x3 =>
 m_bits_Len64_j4 x3 (.int .i64 32) h K)
 (m_bits_Len64_j4 x0_ (.int .i64 0) h K)
theorem m_bits_Len64_ok {x0_ : Value} {h : Heap} {K : Kt} (hh : m_bits_Len64 x0_ h K) : Ca f_bits_Len64 #[x0_] h K := cv Tryz.func237 (by kernel_rfl) hh
/- slices.IndexFunc[[]sluicegate/api.Pair,sluicegate/api.Pair] -/
def m_slices_IndexFunc_api_Pair_j12 (h : Heap) (K : Kt) : Prop :=
 K (.int .i64 (-1)) h
def m_slices_IndexFunc_api_Pair_l3 (vs : List Value) (x0_ x1_ x7_ : Value) (h : Heap) (nx4 : Nt) (K : Kt) : Prop :=
 BiP .lss (gv vs 1) x7_ fun x5 =>
 CdP x5
 (Ea 2 x0_ (gv vs 1) h fun x8 =>
 CvH Pg x1_ #[x8] h fun x10 h9 =>
 CdP x10
 (K (gv vs 1) h9)
 (BiP .add (gv vs 1) (.int .i64 1) fun x11 =>
 nx4 [(gv vs 0), x11] h9))
 (m_slices_IndexFunc_api_Pair_j12 h K)
def m_slices_IndexFunc_api_Pair (x0_ x1_ : Value) (h : Heap) (K : Kt) : Prop :=
 LenP (some true) x0_ fun x2 =>
 LoP (fun vt h nx4 => m_slices_IndexFunc_api_Pair_l3 vt x0_ x1_ x2 h nx4 K) [(.int .i64 0), (.int .i64 0)] h
theorem m_slices_IndexFunc_api_Pair_ok {x0_ x1_ : Value} {h : Heap} {K : Kt} (hh : m_slices_IndexFunc_api_Pair x0_ x1_ h K) : Ca f_slices_IndexFunc_api_Pair #[x0_, x1_] h K := cv Tryz.func239 (by kernel_rfl) hh
/- slices.Compact[[]uint32,uint32] -/
def m_slices_Compact_uint32_j33 (x0_ x3_ x4_ x5_ : Value) (h : Heap) (nx5 : Nt) (nx18 : Nt) (K : Kt) : Prop :=
 BiP .add x5_ (.int .i64 1) fun x34 =>
 nx18 [x3_, x34] h
def m_slices_Compact_uint32_j35 (x0_ x3_ : Value) (h : Heap) (nx5 : Nt) (K : Kt) : Prop :=
 SlP 1 x0_ (some x3_) none fun x36 =>
 VH Pg (Builtin.clear_ #[t_S_uint32] t_tuple_2e38e7 #[x36]) h fun x38 h37 =>
 SlP 1 x0_ none (some x3_) fun x39 =>
 K x39 h37
def m_slices_Compact_uint32_l17 (vs : List Value) (x0_ x4_ : Value) (h : Heap) (nx5 : Nt) (nx18 : Nt) (K : Kt) : Prop :=
 LenP (some true) x4_ fun x19 =>
 BiP .lss (gv vs 1) x19 fun x20 =>
 CdP x20
 (Ei 1 x4_ (gv vs 1) h fun x23 =>
 BiP .sub (gv vs 1) (.int .i64 1) fun x24 =>
 Ei 1 x4_ x24 h fun x26 =>
 BiP .neq x23 x26 fun x27 =>
 CdP x27
 (Ei 1 x4_ (gv vs 1) h fun x29 =>
 IxP 1 x0_ (gv vs 0) fun x30 =>
 StP x30 x29 h fun h31 =>
 BiP .add (gv vs 0) (.int .i64 1) fun x32 =>
 m_slices_Compact_uint32_j33 x0_ x32 x4_ (gv vs 1) h31 nx5 nx18 K)
 (m_slices_Compact_uint32_j33 x0_ (gv vs 0) x4_ (gv vs 1) h nx5 nx18 K))
 (m_slices_Compact_uint32_j35 x0_ (gv vs 0) h nx5 K)
def m_slices_Compact_uint32_j40 (x0_ x2_ x3_ : Value) (h : Heap) (nx5 : Nt) (K : Kt) : Prop :=
 BiP .add x3_ (.int .i64 1) fun x41 =>
 nx5 [x2_, x41] h
def m_slices_Compact_uint32_j42 (x0_ : Value) (h : Heap) (K : Kt) : Prop :=
 K x0_ h
def m_slices_Compact_uint32_l4 (vs : List Value) (x0_ : Value) (h : Heap) (nx5 : Nt) (K : Kt) : Prop :=
 LenP (some true) x0_ fun x6 =>
 BiP .lss (gv vs 1) x6 fun x7 =>
 CdP x7
 (Ei 1 x0_ (gv vs 1) h fun x10 =>
 BiP .sub (gv vs 1) (.int .i64 1) fun x11 =>
 Ei 1 x0_ x11 h fun x13 =>
 BiP .eql x10 x13 fun x14 =>
 CdP x14
 (SlP 1 x0_ (some (gv vs 1)) none fun x15 =>
 LoP (fun vt h nx18 => m_slices_Compact_uint32_l17 vt x0_ x15 h nx5 nx18 K) [(gv vs 1), (.int .i64 1)] h)
 (m_slices_Compact_uint32_j40 x0_ (gv vs 0) (gv vs 1) h nx5 K))
 (m_slices_Compact_uint32_j42 x0_ h K)
def m_slices_Compact_uint32 (x0_ : Value) (h : Heap) (K : Kt) : Prop :=
 LenP (some true) x0_ fun x1 =>
 BiP .lss x1 (.int .i64 2) fun x2 =>
 CdP x2
 (K x0_ h)
 (LoP (fun vt h nx5 => m_slices_Compact_uint32_l4 vt x0_ h nx5 K) [(.slice none 0 0), (.int .i64 1)] h)
theorem m_slices_Compact_uint32_ok {x0_ : Value} {h : Heap} {K : Kt} (hh : m_slices_Compact_uint32 x0_ h K) : Ca f_slices_Compact_uint32 #[x0_] h K := cv Tryz.func240 (by kernel_rfl) hh
/- slices.IndexFunc[[]string,string] -/
def m_slices_IndexFunc_string_j12 (h : Heap) (K : Kt) : Prop :=
 K (.int .i64 (-1)) h
def m_slices_IndexFunc_string_l3 (vs : List Value) (x0_ x1_ x7_ : Value) (h : Heap) (nx4 : Nt) (K : Kt) : Prop :=
 BiP .lss (gv vs 1) x7_ fun x5 =>
 CdP x5
 (Ei 1 x0_ (gv vs 1) h fun x8 =>
 CvH Pg x1_ #[x8] h fun x10 h9 =>
 CdP x10
 (K (gv vs 1) h9)
 (BiP .add (gv vs 1) (.int .i64 1) fun x11 =>
 nx4 [(gv vs 0), x11] h9))
 (m_slices_IndexFunc_string_j12 h K)
def m_slices_IndexFunc_string (x0_ x1_ : Value) (h : Heap) (K : Kt) : Prop :=
 LenP (some true) x0_ fun x2 =>
 LoP (fun vt h nx4 => m_slices_IndexFunc_string_l3 vt x0_ x1_ x2 h nx4 K) [(.int .i64 0), (.int .i64 0)] h
theorem m_slices_IndexFunc_string_ok {x0_ x1_ : Value} {h : Heap} {K : Kt} (hh : m_slices_IndexFunc_string x0_ x1_ h K) : Ca f_slices_IndexFunc_string #[x0_, x1_] h K := cv Tryz.func241 (by kernel_rfl) hh
/- slices.IndexFunc[[]sluicegate/api.Msg,sluicegate/api.Msg] -/
def m_slices_IndexFunc_api_Msg_j12 (h : Heap) (K : Kt) : Prop :=
 K (.int .i64 (-1)) h
def m_slices_IndexFunc_api_Msg_l3 (vs : List Value) (x0_ x1_ x7_ : Value) (h : Heap) (nx4 : Nt) (K : Kt) : Prop :=
 BiP .lss (gv vs 1) x7_ fun x5 =>
 CdP x5
 (Ea 3 x0_ (gv vs 1) h fun x8 =>
 CvH Pg x1_ #[x8] h fun x10 h9 =>
 CdP x10
 (K (gv vs 1) h9)
 (BiP .add (gv vs 1) (.int .i64 1) fun x11 =>
 nx4 [(gv vs 0), x11] h9))
 (m_slices_IndexFunc_api_Msg_j12 h K)
def m_slices_IndexFunc_api_Msg (x0_ x1_ : Value) (h : Heap) (K : Kt) : Prop :=
 LenP (some true) x0_ fun x2 =>
 LoP (fun vt h nx4 => m_slices_IndexFunc_api_Msg_l3 vt x0_ x1_ x2 h nx4 K) [(.int .i64 0), (.int .i64 0)] h
theorem m_slices_IndexFunc_api_Msg_ok {x0_ x1_ : Value} {h : Heap} {K : Kt} (hh : m_slices_IndexFunc_api_Msg x0_ x1_ h K) : Ca f_slices_IndexFunc_api_Msg #[x0_, x1_] h K := cv Tryz.func242 (by kernel_rfl) hh
/- slices.IndexFunc[[]byte,byte] -/
def m_slices_IndexFunc_byte_j12 (h : Heap) (K : Kt) : Prop :=
 K (.int .i64 (-1)) h
def m_slices_IndexFunc_byte_l3 (vs : List Value) (x0_ x1_ x7_ : Value) (h : Heap) (nx4 : Nt) (K : Kt) : Prop :=
 BiP .lss (gv vs 1) x7_ fun x5 =>
 CdP x5
 (Ei 1 x0_ (gv vs 1) h fun x8 =>
 CvH Pg x1_ #[x8] h fun x10 h9 =>
 CdP x10
 (K (gv vs 1) h9)
 (BiP .add (gv vs 1) (.int .i64 1) fun x11 =>
 nx4 [(gv vs 0), x11] h9))
 (m_slices_IndexFunc_byte_j12 h K)
def m_slices_IndexFunc_byte (x0_ x1_ : Value) (h : Heap) (K : Kt) : Prop :=
 LenP (some true) x0_ fun x2 =>
 LoP (fun vt h nx4 => m_slices_IndexFunc_byte_l3 vt x0_ x1_ x2 h nx4 K) [(.int .i64 0), (.int .i64 0)] h
theorem m_slices_IndexFunc_byte_ok {x0_ x1_ : Value} {h : Heap} {K : Kt} (hh : m_slices_IndexFunc_byte x0_ x1_ h K) : Ca f_slices_IndexFunc_byte #[x0_, x1_] h K := cv Tryz.func249 (by kernel_rfl) hh
/- slices.rotateLeft[sluicegate/api.Msg] -/
def m_slices_rotateLeft_api_Msg (x0_ x1_ : Value) (h : Heap) (K : Kt) : Prop :=
 SlP 3 x0_ none (some x1_) fun x1 =>
 Ca f_slices_Reverse_api_Msg #[x1] h fun x3 h2 =>
 SlP 3 x0_ (some x1_) none fun x4 =>
 Ca f_slices_Reverse_api_Msg #[x4] h2 fun x6 h5 =>
 Ca f_slices_Reverse_api_Msg #[x0_] h5 fun x8 h7 =>
 K (.tuple #[]) h7
theorem m_slices_rotateLeft_api_Msg_ok {x0_ x1_ : Value} {h : Heap} {K : Kt} (hh : m_slices_rotateLeft_api_Msg x0_ x1_ h K) : Ca f_slices_rotateLeft_api_Msg #[x0_, x1_] h K := cv Tryz.func251 (by kernel_rfl) hh
/- slices.Reverse[[]sluicegate/api.Pair,sluicegate/api.Pair] -/
def m_slices_Reverse_api_Pair_l3 (vs : List Value) (x0_ : Value) (h : Heap) (nx4 : Nt) (K : Kt) : Prop :=
 BiP .lss (gv vs 0) (gv vs 1) fun x5 =>
 CdP x5
 (Ea 2 x0_ (gv vs 1) h fun x8 =>
 Ea 2 x0_ (gv vs 0) h fun x10 =>
 IxP 2 x0_ (gv vs 0) fun x11 =>
 StA 2 x11 x8 h fun h12 =>
 True ∧ (IxP 2 x0_ (gv vs 1) fun x13 =>
 StA 2 x13 x10 h12 fun h14 =>
 True ∧ (BiP .add (gv vs 0) (.int .i64 1) fun x15 =>
 BiP .sub (gv vs 1) (.int .i64 1) fun x16 =>
 nx4 [x15, x16] h14)))
 (K (.tuple #[]) h)
def m_slices_Reverse_api_Pair (x0_ : Value) (h : Heap) (K : Kt) : Prop :=
 LenP (some true) x0_ fun x1 =>
 BiP .sub x1 (.int .i64 1) fun x2 =>
 LoP (fun vt h nx4 => m_slices_Reverse_api_Pair_l3 vt x0_ h nx4 K) [(.int .i64 0), x2] h
theorem m_slices_Reverse_api_Pair_ok {x0_ : Value} {h : Heap} {K : Kt} (hh : m_slices_Reverse_api_Pair x0_ h K) : Ca f_slices_Reverse_api_Pair #[x0_] h K := cv Tryz.func262 (by kernel_rfl) hh
/- slices.siftDownOrdered[uint32] -/
def m_slices_siftDownOrdered_uint32_j23 (x0_ x2_ x3_ x8_ x9_ : Value) (h : Heap) (nx2 : Nt) (K : Kt) : Prop :=
 BiP .add x3_ x8_ fun x24 =>
 Ei 1 x0_ x24 h fun x26 =>
 BiP .add x3_ x9_ fun x27 =>
 Ei 1 x0_ x27 h fun x29 =>
 Ca f_cmp_Less_uint32 #[x26, x29] h fun x31 h30 =>
 True ∧ (UnP .not x31 fun x32 =>
 CdP x32
 (K (.tuple #[]) h30)
 (BiP .add x3_ x8_ fun x34 =>
 BiP .add x3_ x9_ fun x35 =>
 BiP .add x3_ x9_ fun x36 =>
 Ei 1 x0_ x36 h30 fun x38 =>
 BiP .add x3_ x8_ fun x39 =>
 Ei 1 x0_ x39 h30 fun x41 =>
 IxP 1 x0_ x34 fun x42 =>
 StP x42 x38 h30 fun h43 =>
 True ∧ (IxP 1 x0_ x35 fun x44 =>
 StP x44 x41 h43 fun h45 =>
 True ∧ (nx2 [x9_] h45))))
def m_slices_siftDownOrdered_uint32_j21 (x0_ x2_ x3_ x8_ x9_ x36_ : Value) (h : Heap) (nx2 : Nt) (K : Kt) : Prop :=
 CdP x36_
 (BiP .add x9_ (.int .i64 1) fun x22 =>
 m_slices_siftDownOrdered_uint32_j23 x0_ x2_ x3_ x8_ x22 h nx2 K)
 (m_slices_siftDownOrdered_uint32_j23 x0_ x2_ x3_ x8_ x9_ h nx2 K)
def m_slices_siftDownOrdered_uint32_l1 (vs : List Value) (x0_ x2_ x3_ : Value) (h : Heap) (nx2 : Nt) (K : Kt) : Prop :=
 BiP .mul (.int .i64 2) (gv vs 0) fun x3 =>
 BiP .add x3 (.int .i64 1) fun x4 =>
 BiP .geq x4 x2_ fun x5 =>
 CdP x5
 (K (.tuple #[]) h)
 (BiP .add x4 (.int .i64 1) fun x8 =>
 BiP .lss x8 x2_ fun x9 =>
 CdP x9
 (BiP .add x3_ x4 fun x10 =>
 Ei 1 x0_ x10 h fun x12 =>
 BiP .add x3_ x4 fun x13 =>
 BiP .add x13 (.int .i64 1) fun x14 =>
 Ei 1 x0_ x14 h fun x16 =>
 Ca f_cmp_Less_uint32 #[x12, x16] h fun x18 h17 =>
 True ∧ (m_slices_siftDownOrdered_uint32_j21 x0_ x2_ x3_ (gv vs 0) x4 x18 h17 nx2 K))
 (m_slices_siftDownOrdered_uint32_j21 x0_ x2_ x3_ (gv vs 0) x4 (.bool false) h nx2 K))
def m_slices_siftDownOrdered_uint32 (x0_ x1_ x2_ x3_ : Value) (h : Heap) (K : Kt) : Prop :=
 LoP (fun vt h nx2 => m_slices_siftDownOrdered_uint32_l1 vt x0_ x2_ x3_ h nx2 K) [x1_] h
theorem m_slices_siftDownOrdered_uint32_ok {x0_ x1_ x2_ x3_ : Value} {h : Heap} {K : Kt} (hh : m_slices_siftDownOrdered_uint32 x0_ x1_ x2_ x3_ h K) : Ca f_slices_siftDownOrdered_uint32 #[x0_, x1_, x2_, x3_] h K := cv Tryz.func263 (by kernel_rfl) hh
/- slices.nextPowerOfTwo -/
def m_slices_nextPowerOfTwo (x0_ : Value) (h : Heap) (K : Kt) : Prop :=
 CvP .u64 x0_ fun x1 =>
 Ca f_bits_Len #[x1] h fun x3 h2 =>
 BiP .shl (.int .u64 1) x3 fun x4 =>
 K x4 h2
theorem m_slices_nextPowerOfTwo_ok {x0_ : Value} {h : Heap} {K : Kt} (hh : m_slices_nextPowerOfTwo x0_ h K) : Ca f_slices_nextPowerOfTwo #[x0_] h K := cv Tryz.func264 (by kernel_rfl) hh
/- (*slices.xorshift).Next -/
def m_slices_xorshift_Next (x0_ : Value) (h : Heap) (K : Kt) : Prop :=
 NilP x0_ fun x1 =>
 LdP x1 h fun x2 =>
 NilP x0_ fun x3 =>
 LdP x3 h fun x4 =>
 BiP .shl x4 (.int .u64 13) fun x5 =>
 BiP .xor x2 x5 fun x6 =>
 NilP x0_ fun x7 =>
 StP x7 x6 h fun h8 =>
 True ∧ (NilP x0_ fun x9 =>
 LdP x9 h8 fun x10 =>
 NilP x0_ fun x11 =>
 LdP x11 h8 fun x12 =>
 BiP .shr x12 (.int .u64 7) fun x13 =>
 BiP .xor x10 x13 fun x14 =>
 NilP x0_ fun x15 =>
 StP x15 x14 h8 fun h16 =>
 True ∧ (NilP x0_ fun x17 =>
 LdP x17 h16 fun x18 =>
 NilP x0_ fun x19 =>
 LdP x19 h16 fun x20 =>
 BiP .shl x20 (.int .u64 17) fun x21 =>
 BiP .xor x18 x21 fun x22 =>
 NilP x0_ fun x23 =>
 StP x23 x22 h16 fun h24 =>
 True ∧ (NilP x0_ fun x25 =>
 LdP x25 h24 fun x26 =>
 K x26 h24)))
theorem m_slices_xorshift_Next_ok {x0_ : Value} {h : Heap} {K : Kt} (hh : m_slices_xorshift_Next x0_ h K) : Ca f_slices_xorshift_Next #[x0_] h K := cv Tryz.func265 (by kernel_rfl) hh
/- slices.medianAdjacentOrdered[uint32] -/
def m_slices_medianAdjacentOrdered_uint32 (x0_ x1_ x2_ : Value) (h : Heap) (K : Kt) : Prop :=
 BiP .sub x1_ (.int .i64 1) fun x1 =>
 BiP .add x1_ (.int .i64 1) fun x2 =>
 Ca f_slices_medianOrdered_uint32 #[x0_, x1, x1_, x2, x2_] h fun x4 h3 =>
 K x4 h3
theorem m_slices_medianAdjacentOrdered_uint32_ok {x0_ x1_ x2_ : Value} {h : Heap} {K : Kt} (hh : m_slices_medianAdjacentOrdered_uint32 x0_ x1_ x2_ h K) : Ca f_slices_medianAdjacentOrdered_uint32 #[x0_, x1_, x2_] h K := cv Tryz.func266 (by kernel_rfl) hh
/- slices.medianOrdered[uint32] -/
def m_slices_medianOrdered_uint32 (x0_ x1_ x2_ x3_ x4_ : Value) (h : Heap) (K : Kt) : Prop :=
 Ca f_slices_order2Ordered_uint32 #[x0_, x1_, x2_, x4_] h fun x2 h1 =>
 ExP x2 0 fun x3 =>
 ExP x2 1 fun x4 =>
 Ca f_slices_order2Ordered_uint32 #[x0_, x4, x3_, x4_] h1 fun x6 h5 =>
 ExP x6 0 fun x7 =>
 ExP x6 1 fun x8 =>
 Ca f_slices_order2Ordered_uint32 #[x0_, x3, x7, x4_] h5 fun x10 h9 =>
 ExP x10 0 fun x11 =>
 ExP x10 1 fun x12 =>
 K x12 h9
theorem m_slices_medianOrdered_uint32_ok {x0_ x1_ x2_ x3_ x4_ : Value} {h : Heap} {K : Kt} (hh : m_slices_medianOrdered_uint32 x0_ x1_ x2_ x3_ x4_ h K) : Ca f_slices_medianOrdered_uint32 #[x0_, x1_, x2_, x3_, x4_] h K := cv Tryz.func267 (by kernel_rfl) hh
/- cmp.isNaN[uint32] -/
def m_cmp_isNaN_uint32 (x0_ : Value) (h : Heap) (K : Kt) : Prop :=
 BiP .neq x0_ x0_ fun x1 =>
 K x1 h
theorem m_cmp_isNaN_uint32_ok {x0_ : Value} {h : Heap} {K : Kt} (hh : m_cmp_isNaN_uint32 x0_ h K) : Ca f_cmp_isNaN_uint32 #[x0_] h K := cv Tryz.func268 (by kernel_rfl) hh
/- slices.Reverse[[]sluicegate/api.Msg,sluicegate/api.Msg] -/
def m_slices_Reverse_api_Msg_l3 (vs : List Value) (x0_ : Value) (h : Heap) (nx4 : Nt) (K : Kt) : Prop :=
 BiP .lss (gv vs 0) (gv vs 1) fun x5 =>
 CdP x5
 (Ea 3 x0_ (gv vs 1) h fun x8 =>
 Ea 3 x0_ (gv vs 0) h fun x10 =>
 IxP 3 x0_ (gv vs 0) fun x11 =>
 StA 3 x11 x8 h fun h12 =>
 True ∧ (IxP 3 x0_ (gv vs 1) fun x13 =>
 StA 3 x13 x10 h12 fun h14 =>
 True ∧ (BiP .add (gv vs 0) (.int .i64 1) fun x15 =>
 BiP .sub (gv vs 1) (.int .i64 1) fun x16 =>
 nx4 [x15, x16] h14)))
 (K (.tuple #[]) h)
def m_slices_Reverse_api_Msg (x0_ : Value) (h : Heap) (K : Kt) : Prop :=
 LenP (some true) x0_ fun x1 =>
 BiP .sub x1 (.int .i64 1) fun x2 =>
 LoP (fun vt h nx4 => m_slices_Reverse_api_Msg_l3 vt x0_ h nx4 K) [(.int .i64 0), x2] h
theorem m_slices_Reverse_api_Msg_ok {x0_ : Value} {h : Heap} {K : Kt} (hh : m_slices_Reverse_api_Msg x0_ h K) : Ca f_slices_Reverse_api_Msg #[x0_] h K := cv Tryz.func271 (by kernel_rfl) hh
/- slices.Insert[[]uint32,uint32] -/
def m_slices_Insert_uint32 (x0_ x1_ x2_ : Value) (h : Heap) (K : Kt) : Prop :=
 SlP 1 x0_ (some x1_) none fun x1 =>
 LenP (some true) x2_ fun x2 =>
 BiP .eql x2 (.int .i64 0) fun x3 =>
 CdP x3
 (K x0_ h)
 (LenP (some true) x0_ fun x4 =>
 BiP .eql x1_ x4 fun x5 =>
 CdP x5
 (VH Pg (Builtin.append_ #[t_S_uint32, t_S_uint32] t_S_uint32 #[x0_, x2_]) h fun x7 h6 =>
 K x7 h6)
 (BiP .add x4 x2 fun x8 =>
 VH Pg (Builtin.cap_ #[t_S_uint32] t_int #[x0_]) h fun x10 h9 =>
 BiP .gtr x8 x10 fun x11 =>
 CdP x11
 (SlP 1 x0_ none (some x1_) fun x12 =>
 BiP .add x4 x2 fun x13 =>
 BiP .sub x13 x1_ fun x14 =>
 VH Pg (Builtin.append_ #[t_S_uint32, t_int] t_S_uint32 #[x12, x14]) h9 fun x16 h15 =>
 SlP 1 x16 (some x1_) none fun x17 =>
 VH Pg (Builtin.copy_ #[t_S_uint32, t_S_uint32] t_int #[x17, x2_]) h15 fun x19 h18 =>
 BiP .add x1_ x2 fun x20 =>
 SlP 1 x16 (some x20) none fun x21 =>
 SlP 1 x0_ (some x1_) none fun x22 =>
 VH Pg (Builtin.copy_ #[t_S_uint32, t_S_uint32] t_int #[x21, x22]) h18 fun x24 h23 =>
 True ∧ (K x16 h23))
 (BiP .add x4 x2 fun x25 =>
 SlP 1 x0_ none (some x25) fun x26 =>
 BiP .add x1_ x2 fun x27 =>
 SlP 1 x26 (some x27) none fun x28 =>
 Cx f_slices_overlaps_uint32 #[x2_, x28] h9 fun x30 h29 =>
 UnP .not x30 fun x31 =>
 CdP x31
 (BiP .add x1_ x2 fun x32 =>
 SlP 1 x26 (some x32) none fun x33 =>
 SlP 1 x26 (some x1_) none fun x34 =>
 VH Pg (Builtin.copy_ #[t_S_uint32, t_S_uint32] t_int #[x33, x34]) h29 fun x36 h35 =>
 True ∧ (SlP 1 x26 (some x1_) none fun x37 =>
 VH Pg (Builtin.copy_ #[t_S_uint32, t_S_uint32] t_int #[x37, x2_]) h35 fun x39 h38 =>
 K x26 h38))
 (SlP 1 x26 (some x4) none fun x40 =>
 VH Pg (Builtin.copy_ #[t_S_uint32, t_S_uint32] t_int #[x40, x2_]) h29 fun x42 h41 =>
 SlP 1 x26 (some x1_) none fun x43 =>
 Ca f_slices_rotateRight_uint32 #[x43, x2] h41 fun x45 h44 =>
 K x26 h44))))
theorem m_slices_Insert_uint32_ok {x0_ x1_ x2_ : Value} {h : Heap} {K : Kt} (hh : m_slices_Insert_uint32 x0_ x1_ x2_ h K) : Ca f_slices_Insert_uint32 #[x0_, x1_, x2_] h K := cv Tryz.func275 (by kernel_rfl) hh
/- slices.Delete[[]uint32,uint32] -/
def m_slices_Delete_uint32 (x0_ x1_ x2_ : Value) (h : Heap) (K : Kt) : Prop :=
 LenP (some true) x0_ fun x1 =>
 VH Pg (Instr.sliceAt t_S_uint32 x0_ (some x1_) (some x2_) (some x1)) h fun x3 h2 =>
 BiP .eql x1_ x2_ fun x4 =>
 CdP x4
 (K x0_ h2)
 (LenP (some true) x0_ fun x5 =>
 SlP 1 x0_ none (some x1_) fun x6 =>
 SlP 1 x0_ (some x2_) none fun x7 =>
 VH Pg (Builtin.append_ #[t_S_uint32, t_S_uint32] t_S_uint32 #[x6, x7]) h2 fun x9 h8 =>
 True ∧ (LenP (some true) x9 fun x10 =>
 SlP 1 x9 (some x10) (some x5) fun x11 =>
 VH Pg (Builtin.clear_ #[t_S_uint32] t_tuple_2e38e7 #[x11]) h8 fun x13 h12 =>
 K x9 h12))
theorem m_slices_Delete_uint32_ok {x0_ x1_ x2_ : Value} {h : Heap} {K : Kt} (hh : m_slices_Delete_uint32 x0_ x1_ x2_ h K) : Ca f_slices_Delete_uint32 #[x0_, x1_, x2_] h K := cv Tryz.func279 (by kernel_rfl) hh
/- slices.order2Ordered[uint32] -/
def m_slices_order2Ordered_uint32 (x0_ x1_ x2_ x3_ : Value) (h : Heap) (K : Kt) : Prop :=
 Ei 1 x0_ x2_ h fun x2 =>
 Ei 1 x0_ x1_ h fun x4 =>
 Ca f_cmp_Less_uint32 #[x2, x4] h fun x6 h5 =>
 True ∧ (CdP x6
 (NilP x3_ fun x7 =>
 LdP x7 h5 fun x8 =>
 BiP .add x8 (.int .i64 1) fun x9 =>
 NilP x3_ fun x10 =>
 StP x10 x9 h5 fun h11 =>
 K (.tuple #[x2_, x1_]) h11)
 (K (.tuple #[x1_, x2_]) h5))
theorem m_slices_order2Ordered_uint32_ok {x0_ x1_ x2_ x3_ : Value} {h : Heap} {K : Kt} (hh : m_slices_order2Ordered_uint32 x0_ x1_ x2_ x3_ h K) : Ca f_slices_order2Ordered_uint32 #[x0_, x1_, x2_, x3_] h K := cv Tryz.func281 (by kernel_rfl) hh
/- slices.Index[[]uint32,uint32] -/
def m_slices_Index_uint32_j11 (h : Heap) (K : Kt) : Prop :=
 K (.int .i64 (-1)) h
def m_slices_Index_uint32_l3 (vs : List Value) (x0_ x1_ x7_ : Value) (h : Heap) (nx4 : Nt) (K : Kt) : Prop :=
 BiP .lss (gv vs 1) x7_ fun x5 =>
 CdP x5
 (Ei 1 x0_ (gv vs 1) h fun x8 =>
 BiP .eql x1_ x8 fun x9 =>
 CdP x9
 (K (gv vs 1) h)
 (BiP .add (gv vs 1) (.int .i64 1) fun x10 =>
 nx4 [(gv vs 0), x10] h))
 (m_slices_Index_uint32_j11 h K)
def m_slices_Index_uint32 (x0_ x1_ : Value) (h : Heap) (K : Kt) : Prop :=
 LenP (some true) x0_ fun x2 =>
 LoP (fun vt h nx4 => m_slices_Index_uint32_l3 vt x0_ x1_ x2 h nx4 K) [(.int .i64 0), (.int .i64 0)] h
theorem m_slices_Index_uint32_ok {x0_ x1_ : Value} {h : Heap} {K : Kt} (hh : m_slices_Index_uint32 x0_ x1_ h K) : Ca f_slices_Index_uint32 #[x0_, x1_] h K := cv Tryz.func283 (by kernel_rfl) hh
/- slices.Concat[[]sluicegate/api.Msg,sluicegate/api.Msg] -/
def m_slices_Concat_api_Msg_j30 (x6_ : Value) (h : Heap) (K : Kt) : Prop :=
 K x6_ h
def m_slices_Concat_api_Msg_l21 (vs : List Value) (x25_ x26_ : Value) (h : Heap) (nx22 : Nt) (K : Kt) : Prop :=
 BiP .lss (gv vs 1) x26_ fun x23 =>
 CdP x23
 (Ei 1 x25_ (gv vs 1) h fun x26 =>
 VH Pg (Builtin.append_ #[t_S_api_Msg, t_S_api_Msg] t_S_api_Msg #[(gv vs 0), x26]) h fun x28 h27 =>
 BiP .add (gv vs 1) (.int .i64 1) fun x29 =>
 nx22 [x28, x29] h27)
 (m_slices_Concat_api_Msg_j30 (gv vs 0) h K)
def m_slices_Concat_api_Msg_j16 (x0_ x3_ : Value) (h : Heap) (K : Kt) : Prop :=
 Ca f_slices_Grow_api_Msg #[(.slice none 0 0), x3_] h fun x18 h17 =>
 LenP (some true) x0_ fun x20 =>
 LoP (fun vt h nx22 => m_slices_Concat_api_Msg_l21 vt x0_ x20 h nx22 K) [x18, (.int .i64 0)] h17
def m_slices_Concat_api_Msg_l3 (vs : List Value) (x0_ x9_ x10_ : Value) (h : Heap) (nx4 : Nt) (K : Kt) : Prop :=
 BiP .lss (gv vs 1) x10_ fun x5 =>
 CdP x5
 (Ei 1 x9_ (gv vs 1) h fun x8 =>
 LenP (some true) x8 fun x9 =>
 BiP .add (gv vs 0) x9 fun x10 =>
 BiP .lss x10 (.int .i64 0) fun x11 =>
 CdP x11
 (VH Pg (Instr.makeInterface t_string (.string { data := #[108, 101, 110, 32, 111, 117, 116, 32, 111, 102, 32, 114, 97, 110, 103, 101] })) h fun x13 h12 =>
 False)
 (BiP .add (gv vs 1) (.int .i64 1) fun x15 =>
 nx4 [x10, x15] h))
 (m_slices_Concat_api_Msg_j16 x0_ (gv vs 0) h K)
def m_slices_Concat_api_Msg (x0_ : Value) (h : Heap) (K : Kt) : Prop :=
 LenP (some true) x0_ fun x2 =>
 LoP (fun vt h nx4 => m_slices_Concat_api_Msg_l3 vt x0_ x0_ x2 h nx4 K) [(.int .i64 0), (.int .i64 0)] h
theorem m_slices_Concat_api_Msg_ok {x0_ : Value} {h : Heap} {K : Kt} (hh : m_slices_Concat_api_Msg x0_ h K) : Ca f_slices_Concat_api_Msg #[x0_] h K := cv Tryz.func284 (by kernel_rfl) hh
/- slices.rotateRight[uint32] -/
def m_slices_rotateRight_uint32 (x0_ x1_ : Value) (h : Heap) (K : Kt) : Prop :=
 LenP (some true) x0_ fun x1 =>
 BiP .sub x1 x1_ fun x2 =>
 Ca f_slices_rotateLeft_uint32 #[x0_, x2] h fun x4 h3 =>
 K (.tuple #[]) h3
theorem m_slices_rotateRight_uint32_ok {x0_ x1_ : Value} {h : Heap} {K : Kt} (hh : m_slices_rotateRight_uint32 x0_ x1_ h K) : Ca f_slices_rotateRight_uint32 #[x0_, x1_] h K := cv Tryz.func286 (by kernel_rfl) hh
/- slices.Insert[[]string,string] -/
def m_slices_Insert_string (x0_ x1_ x2_ : Value) (h : Heap) (K : Kt) : Prop :=
 SlP 1 x0_ (some x1_) none fun x1 =>
 LenP (some true) x2_ fun x2 =>
 BiP .eql x2 (.int .i64 0) fun x3 =>
 CdP x3
 (K x0_ h)
 (LenP (some true) x0_ fun x4 =>
 BiP .eql x1_ x4 fun x5 =>
 CdP x5
 (VH Pg (Builtin.append_ #[t_S_string, t_S_string] t_S_string #[x0_, x2_]) h fun x7 h6 =>
 K x7 h6)
 (BiP .add x4 x2 fun x8 =>
 VH Pg (Builtin.cap_ #[t_S_string] t_int #[x0_]) h fun x10 h9 =>
 BiP .gtr x8 x10 fun x11 =>
 CdP x11
 (SlP 1 x0_ none (some x1_) fun x12 =>
 BiP .add x4 x2 fun x13 =>
 BiP .sub x13 x1_ fun x14 =>
 VH Pg (Builtin.append_ #[t_S_string, t_int] t_S_string #[x12, x14]) h9 fun x16 h15 =>
 SlP 1 x16 (some x1_) none fun x17 =>
 VH Pg (Builtin.copy_ #[t_S_string, t_S_string] t_int #[x17, x2_]) h15 fun x19 h18 =>
 BiP .add x1_ x2 fun x20 =>
 SlP 1 x16 (some x20) none fun x21 =>
 SlP 1 x0_ (some x1_) none fun x22 =>
 VH Pg (Builtin.copy_ #[t_S_string, t_S_string] t_int #[x21, x22]) h18 fun x24 h23 =>
 True ∧ (K x16 h23))
 (BiP .add x4 x2 fun x25 =>
 SlP 1 x0_ none (some x25) fun x26 =>
 BiP .add x1_ x2 fun x27 =>
 SlP 1 x26 (some x27) none fun x28 =>
 Cx f_slices_overlaps_string #[x2_, x28] h9 fun x30 h29 =>
 UnP .not x30 fun x31 =>
 CdP x31
 (BiP .add x1_ x2 fun x32 =>
 SlP 1 x26 (some x32) none fun x33 =>
 SlP 1 x26 (some x1_) none fun x34 =>
 VH Pg (Builtin.copy_ #[t_S_string, t_S_string] t_int #[x33, x34]) h29 fun x36 h35 =>
 True ∧ (SlP 1 x26 (some x1_) none fun x37 =>
 VH Pg (Builtin.copy_ #[t_S_string, t_S_string] t_int #[x37, x2_]) h35 fun x39 h38 =>
 K x26 h38))
 (SlP 1 x26 (some x4) none fun x40 =>
 VH Pg (Builtin.copy_ #[t_S_string, t_S_string] t_int #[x40, x2_]) h29 fun x42 h41 =>
 SlP 1 x26 (some x1_) none fun x43 =>
 Ca f_slices_rotateRight_string #[x43, x2] h41 fun x45 h44 =>
 K x26 h44))))
theorem m_slices_Insert_string_ok {x0_ x1_ x2_ : Value} {h : Heap} {K : Kt} (hh : m_slices_Insert_string x0_ x1_ x2_ h K) : Ca f_slices_Insert_string #[x0_, x1_, x2_] h K := cv Tryz.func287 (by kernel_rfl) hh
/- slices.Delete[[]string,string] -/
def m_slices_Delete_string (x0_ x1_ x2_ : Value) (h : Heap) (K : Kt) : Prop :=
 LenP (some true) x0_ fun x1 =>
 VH Pg (Instr.sliceAt t_S_string x0_ (some x1_) (some x2_) (some x1)) h fun x3 h2 =>
 BiP .eql x1_ x2_ fun x4 =>
 CdP x4
 (K x0_ h2)
 (LenP (some true) x0_ fun x5 =>
 SlP 1 x0_ none (some x1_) fun x6 =>
 SlP 1 x0_ (some x2_) none fun x7 =>
 VH Pg (Builtin.append_ #[t_S_string, t_S_string] t_S_string #[x6, x7]) h2 fun x9 h8 =>
 True ∧ (LenP (some true) x9 fun x10 =>
 SlP 1 x9 (some x10) (some x5) fun x11 =>
 VH Pg (Builtin.clear_ #[t_S_string] t_tuple_2e38e7 #[x11]) h8 fun x13 h12 =>
 K x9 h12))
theorem m_slices_Delete_string_ok {x0_ x1_ x2_ : Value} {h : Heap} {K : Kt} (hh : m_slices_Delete_string x0_ x1_ x2_ h K) : Ca f_slices_Delete_string #[x0_, x1_, x2_] h K := cv Tryz.func288 (by kernel_rfl) hh
/- slices.Grow[[]sluicegate/api.Msg,sluicegate/api.Msg] -/
def m_slices_Grow_api_Msg_j20 (x0_ : Value) (h : Heap) (K : Kt) : Prop :=
 K x0_ h
def m_slices_Grow_api_Msg (x0_ x1_ : Value) (h : Heap) (K : Kt) : Prop :=
 BiP .lss x1_ (.int .i64 0) fun x2 =>
 CdP x2
 (VH Pg (Instr.makeInterface t_string (.string { data := #[99, 97, 110, 110, 111, 116, 32, 98, 101, 32, 110, 101, 103, 97, 116, 105, 118, 101] })) h fun x4 h3 =>
 False)
 (VH Pg (Builtin.cap_ #[t_S_api_Msg] t_int #[x0_]) h fun x8 h7 =>
 LenP (some true) x0_ fun x9 =>
 BiP .sub x8 x9 fun x10 =>
 BiP .sub x1_ x10 fun x11 =>
 BiP .gtr x11 (.int .i64 0) fun x12 =>
 CdP x12
 (VH Pg (Builtin.cap_ #[t_S_api_Msg] t_int #[x0_]) h7 fun x14 h13 =>
 SlP 3 x0_ none (some x14) fun x15 =>
 VH Pg (Builtin.append_ #[t_S_api_Msg, t_int] t_S_api_Msg #[x15, x11]) h13 fun x17 h16 =>
 LenP (some true) x0_ fun x18 =>
 SlP 3 x17 none (some x18) fun x19 =>
 m_slices_Grow_api_Msg_j20 x19 h16 K)
 (m_slices_Grow_api_Msg_j20 x0_ h7 K))
theorem m_slices_Grow_api_Msg_ok {x0_ x1_ : Value} {h : Heap} {K : Kt} (hh : m_slices_Grow_api_Msg x0_ x1_ h K) : Ca f_slices_Grow_api_Msg #[x0_, x1_] h K := cv Tryz.func289 (by kernel_rfl) hh
/- slices.rotateLeft[uint32] -/
def m_slices_rotateLeft_uint32 (x0_ x1_ : Value) (h : Heap) (K : Kt) : Prop :=
 SlP 1 x0_ none (some x1_) fun x1 =>
 Ca f_slices_Reverse_uint32 #[x1] h fun x3 h2 =>
 SlP 1 x0_ (some x1_) none fun x4 =>
 Ca f_slices_Reverse_uint32 #[x4] h2 fun x6 h5 =>
 Ca f_slices_Reverse_uint32 #[x0_] h5 fun x8 h7 =>
 K (.tuple #[]) h7
theorem m_slices_rotateLeft_uint32_ok {x0_ x1_ : Value} {h : Heap} {K : Kt} (hh : m_slices_rotateLeft_uint32 x0_ x1_ h K) : Ca f_slices_rotateLeft_uint32 #[x0_, x1_] h K := cv Tryz.func290 (by kernel_rfl) hh
/- slices.rotateRight[string] -/
def m_slices_rotateRight_string (x0_ x1_ : Value) (h : Heap) (K : Kt) : Prop :=
 LenP (some true) x0_ fun x1 =>
 BiP .sub x1 x1_ fun x2 =>
 Ca f_slices_rotateLeft_string #[x0_, x2] h fun x4 h3 =>
 K (.tuple #[]) h3
theorem m_slices_rotateRight_string_ok {x0_ x1_ : Value} {h : Heap} {K : Kt} (hh : m_slices_rotateRight_string x0_ x1_ h K) : Ca f_slices_rotateRight_string #[x0_, x1_] h K := cv Tryz.func292 (by kernel_rfl) hh
/- slices.Reverse[[]uint32,uint32] -/
def m_slices_Reverse_uint32_l3 (vs : List Value) (x0_ : Value) (h : Heap) (nx4 : Nt) (K : Kt) : Prop :=
 BiP .lss (gv vs 0) (gv vs 1) fun x5 =>
 CdP x5
 (Ei 1 x0_ (gv vs 1) h fun x8 =>
 Ei 1 x0_ (gv vs 0) h fun x10 =>
 IxP 1 x0_ (gv vs 0) fun x11 =>
 StP x11 x8 h fun h12 =>
 True ∧ (IxP 1 x0_ (gv vs 1) fun x13 =>
 StP x13 x10 h12 fun h14 =>
 True ∧ (BiP .add (gv vs 0) (.int .i64 1) fun x15 =>
 BiP .sub (gv vs 1) (.int .i64 1) fun x16 =>
 nx4 [x15, x16] h14)))
 (K (.tuple #[]) h)
def m_slices_Reverse_uint32 (x0_ : Value) (h : Heap) (K : Kt) : Prop :=
 LenP (some true) x0_ fun x1 =>
 BiP .sub x1 (.int .i64 1) fun x2 =>
 LoP (fun vt h nx4 => m_slices_Reverse_uint32_l3 vt x0_ h nx4 K) [(.int .i64 0), x2] h
theorem m_slices_Reverse_uint32_ok {x0_ : Value} {h : Heap} {K : Kt} (hh : m_slices_Reverse_uint32 x0_ h K) : Ca f_slices_Reverse_uint32 #[x0_] h K := cv Tryz.func293 (by kernel_rfl) hh
/- slices.rotateLeft[string] -/
def m_slices_rotateLeft_string (x0_ x1_ : Value) (h : Heap) (K : Kt) : Prop :=
 SlP 1 x0_ none (some x1_) fun x1 =>
 Ca f_slices_Reverse_string #[x1] h fun x3 h2 =>
 SlP 1 x0_ (some x1_) none fun x4 =>
 Ca f_slices_Reverse_string #[x4] h2 fun x6 h5 =>
 Ca f_slices_Reverse_string #[x0_] h5 fun x8 h7 =>
 K (.tuple #[]) h7
theorem m_slices_rotateLeft_string_ok {x0_ x1_ : Value} {h : Heap} {K : Kt} (hh : m_slices_rotateLeft_string x0_ x1_ h K) : Ca f_slices_rotateLeft_string #[x0_, x1_] h K := cv Tryz.func294 (by kernel_rfl) hh
/- slices.Reverse[[]string,string] -/
def m_slices_Reverse_string_l3 (vs : List Value) (x0_ : Value) (h : Heap) (nx4 : Nt) (K : Kt) : Prop :=
 BiP .lss (gv vs 0) (gv vs 1) fun x5 =>
 CdP x5
 (Ei 1 x0_ (gv vs 1) h fun x8 =>
 Ei 1 x0_ (gv vs 0) h fun x10 =>
 IxP 1 x0_ (gv vs 0) fun x11 =>
 StP x11 x8 h fun h12 =>
 True ∧ (IxP 1 x0_ (gv vs 1) fun x13 =>
 StP x13 x10 h12 fun h14 =>
 True ∧ (BiP .add (gv vs 0) (.int .i64 1) fun x15 =>
 BiP .sub (gv vs 1) (.int .i64 1) fun x16 =>
 nx4 [x15, x16] h14)))
 (K (.tuple #[]) h)
def m_slices_Reverse_string (x0_ : Value) (h : Heap) (K : Kt) : Prop :=
 LenP (some true) x0_ fun x1 =>
 BiP .sub x1 (.int .i64 1) fun x2 =>
 LoP (fun vt h nx4 => m_slices_Reverse_string_l3 vt x0_ h nx4 K) [(.int .i64 0), x2] h
theorem m_slices_Reverse_string_ok {x0_ : Value} {h : Heap} {K : Kt} (hh : m_slices_Reverse_string x0_ h K) : Ca f_slices_Reverse_string #[x0_] h K := cv Tryz.func295 (by kernel_rfl) hh
end Go.Sg
