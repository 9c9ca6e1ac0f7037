/-
  Part 9 of a proof: own texts, merged by program.
-/
import Derived.Test.YtfdephgpijheoaaGreatDoorP08
set_option linter.unusedVariables false
set_option linter.unusedSimpArgs false
set_option maxRecDepth 100000
namespace Go.Sg
open Go Vc Go.Proofs
def m_shelf_Shelf_Flush (x0_ : Value) (h : Heap) (K : Kt) : Prop :=
 Ca f_shelf_Shelf_made #[x0_] h fun x2 h1 =>
 BiP .neq x2 (.int .i64 0) fun x3 =>
 CdP x3
 (K x2 h1)
 (Fl 9 x0_ h1 fun x6 =>
 Ca f_cache_Cache_Flush #[x6] h1 fun x8 h7 =>
 K x8 h7)
theorem m_shelf_Shelf_Flush_ok {x0_ : Value} {h : Heap} {K : Kt} (hh : m_shelf_Shelf_Flush x0_ h K) : Ca f_shelf_Shelf_Flush #[x0_] h K := cv Tryz.func83 (by kernel_rfl) hh
def m_shelf_Shelf_Left (x0_ : Value) (h : Heap) (K : Kt) : Prop :=
 EqP .eql t_P_shelf_Shelf (.tmp 3) (.const (.pointer none)) x0_ (.pointer none) h fun x2 h1 =>
 CdP x2
 (K (.int .i64 0) h1)
 (Fl 10 x0_ h1 fun x5 =>
 Ca f_pool_Pool_Free #[x5] h1 fun x7 h6 =>
 K x7 h6)
theorem m_shelf_Shelf_Left_ok {x0_ : Value} {h : Heap} {K : Kt} (hh : m_shelf_Shelf_Left x0_ h K) : Ca f_shelf_Shelf_Left #[x0_] h K := cv Tryz.func102 (by kernel_rfl) hh
def m_shelf_New_j30 (x1_ x2_ x7_ : Value) (h : Heap) (K : Kt) : Prop :=
 Fv 0 x2_ h fun x32 =>
 Ca f_pool_New #[x32] h fun x34 h33 =>
 ExP x34 0 fun x35 =>
 ExP x34 1 fun x36 =>
 BiP .neq x36 (.int .i64 0) fun x37 =>
 CdP x37
 (K (.tuple #[(.pointer none), x36]) h33)
 (LdA 8 x2_ h33 fun x38 =>
 BlP bt_shelf_Shelf [(0, x38), (1, x1_), (2, x7_), (3, x35)] fun x39 =>
 BxP t_shelf_Shelf x39 h33 fun x41 h40 =>
 K (.tuple #[x41, (.int .i64 0)]) h40)
def m_shelf_New_j29 (x1_ x2_ x7_ x36_ : Value) (h : Heap) (K : Kt) : Prop :=
 CdP x36_
 (K (.tuple #[(.pointer none), (.int .i64 3)]) h)
 (m_shelf_New_j30 x1_ x2_ x7_ h K)
def m_shelf_New (x0_ x1_ : Value) (h : Heap) (K : Kt) : Prop :=
 BxP t_api_Config x0_ h fun x2 h1 =>
 LdA 8 x2 h1 fun x3 =>
 Ca f_conf_Check #[x3] h1 fun x5 h4 =>
 BiP .neq x5 (.int .i64 0) fun x6 =>
 CdP x6
 (K (.tuple #[(.pointer none), x5]) h4)
 (Fv 2 x2 h4 fun x8 =>
 Ca f_cache_New #[x1_, x8] h4 fun x10 h9 =>
 ExP x10 0 fun x11 =>
 ExP x10 1 fun x12 =>
 BiP .neq x12 (.int .i64 0) fun x13 =>
 CdP x13
 (K (.tuple #[(.pointer none), x12]) h9)
 (∃ X16 : XS,
 FaP (some 0) x2 fun x17 =>
 LdX X16 x17 h9 fun x18 =>
 Ca f_dev_Device_Blocks #[x1_] h9 fun x20 h19 =>
 Agr X16 h9 h19 ∧ (BiP .neq x20 x18 fun x21 =>
 CdP x21
 (m_shelf_New_j29 x1_ x2 x11 (.bool true) h19 K)
 (FaP (some 1) x2 fun x23 =>
 LdX X16 x23 h9 fun x24 =>
 Ca f_dev_Device_Bytes #[x1_] h19 fun x26 h25 =>
 Agr X16 h9 h25 ∧ (BiP .neq x26 x24 fun x27 =>
 m_shelf_New_j29 x1_ x2 x11 x27 h25 K)))))
theorem m_shelf_New_ok {x0_ x1_ : Value} {h : Heap} {K : Kt} (hh : m_shelf_New x0_ x1_ h K) : Ca f_shelf_New #[x0_, x1_] h K := cv Tryz.func113 (by kernel_rfl) hh
def m_shelf_Shelf_Config (x0_ : Value) (h : Heap) (K : Kt) : Prop :=
 AlP t_api_Config zt_api_Config h fun x2 h1 =>
 EqP .eql t_P_shelf_Shelf (.tmp 3) (.const (.pointer none)) x0_ (.pointer none) h1 fun x4 h3 =>
 CdP x4
 (BlP bt_api_Config [] fun x5 =>
 StA 8 x2 x5 h3 fun h6 =>
 LdA 8 x2 h6 fun x7 =>
 K x7 h6)
 (Fla 0 8 x0_ h3 fun x10 =>
 StA 8 x2 x10 h3 fun h11 =>
 LdA 8 x2 h11 fun x12 =>
 K x12 h11)
theorem m_shelf_Shelf_Config_ok {x0_ : Value} {h : Heap} {K : Kt} (hh : m_shelf_Shelf_Config x0_ h K) : Ca f_shelf_Shelf_Config #[x0_] h K := cv Tryz.func127 (by kernel_rfl) hh
def m_shelf_Shelf_made_j13 (h : Heap) (K : Kt) : Prop :=
 K (.int .i64 0) h
def m_shelf_Shelf_made_j12 (x11_ : Value) (h : Heap) (K : Kt) : Prop :=
 CdP x11_
 (K (.int .i64 1) h)
 (m_shelf_Shelf_made_j13 h K)
def m_shelf_Shelf_made (x0_ : Value) (h : Heap) (K : Kt) : Prop :=
 EqP .eql t_P_shelf_Shelf (.tmp 3) (.const (.pointer none)) x0_ (.pointer none) h fun x4 h3 =>
 CdP x4
 (m_shelf_Shelf_made_j12 (.bool true) h3 K)
 (Fl 9 x0_ h3 fun x8 =>
 EqP .eql t_P_cache_Cache (.tmp 9) (.const (.pointer none)) x8 (.pointer none) h3 fun x10 h9 =>
 m_shelf_Shelf_made_j12 x10 h9 K)
theorem m_shelf_Shelf_made_ok {x0_ : Value} {h : Heap} {K : Kt} (hh : m_shelf_Shelf_made x0_ h K) : Ca f_shelf_Shelf_made #[x0_] h K := cv Tryz.func129 (by kernel_rfl) hh
def m_cache_Cache_Flush_j26 (h : Heap) (K : Kt) : Prop :=
 K (.int .i64 0) h
def m_cache_Cache_Flush_l7 (vs : List Value) (x0_ x8_ x9_ : Value) (h : Heap) (nx8 : Nt) (K : Kt) : Prop :=
 BiP .lss (gv vs 0) x9_ fun x9 =>
 CdP x9
 (Ei 1 x8_ (gv vs 0) h fun x12 =>
 ∃ X13 : XS,
 NilP x0_ fun x14 =>
 FaP (some 1) x14 fun x15 =>
 LdX X13 x15 h fun x16 =>
 NilP x0_ fun x17 =>
 FaP (some 2) x17 fun x18 =>
 LdX X13 x18 h fun x19 =>
 VH Pg (Instr.lookup t_M_uint32_int x19 x12 false) h fun x21 h20 =>
 Agr X13 h h20 ∧ (IxP 4 x16 x21 fun x22 =>
 Ca f_cache_Cache_back #[x0_, x22] h20 fun x24 h23 =>
 True ∧ (BiP .add (gv vs 0) (.int .i64 1) fun x25 =>
 nx8 [x25] h23)))
 (m_cache_Cache_Flush_j26 h K)
def m_cache_Cache_Flush (x0_ : Value) (h : Heap) (K : Kt) : Prop :=
 Ca f_cache_Cache_none #[x0_] h fun x2 h1 =>
 CdP x2
 (K (.int .i64 1) h1)
 (Ca f_cache_Cache_Dirty #[x0_] h1 fun x5 h4 =>
 LenP (some true) x5 fun x6 =>
 LoP (fun vt h nx8 => m_cache_Cache_Flush_l7 vt x0_ x5 x6 h nx8 K) [(.int .i64 0)] h4)
theorem m_cache_Cache_Flush_ok {x0_ : Value} {h : Heap} {K : Kt} (hh : m_cache_Cache_Flush x0_ h K) : Ca f_cache_Cache_Flush #[x0_] h K := cv Tryz.func130 (by kernel_rfl) hh
def m_shelf_Shelf_Load (x0_ x1_ : Value) (h : Heap) (K : Kt) : Prop :=
 AlP t_api_Node zt_api_Node h fun x2 h1 =>
 Ca f_shelf_Shelf_there #[x0_, x1_] h1 fun x4 h3 =>
 BiP .neq x4 (.int .i64 0) fun x5 =>
 CdP x5
 (BlP bt_api_Node [] fun x6 =>
 StA 5 x2 x6 h3 fun h7 =>
 LdA 5 x2 h7 fun x8 =>
 K (.tuple #[x8, x4]) h7)
 (Fl 9 x0_ h3 fun x11 =>
 Ca f_cache_Cache_Pin #[x11, x1_] h3 fun x13 h12 =>
 BiP .neq x13 (.int .i64 0) fun x14 =>
 CdP x14
 (BlP bt_api_Node [] fun x15 =>
 StA 5 x2 x15 h12 fun h16 =>
 LdA 5 x2 h16 fun x17 =>
 K (.tuple #[x17, x13]) h16)
 (Fl 9 x0_ h12 fun x20 =>
 Ca f_cache_Cache_Read #[x20, x1_] h12 fun x22 h21 =>
 ExP x22 0 fun x23 =>
 ExP x22 1 fun x24 =>
 Fl 9 x0_ h21 fun x27 =>
 Ca f_cache_Cache_Unpin #[x27, x1_] h21 fun x29 h28 =>
 BiP .neq x24 (.int .i64 0) fun x30 =>
 CdP x30
 (BlP bt_api_Node [] fun x31 =>
 StA 5 x2 x31 h28 fun h32 =>
 LdA 5 x2 h32 fun x33 =>
 K (.tuple #[x33, x24]) h32)
 (Fla 0 8 x0_ h28 fun x36 =>
 Ca f_code_Decode #[x36, x23] h28 fun x38 h37 =>
 ExP x38 0 fun x39 =>
 ExP x38 1 fun x40 =>
 StA 5 x2 x39 h37 fun h41 =>
 LdA 5 x2 h41 fun x42 =>
 K (.tuple #[x42, x40]) h41)))
theorem m_shelf_Shelf_Load_ok {x0_ x1_ : Value} {h : Heap} {K : Kt} (hh : m_shelf_Shelf_Load x0_ x1_ h K) : Ca f_shelf_Shelf_Load #[x0_, x1_] h K := cv Tryz.func150 (by kernel_rfl) hh
def m_cache_New_j40 (x8_ : Value) (h : Heap) (K : Kt) : Prop :=
 K (.tuple #[x8_, (.int .i64 0)]) h
def m_cache_New_l25 (vs : List Value) (x8_ x36_ : Value) (h : Heap) (nx26 : Nt) (K : Kt) : Prop :=
 BiP .lss (gv vs 0) x36_ fun x27 =>
 CdP x27
 (Fl 3 x8_ h fun x31 =>
 BsP st_S_int 1 [(0, (gv vs 0))] h fun x33 h32 =>
 VH Pg (Builtin.append_ #[t_S_int, t_S_int] t_S_int #[x31, x33]) h32 fun x35 h34 =>
 Fs 3 x8_ x35 h34 fun h38 =>
 BiP .add (gv vs 0) (.int .i64 1) fun x39 =>
 nx26 [x39] h38)
 (m_cache_New_j40 x8_ h K)
def m_cache_New_j11 (x0_ x1_ : Value) (h : Heap) (K : Kt) : Prop :=
 Ca f_chain_New #[x1_] h fun x13 h12 =>
 ExP x13 0 fun x14 =>
 ExP x13 1 fun x15 =>
 BiP .neq x15 (.int .i64 0) fun x16 =>
 CdP x16
 (K (.tuple #[(.pointer none), x15]) h12)
 (VH Pg (Instr.makeSlice t_S_cache_frame x1_ x1_) h12 fun x18 h17 =>
 VH Pg (Instr.makeMap t_M_uint32_int none) h17 fun x20 h19 =>
 BlP bt_cache_Cache [(0, x0_), (1, x18), (2, x20), (4, x14)] fun x21 =>
 BxP t_cache_Cache x21 h19 fun x23 h22 =>
 LoP (fun vt h nx26 => m_cache_New_l25 vt x23 x1_ h nx26 K) [(.int .i64 0)] h22)
def m_cache_New_j10 (x0_ x1_ x14_ : Value) (h : Heap) (K : Kt) : Prop :=
 CdP x14_
 (K (.tuple #[(.pointer none), (.int .i64 2)]) h)
 (m_cache_New_j11 x0_ x1_ h K)
def m_cache_New (x0_ x1_ : Value) (h : Heap) (K : Kt) : Prop :=
 Ca f_dev_Device_Blocks #[x0_] h fun x3 h2 =>
 BiP .eql x3 (.int .i64 0) fun x4 =>
 CdP x4
 (K (.tuple #[(.pointer none), (.int .i64 1)]) h2)
 (BiP .lss x1_ (.int .i64 1) fun x6 =>
 CdP x6
 (m_cache_New_j10 x0_ x1_ (.bool true) h2 K)
 (BiP .gtr x1_ (.int .i64 64) fun x8 =>
 m_cache_New_j10 x0_ x1_ x8 h2 K))
theorem m_cache_New_ok {x0_ x1_ : Value} {h : Heap} {K : Kt} (hh : m_cache_New x0_ x1_ h K) : Ca f_cache_New #[x0_, x1_] h K := cv Tryz.func159 (by kernel_rfl) hh
def m_shelf_Shelf_Make (x0_ x1_ : Value) (h : Heap) (K : Kt) : Prop :=
 BxP t_api_Node x1_ h fun x2 h1 =>
 Ca f_shelf_Shelf_made #[x0_] h1 fun x4 h3 =>
 BiP .neq x4 (.int .i64 0) fun x5 =>
 CdP x5
 (K (.tuple #[(.int .u32 0), x4]) h3)
 (Fla 0 8 x0_ h3 fun x8 =>
 LdA 5 x2 h3 fun x9 =>
 Ca f_code_Encode #[x8, x9] h3 fun x11 h10 =>
 True ∧ (ExP x11 0 fun x12 =>
 ExP x11 1 fun x13 =>
 BiP .neq x13 (.int .i64 0) fun x14 =>
 CdP x14
 (K (.tuple #[(.int .u32 0), x13]) h10)
 (Fl 10 x0_ h10 fun x17 =>
 Ca f_pool_Pool_Take #[x17] h10 fun x19 h18 =>
 ExP x19 0 fun x20 =>
 ExP x19 1 fun x21 =>
 BiP .neq x21 (.int .i64 0) fun x22 =>
 CdP x22
 (K (.tuple #[(.int .u32 0), x21]) h18)
 (Ca f_shelf_Shelf_lay #[x0_, x20, x12] h18 fun x24 h23 =>
 BiP .neq x24 (.int .i64 0) fun x25 =>
 CdP x25
 (Fl 10 x0_ h23 fun x28 =>
 Ca f_pool_Pool_Give #[x28, x20] h23 fun x30 h29 =>
 K (.tuple #[(.int .u32 0), x24]) h29)
 (K (.tuple #[x20, (.int .i64 0)]) h23)))))
theorem m_shelf_Shelf_Make_ok {x0_ x1_ : Value} {h : Heap} {K : Kt} (hh : m_shelf_Shelf_Make x0_ x1_ h K) : Ca f_shelf_Shelf_Make #[x0_, x1_] h K := cv Tryz.func163 (by kernel_rfl) hh
def m_shelf_Shelf_Keep_j42 (x0_ x1_ : Value) (h : Heap) (K : Kt) : Prop :=
 Fs 11 x0_ x1_ h fun h45 =>
 K (.int .i64 0) h45
def m_shelf_Shelf_Keep_j28 (x0_ x1_ : Value) (h : Heap) (K : Kt) : Prop :=
 Fl 11 x0_ h fun x32 =>
 BiP .neq x32 (.int .u32 0) fun x33 =>
 CdP x33
 (Fl 9 x0_ h fun x36 =>
 Fl 11 x0_ h fun x39 =>
 Ca f_cache_Cache_Unpin #[x36, x39] h fun x41 h40 =>
 True ∧ (m_shelf_Shelf_Keep_j42 x0_ x1_ h40 K))
 (m_shelf_Shelf_Keep_j42 x0_ x1_ h K)
def m_shelf_Shelf_Keep_j19 (x0_ x1_ : Value) (h : Heap) (K : Kt) : Prop :=
 BiP .neq x1_ (.int .u32 0) fun x21 =>
 CdP x21
 (Fl 9 x0_ h fun x24 =>
 Ca f_cache_Cache_Pin #[x24, x1_] h fun x26 h25 =>
 BiP .neq x26 (.int .i64 0) fun x27 =>
 CdP x27
 (K x26 h25)
 (m_shelf_Shelf_Keep_j28 x0_ x1_ h25 K))
 (m_shelf_Shelf_Keep_j28 x0_ x1_ h K)
def m_shelf_Shelf_Keep_j18 (x0_ x1_ x6_ x27_ : Value) (h : Heap) (K : Kt) : Prop :=
 CdP x27_
 (K x6_ h)
 (m_shelf_Shelf_Keep_j19 x0_ x1_ h K)
def m_shelf_Shelf_Keep_j6 (x0_ x1_ : Value) (h : Heap) (K : Kt) : Prop :=
 Ca f_shelf_Shelf_made #[x0_] h fun x9 h8 =>
 BiP .neq x9 (.int .i64 0) fun x11 =>
 CdP x11
 (m_shelf_Shelf_Keep_j18 x0_ x1_ x9 (.bool true) h8 K)
 (Fl 11 x0_ h8 fun x15 =>
 BiP .eql x1_ x15 fun x16 =>
 m_shelf_Shelf_Keep_j18 x0_ x1_ x9 x16 h8 K)
def m_shelf_Shelf_Keep (x0_ x1_ : Value) (h : Heap) (K : Kt) : Prop :=
 BiP .neq x1_ (.int .u32 0) fun x2 =>
 CdP x2
 (Ca f_shelf_Shelf_there #[x0_, x1_] h fun x4 h3 =>
 BiP .neq x4 (.int .i64 0) fun x5 =>
 CdP x5
 (K x4 h3)
 (m_shelf_Shelf_Keep_j6 x0_ x1_ h3 K))
 (m_shelf_Shelf_Keep_j6 x0_ x1_ h K)
theorem m_shelf_Shelf_Keep_ok {x0_ x1_ : Value} {h : Heap} {K : Kt} (hh : m_shelf_Shelf_Keep x0_ x1_ h K) : Ca f_shelf_Shelf_Keep #[x0_, x1_] h K := cv Tryz.func164 (by kernel_rfl) hh
def m_cache_Cache_none_j11 (x2_ : Value) (h : Heap) (K : Kt) : Prop :=
 K x2_ h
def m_cache_Cache_none (x0_ : Value) (h : Heap) (K : Kt) : Prop :=
 EqP .eql t_P_cache_Cache (.tmp 3) (.const (.pointer none)) x0_ (.pointer none) h fun x3 h2 =>
 CdP x3
 (m_cache_Cache_none_j11 (.bool true) h2 K)
 (Fl 0 x0_ h2 fun x7 =>
 EqP .eql t_P_dev_Device (.tmp 9) (.const (.pointer none)) x7 (.pointer none) h2 fun x9 h8 =>
 m_cache_Cache_none_j11 x9 h8 K)
theorem m_cache_Cache_none_ok {x0_ : Value} {h : Heap} {K : Kt} (hh : m_cache_Cache_none x0_ h K) : Ca f_cache_Cache_none #[x0_] h K := cv Tryz.func170 (by kernel_rfl) hh
def m_cache_Cache_Dirty_j34 (x0_ x3_ x13_ x14_ x15_ : Value) (h : Heap) (nx13 : Nt) (K : Kt) : Prop :=
 BiP .add x15_ (.int .i64 1) fun x35 =>
 nx13 [x3_, x35] h
def m_cache_Cache_Dirty_j36 (x3_ : Value) (h : Heap) (K : Kt) : Prop :=
 K x3_ h
def m_cache_Cache_Dirty_l12 (vs : List Value) (x0_ x13_ x14_ : Value) (h : Heap) (nx13 : Nt) (K : Kt) : Prop :=
 BiP .lss (gv vs 1) x14_ fun x14 =>
 CdP x14
 (Ei 1 x13_ (gv vs 1) h fun x17 =>
 ∃ X18 : XS,
 NilP x0_ fun x19 =>
 FaP (some 1) x19 fun x20 =>
 LdX X18 x20 h fun x21 =>
 NilP x0_ fun x22 =>
 FaP (some 2) x22 fun x23 =>
 LdX X18 x23 h fun x24 =>
 VH Pg (Instr.lookup t_M_uint32_int x24 x17 false) h fun x26 h25 =>
 Agr X18 h h25 ∧ (IxP 4 x21 x26 fun x27 =>
 FaP (some 2) x27 fun x28 =>
 LdX X18 x28 h fun x29 =>
 CdP x29
 (BsP st_S_uint32 1 [(0, x17)] h25 fun x31 h30 =>
 VH Pg (Builtin.append_ #[t_S_uint32, t_S_uint32] t_S_uint32 #[(gv vs 0), x31]) h30 fun x33 h32 =>
 m_cache_Cache_Dirty_j34 x0_ x33 x13_ x14_ (gv vs 1) h32 nx13 K)
 (m_cache_Cache_Dirty_j34 x0_ (gv vs 0) x13_ x14_ (gv vs 1) h25 nx13 K)))
 (m_cache_Cache_Dirty_j36 (gv vs 0) h K)
def m_cache_Cache_Dirty (x0_ : Value) (h : Heap) (K : Kt) : Prop :=
 Ca f_cache_Cache_none #[x0_] h fun x2 h1 =>
 CdP x2
 (K (.slice none 0 0) h1)
 (Fl 2 x0_ h1 fun x6 =>
 Ca f_maps_Keys_map #[x6] h1 fun x8 h7 =>
 Ca f_slices_Sorted_uint32 #[x8] h7 fun x10 h9 =>
 LenP (some true) x10 fun x11 =>
 LoP (fun vt h nx13 => m_cache_Cache_Dirty_l12 vt x0_ x10 x11 h nx13 K) [(.slice none 0 0), (.int .i64 0)] h9)
theorem m_cache_Cache_Dirty_ok {x0_ : Value} {h : Heap} {K : Kt} (hh : m_cache_Cache_Dirty x0_ h K) : Ca f_cache_Cache_Dirty #[x0_] h K := cv Tryz.func171 (by kernel_rfl) hh
def m_cache_Cache_back (x0_ x1_ : Value) (h : Heap) (K : Kt) : Prop :=
 Fl 2 x1_ h fun x3 =>
 CdP x3
 (Fl 0 x0_ h fun x6 =>
 Fl 0 x1_ h fun x9 =>
 Fl 1 x1_ h fun x12 =>
 Ca f_dev_Device_Write #[x6, x9, x12] h fun x14 h13 =>
 True ∧ (Fs 2 x1_ (.bool false) h13 fun h17 =>
 K (.tuple #[]) h17))
 (K (.tuple #[]) h)
theorem m_cache_Cache_back_ok {x0_ x1_ : Value} {h : Heap} {K : Kt} (hh : m_cache_Cache_back x0_ x1_ h K) : Ca f_cache_Cache_back #[x0_, x1_] h K := cv Tryz.func172 (by kernel_rfl) hh
def m_shelf_Shelf_Has_j11 (x4_ : Value) (h : Heap) (K : Kt) : Prop :=
 K x4_ h
def m_shelf_Shelf_Has (x0_ x1_ : Value) (h : Heap) (K : Kt) : Prop :=
 EqP .neq t_P_shelf_Shelf (.tmp 5) (.const (.pointer none)) x0_ (.pointer none) h fun x3 h2 =>
 CdP x3
 (Fl 10 x0_ h2 fun x6 =>
 Ca f_pool_Pool_Has #[x6, x1_] h2 fun x8 h7 =>
 m_shelf_Shelf_Has_j11 x8 h7 K)
 (m_shelf_Shelf_Has_j11 (.bool false) h2 K)
theorem m_shelf_Shelf_Has_ok {x0_ x1_ : Value} {h : Heap} {K : Kt} (hh : m_shelf_Shelf_Has x0_ x1_ h K) : Ca f_shelf_Shelf_Has #[x0_, x1_] h K := cv Tryz.func181 (by kernel_rfl) hh
def m_shelf_Shelf_Mark (x0_ x1_ : Value) (h : Heap) (K : Kt) : Prop :=
 Ca f_shelf_Shelf_there #[x0_, x1_] h fun x2 h1 =>
 BiP .neq x2 (.int .i64 0) fun x3 =>
 CdP x3
 (K x2 h1)
 (Fl 10 x0_ h1 fun x6 =>
 Ca f_pool_Pool_Mark #[x6, x1_] h1 fun x8 h7 =>
 K x8 h7)
theorem m_shelf_Shelf_Mark_ok {x0_ x1_ : Value} {h : Heap} {K : Kt} (hh : m_shelf_Shelf_Mark x0_ x1_ h K) : Ca f_shelf_Shelf_Mark #[x0_, x1_] h K := cv Tryz.func182 (by kernel_rfl) hh
def m_shelf_Shelf_there_j24 (h : Heap) (K : Kt) : Prop :=
 K (.int .i64 0) h
def m_shelf_Shelf_there_j23 (x15_ : Value) (h : Heap) (K : Kt) : Prop :=
 CdP x15_
 (K (.int .i64 4) h)
 (m_shelf_Shelf_there_j24 h K)
def m_shelf_Shelf_there_j12 (x0_ x1_ x5_ : Value) (h : Heap) (K : Kt) : Prop :=
 CdP x5_
 (K (.int .i64 1) h)
 (BiP .eql x1_ (.int .u32 0) fun x14 =>
 CdP x14
 (m_shelf_Shelf_there_j23 (.bool true) h K)
 (CvP .i64 x1_ fun x16 =>
 NilP x0_ fun x17 =>
 FaP (some 0) x17 fun x18 =>
 Fv 0 x18 h fun x20 =>
 BiP .geq x16 x20 fun x21 =>
 m_shelf_Shelf_there_j23 x21 h K))
def m_shelf_Shelf_there (x0_ x1_ : Value) (h : Heap) (K : Kt) : Prop :=
 EqP .eql t_P_shelf_Shelf (.tmp 6) (.const (.pointer none)) x0_ (.pointer none) h fun x4 h3 =>
 CdP x4
 (m_shelf_Shelf_there_j12 x0_ x1_ (.bool true) h3 K)
 (Fl 9 x0_ h3 fun x8 =>
 EqP .eql t_P_cache_Cache (.tmp 12) (.const (.pointer none)) x8 (.pointer none) h3 fun x10 h9 =>
 m_shelf_Shelf_there_j12 x0_ x1_ x10 h9 K)
theorem m_shelf_Shelf_there_ok {x0_ x1_ : Value} {h : Heap} {K : Kt} (hh : m_shelf_Shelf_there x0_ x1_ h K) : Ca f_shelf_Shelf_there #[x0_, x1_] h K := cv Tryz.func199 (by kernel_rfl) hh
def m_cache_Cache_Pin (x0_ x1_ : Value) (h : Heap) (K : Kt) : Prop :=
 Ca f_cache_Cache_there #[x0_, x1_] h fun x2 h1 =>
 BiP .neq x2 (.int .i64 0) fun x3 =>
 CdP x3
 (K x2 h1)
 (Fl 2 x0_ h1 fun x6 =>
 VH Pg (Instr.lookup t_M_uint32_int x6 x1_ true) h1 fun x8 h7 =>
 ExP x8 0 fun x9 =>
 ExP x8 1 fun x10 =>
 CdP x10
 (Fl 1 x0_ h7 fun x13 =>
 Ef 4 3 x13 x9 h7 fun x16 =>
 BiP .add x16 (.int .i64 1) fun x17 =>
 IxP 4 x13 x9 fun x18 =>
 FaP (some 3) x18 fun x19 =>
 StP x19 x17 h7 fun h20 =>
 Fl 4 x0_ h20 fun x23 =>
 Ca f_chain_Chain_Cut #[x23, x9] h20 fun x25 h24 =>
 K (.int .i64 0) h24)
 (Ca f_cache_Cache_room #[x0_] h7 fun x27 h26 =>
 ExP x27 0 fun x28 =>
 ExP x27 1 fun x29 =>
 UnP .not x29 fun x30 =>
 CdP x30
 (K (.int .i64 7) h26)
 (Fl 0 x0_ h26 fun x33 =>
 Ca f_dev_Device_Read #[x33, x1_] h26 fun x35 h34 =>
 ExP x35 0 fun x36 =>
 ExP x35 1 fun x37 =>
 BiP .neq x37 (.int .i64 0) fun x38 =>
 CdP x38
 (Fl 3 x0_ h34 fun x41 =>
 BsP st_S_int 1 [(0, x28)] h34 fun x43 h42 =>
 VH Pg (Builtin.append_ #[t_S_int, t_S_int] t_S_int #[x41, x43]) h42 fun x45 h44 =>
 Fs 3 x0_ x45 h44 fun h48 =>
 K x37 h48)
 (BlP bt_cache_frame [(0, x1_), (1, x36)] fun x49 =>
 Ca f_cache_Cache_put #[x0_, x28, x49] h34 fun x51 h50 =>
 K (.int .i64 0) h50))))
theorem m_cache_Cache_Pin_ok {x0_ x1_ : Value} {h : Heap} {K : Kt} (hh : m_cache_Cache_Pin x0_ x1_ h K) : Ca f_cache_Cache_Pin #[x0_, x1_] h K := cv Tryz.func200 (by kernel_rfl) hh
def m_cache_Cache_Read (x0_ x1_ : Value) (h : Heap) (K : Kt) : Prop :=
 Ca f_cache_Cache_pinned #[x0_, x1_] h fun x2 h1 =>
 ExP x2 0 fun x3 =>
 ExP x2 1 fun x4 =>
 BiP .neq x4 (.int .i64 0) fun x5 =>
 CdP x5
 (K (.tuple #[(.slice none 0 0), x4]) h1)
 (Fl 1 x3 h1 fun x8 =>
 Ca f_slices_Clone_byte #[x8] h1 fun x10 h9 =>
 K (.tuple #[x10, (.int .i64 0)]) h9)
theorem m_cache_Cache_Read_ok {x0_ x1_ : Value} {h : Heap} {K : Kt} (hh : m_cache_Cache_Read x0_ x1_ h K) : Ca f_cache_Cache_Read #[x0_, x1_] h K := cv Tryz.func201 (by kernel_rfl) hh
def m_cache_Cache_Unpin_j29 (h : Heap) (K : Kt) : Prop :=
 K (.int .i64 0) h
def m_cache_Cache_Unpin (x0_ x1_ : Value) (h : Heap) (K : Kt) : Prop :=
 Ca f_cache_Cache_pinned #[x0_, x1_] h fun x2 h1 =>
 ExP x2 0 fun x3 =>
 ExP x2 1 fun x4 =>
 BiP .neq x4 (.int .i64 0) fun x5 =>
 CdP x5
 (K x4 h1)
 (Fl 3 x3 h1 fun x8 =>
 BiP .sub x8 (.int .i64 1) fun x9 =>
 Fs 3 x3 x9 h1 fun h12 =>
 Fl 3 x3 h12 fun x16 =>
 BiP .eql x16 (.int .i64 0) fun x17 =>
 CdP x17
 (∃ X18 : XS,
 NilP x0_ fun x19 =>
 FaP (some 4) x19 fun x20 =>
 LdX X18 x20 h12 fun x21 =>
 NilP x0_ fun x22 =>
 FaP (some 2) x22 fun x23 =>
 LdX X18 x23 h12 fun x24 =>
 VH Pg (Instr.lookup t_M_uint32_int x24 x1_ false) h12 fun x26 h25 =>
 Agr X18 h12 h25 ∧ (Ca f_chain_Chain_Front #[x21, x26] h25 fun x28 h27 =>
 True ∧ (m_cache_Cache_Unpin_j29 h27 K)))
 (m_cache_Cache_Unpin_j29 h12 K))
theorem m_cache_Cache_Unpin_ok {x0_ x1_ : Value} {h : Heap} {K : Kt} (hh : m_cache_Cache_Unpin x0_ x1_ h K) : Ca f_cache_Cache_Unpin #[x0_, x1_] h K := cv Tryz.func202 (by kernel_rfl) hh
def m_shelf_Shelf_lay (x0_ x1_ x2_ : Value) (h : Heap) (K : Kt) : Prop :=
 Fl 11 x0_ h fun x3 =>
 BiP .eql x1_ x3 fun x4 =>
 CdP x4
 (Fl 9 x0_ h fun x7 =>
 Ca f_cache_Cache_Write #[x7, x1_, x2_] h fun x9 h8 =>
 K x9 h8)
 (Fl 9 x0_ h fun x12 =>
 Ca f_cache_Cache_Fresh #[x12, x1_] h fun x14 h13 =>
 BiP .neq x14 (.int .i64 0) fun x15 =>
 CdP x15
 (K x14 h13)
 (Fl 9 x0_ h13 fun x18 =>
 Ca f_cache_Cache_Write #[x18, x1_, x2_] h13 fun x20 h19 =>
 Fl 9 x0_ h19 fun x23 =>
 Ca f_cache_Cache_Unpin #[x23, x1_] h19 fun x25 h24 =>
 K x20 h24))
theorem m_shelf_Shelf_lay_ok {x0_ x1_ x2_ : Value} {h : Heap} {K : Kt} (hh : m_shelf_Shelf_lay x0_ x1_ x2_ h K) : Ca f_shelf_Shelf_lay #[x0_, x1_, x2_] h K := cv Tryz.func218 (by kernel_rfl) hh
def m_cache_Cache_there (x0_ x1_ : Value) (h : Heap) (K : Kt) : Prop :=
 Ca f_cache_Cache_none #[x0_] h fun x3 h2 =>
 CdP x3
 (K (.int .i64 1) h2)
 (CvP .i64 x1_ fun x4 =>
 Fl 0 x0_ h2 fun x7 =>
 Ca f_dev_Device_Blocks #[x7] h2 fun x9 h8 =>
 BiP .geq x4 x9 fun x10 =>
 CdP x10
 (K (.int .i64 4) h8)
 (K (.int .i64 0) h8))
theorem m_cache_Cache_there_ok {x0_ x1_ : Value} {h : Heap} {K : Kt} (hh : m_cache_Cache_there x0_ x1_ h K) : Ca f_cache_Cache_there #[x0_, x1_] h K := cv Tryz.func242 (by kernel_rfl) hh
def m_cache_Cache_room_j23 (x0_ : Value) (h : Heap) (K : Kt) : Prop :=
 Fl 3 x0_ h fun x26 =>
 LenP (some true) x26 fun x27 =>
 BiP .sub x27 (.int .i64 1) fun x28 =>
 Fl 3 x0_ h fun x31 =>
 Ei 1 x31 x28 h fun x33 =>
 Fl 3 x0_ h fun x36 =>
 SlP 1 x36 none (some x28) fun x37 =>
 Fs 3 x0_ x37 h fun h40 =>
 K (.tuple #[x33, (.bool true)]) h40
def m_cache_Cache_room (x0_ : Value) (h : Heap) (K : Kt) : Prop :=
 Fl 3 x0_ h fun x4 =>
 LenP (some true) x4 fun x5 =>
 BiP .eql x5 (.int .i64 0) fun x6 =>
 CdP x6
 (Fl 4 x0_ h fun x9 =>
 Ca f_chain_Chain_Last #[x9] h fun x11 h10 =>
 ExP x11 0 fun x12 =>
 ExP x11 1 fun x13 =>
 UnP .not x13 fun x14 =>
 CdP x14
 (K (.tuple #[(.int .i64 0), (.bool false)]) h10)
 (Fl 1 x0_ h10 fun x17 =>
 IxP 4 x17 x12 fun x18 =>
 Ca f_cache_Cache_back #[x0_, x18] h10 fun x20 h19 =>
 Ca f_cache_Cache_leave #[x0_, x12] h19 fun x22 h21 =>
 m_cache_Cache_room_j23 x0_ h21 K))
 (m_cache_Cache_room_j23 x0_ h K)
theorem m_cache_Cache_room_ok {x0_ : Value} {h : Heap} {K : Kt} (hh : m_cache_Cache_room x0_ h K) : Ca f_cache_Cache_room #[x0_] h K := cv Tryz.func244 (by kernel_rfl) hh
def m_cache_Cache_put (x0_ x1_ x2_ : Value) (h : Heap) (K : Kt) : Prop :=
 BxP t_cache_frame x2_ h fun x2 h1 =>
 FaP (some 3) x2 fun x3 =>
 StP x3 (.int .i64 1) h1 fun h4 =>
 Fl 1 x0_ h4 fun x7 =>
 LdA 4 x2 h4 fun x8 =>
 IxP 4 x7 x1_ fun x9 =>
 StA 4 x9 x8 h4 fun h10 =>
 True ∧ (Fl 2 x0_ h10 fun x13 =>
 Fv 0 x2 h10 fun x15 =>
 UH Pg (Instr.mapUpdate t_M_uint32_int x13 x15 x1_) h10 fun h16 =>
 True ∧ (Fl 4 x0_ h16 fun x19 =>
 Ca f_chain_Chain_Cut #[x19, x1_] h16 fun x21 h20 =>
 K (.tuple #[]) h20))
theorem m_cache_Cache_put_ok {x0_ x1_ x2_ : Value} {h : Heap} {K : Kt} (hh : m_cache_Cache_put x0_ x1_ x2_ h K) : Ca f_cache_Cache_put #[x0_, x1_, x2_] h K := cv Tryz.func245 (by kernel_rfl) hh
def m_cache_Cache_pinned_j23 (x0_ x6_ : Value) (h : Heap) (K : Kt) : Prop :=
 Fl 1 x0_ h fun x26 =>
 IxP 4 x26 x6_ fun x27 =>
 K (.tuple #[x27, (.int .i64 0)]) h
def m_cache_Cache_pinned_j22 (x0_ x6_ x31_ : Value) (h : Heap) (K : Kt) : Prop :=
 CdP x31_
 (K (.tuple #[(.pointer none), (.int .i64 8)]) h)
 (m_cache_Cache_pinned_j23 x0_ x6_ h K)
def m_cache_Cache_pinned (x0_ x1_ : Value) (h : Heap) (K : Kt) : Prop :=
 Ca f_cache_Cache_none #[x0_] h fun x2 h1 =>
 CdP x2
 (K (.tuple #[(.pointer none), (.int .i64 1)]) h1)
 (Fl 2 x0_ h1 fun x5 =>
 VH Pg (Instr.lookup t_M_uint32_int x5 x1_ true) h1 fun x7 h6 =>
 ExP x7 0 fun x8 =>
 ExP x7 1 fun x9 =>
 UnP .not x9 fun x12 =>
 CdP x12
 (m_cache_Cache_pinned_j22 x0_ x8 (.bool true) h6 K)
 (Fl 1 x0_ h6 fun x16 =>
 Ef 4 3 x16 x8 h6 fun x19 =>
 BiP .eql x19 (.int .i64 0) fun x20 =>
 m_cache_Cache_pinned_j22 x0_ x8 x20 h6 K))
theorem m_cache_Cache_pinned_ok {x0_ x1_ : Value} {h : Heap} {K : Kt} (hh : m_cache_Cache_pinned x0_ x1_ h K) : Ca f_cache_Cache_pinned #[x0_, x1_] h K := cv Tryz.func246 (by kernel_rfl) hh
def m_cache_Cache_Write (x0_ x1_ x2_ : Value) (h : Heap) (K : Kt) : Prop :=
 Ca f_cache_Cache_pinned #[x0_, x1_] h fun x2 h1 =>
 ExP x2 0 fun x3 =>
 ExP x2 1 fun x4 =>
 BiP .neq x4 (.int .i64 0) fun x6 =>
 CdP x6
 (K x4 h1)
 (LenP (some true) x2_ fun x7 =>
 Fl 0 x0_ h1 fun x10 =>
 Ca f_dev_Device_Bytes #[x10] h1 fun x12 h11 =>
 BiP .neq x7 x12 fun x13 =>
 CdP x13
 (K (.int .i64 3) h11)
 (Ca f_slices_Clone_byte #[x2_] h11 fun x15 h14 =>
 Fs 1 x3 x15 h14 fun h18 =>
 Fs 2 x3 (.bool true) h18 fun h21 =>
 K (.int .i64 0) h21))
theorem m_cache_Cache_Write_ok {x0_ x1_ x2_ : Value} {h : Heap} {K : Kt} (hh : m_cache_Cache_Write x0_ x1_ x2_ h K) : Ca f_cache_Cache_Write #[x0_, x1_, x2_] h K := cv Tryz.func260 (by kernel_rfl) hh
def m_cache_Cache_Fresh_j29 (x0_ x1_ x6_ : Value) (h : Heap) (K : Kt) : Prop :=
 Fl 0 x0_ h fun x32 =>
 Ca f_dev_Device_Bytes #[x32] h fun x34 h33 =>
 VH Pg (Instr.makeSlice t_S_uint8 x34 x34) h33 fun x36 h35 =>
 BlP bt_cache_frame [(0, x1_), (1, x36), (2, (.bool true))] fun x37 =>
 Ca f_cache_Cache_put #[x0_, x6_, x37] h35 fun x39 h38 =>
 K (.int .i64 0) h38
def m_cache_Cache_Fresh_j22 (x0_ x1_ x6_ x7_ x23_ : Value) (h : Heap) (K : Kt) : Prop :=
 CdP x23_
 (K (.int .i64 8) h)
 (UnP .not x7_ fun x23 =>
 CdP x23
 (Ca f_cache_Cache_room #[x0_] h fun x25 h24 =>
 ExP x25 0 fun x26 =>
 ExP x25 1 fun x27 =>
 UnP .not x27 fun x28 =>
 CdP x28
 (K (.int .i64 7) h24)
 (m_cache_Cache_Fresh_j29 x0_ x1_ x26 h24 K))
 (m_cache_Cache_Fresh_j29 x0_ x1_ x6_ h K))
def m_cache_Cache_Fresh (x0_ x1_ : Value) (h : Heap) (K : Kt) : Prop :=
 Ca f_cache_Cache_there #[x0_, x1_] h fun x2 h1 =>
 BiP .neq x2 (.int .i64 0) fun x3 =>
 CdP x3
 (K x2 h1)
 (Fl 2 x0_ h1 fun x6 =>
 VH Pg (Instr.lookup t_M_uint32_int x6 x1_ true) h1 fun x8 h7 =>
 ExP x8 0 fun x9 =>
 ExP x8 1 fun x10 =>
 CdP x10
 (Fl 1 x0_ h7 fun x15 =>
 Ef 4 3 x15 x9 h7 fun x18 =>
 BiP .gtr x18 (.int .i64 0) fun x19 =>
 m_cache_Cache_Fresh_j22 x0_ x1_ x9 x10 x19 h7 K)
 (m_cache_Cache_Fresh_j22 x0_ x1_ x9 x10 (.bool false) h7 K))
theorem m_cache_Cache_Fresh_ok {x0_ x1_ : Value} {h : Heap} {K : Kt} (hh : m_cache_Cache_Fresh x0_ x1_ h K) : Ca f_cache_Cache_Fresh #[x0_, x1_] h K := cv Tryz.func261 (by kernel_rfl) hh
def m_shelf_Shelf_Save (x0_ x1_ x2_ : Value) (h : Heap) (K : Kt) : Prop :=
 BxP t_api_Node x2_ h fun x2 h1 =>
 Ca f_shelf_Shelf_there #[x0_, x1_] h1 fun x4 h3 =>
 BiP .neq x4 (.int .i64 0) fun x5 =>
 CdP x5
 (K x4 h3)
 (Fla 0 8 x0_ h3 fun x8 =>
 LdA 5 x2 h3 fun x9 =>
 Ca f_code_Encode #[x8, x9] h3 fun x11 h10 =>
 True ∧ (ExP x11 0 fun x12 =>
 ExP x11 1 fun x13 =>
 BiP .neq x13 (.int .i64 0) fun x14 =>
 CdP x14
 (K x13 h10)
 (Ca f_shelf_Shelf_lay #[x0_, x1_, x12] h10 fun x16 h15 =>
 K x16 h15)))
theorem m_shelf_Shelf_Save_ok {x0_ x1_ x2_ : Value} {h : Heap} {K : Kt} (hh : m_shelf_Shelf_Save x0_ x1_ x2_ h K) : Ca f_shelf_Shelf_Save #[x0_, x1_, x2_] h K := cv Tryz.func263 (by kernel_rfl) hh
def m_cache_Cache_leave (x0_ x1_ : Value) (h : Heap) (K : Kt) : Prop :=
 Fl 2 x0_ h fun x3 =>
 Fl 1 x0_ h fun x6 =>
 Ef 4 0 x6 x1_ h fun x9 =>
 VH Pg (Builtin.delete_ #[t_M_uint32_int, t_uint32] t_tuple_2e38e7 #[x3, x9]) h fun x11 h10 =>
 True ∧ (Fl 4 x0_ h10 fun x14 =>
 Ca f_chain_Chain_Cut #[x14, x1_] h10 fun x16 h15 =>
 Fl 1 x0_ h15 fun x19 =>
 BlP bt_cache_frame [] fun x20 =>
 IxP 4 x19 x1_ fun x21 =>
 StA 4 x21 x20 h15 fun h22 =>
 Fl 3 x0_ h22 fun x25 =>
 BsP st_S_int 1 [(0, x1_)] h22 fun x27 h26 =>
 VH Pg (Builtin.append_ #[t_S_int, t_S_int] t_S_int #[x25, x27]) h26 fun x29 h28 =>
 Fs 3 x0_ x29 h28 fun h32 =>
 K (.tuple #[]) h32)
theorem m_cache_Cache_leave_ok {x0_ x1_ : Value} {h : Heap} {K : Kt} (hh : m_cache_Cache_leave x0_ x1_ h K) : Ca f_cache_Cache_leave #[x0_, x1_] h K := cv Tryz.func277 (by kernel_rfl) hh
end Go.Sg
namespace Go.Sg
open Go Vc
section
variable {α : Type} [El α] {e : TypeId} {h : Heap} {R : Heap → Prop} {K : Value → Prop}
theorem ix_own {g n c i zz : Nat} {k} (hi : i < n) (r : K (ptr g (i * zz))) : IxP zz (.slice (some ⟨g, 0, none⟩) n c) (.int k (i : Int)) K := by
  refine ⟨g, 0, n, c, k, i, rfl, rfl, by omega, by omega, ?_⟩
  rw [Nat.zero_add, Int.toNat_natCast]; exact r
theorem own_cell {g cap i f : Nat} {L : List α} {a : α} {w : Value} {zz : Nat} (hzz : zz = El.z α) (o : Own g cap e h L) (ha : L[i]? = some a) (hw : (El.enc a)[f]? = some w) : hget h g (i * zz + f) = some w := by
  subst hzz
  have hf : f < El.z α := by have := (List.getElem?_eq_some_iff.1 hw).1; rwa [El.len] at this
  exact o.at ((cells_get ha f hf).trans hw)
theorem own_fl {g cap i f : Nat} {L : List α} {a : α} {w : Value} {zz : Nat} (hzz : zz = El.z α) (o : Own g cap e h L) (ha : L[i]? = some a) (hw : (El.enc a)[f]? = some w) (r : K w) : Fl f (ptr g (i * zz)) h K :=
  fl (own_cell hzz o ha hw) r
theorem own_fs {g cap i f : Nat} {L : List α} {a a' : α} {w : Value} {zz : Nat} (hzz : zz = El.z α) (o : Own g cap e h L) (ha : L[i]? = some a) (hf : f < El.z α) (hw : (El.enc a).set f w = El.enc a') (h1 : one' w = true)
    (r : ∀ h', Own g cap e h' (L.set i a') → Ex (fun b => b = g) h h' → R h') : Fs f (ptr g (i * zz)) w h R := by
  have hi : i < L.length := (List.getElem?_eq_some_iff.1 ha).1
  have := own_setf (k := .i64) (c := L.length) hzz o rfl ha hf hw h1 r
  obtain ⟨b, o', len, cap', k', i', e1, e2, e3, e4, e5⟩ := this
  cases e1; cases e2
  simp only [Fs, NilP_ptr]
  rw [Nat.zero_add, Int.toNat_natCast] at e5
  exact e5
end
section
variable {lab lab' : Nat → Nat} {h h' : Heap} {s : CSt} {nf n i f : Nat} {D D' : List (List UInt8)} {rd wr rd' wr' : BitVec 64} {E : Nat → Option Ent} {X : List Nat} {K : Kt}
theorem c_cache_none (k : Cok lab h s nf n D rd wr) (r : K (.bool false) h) : Ca f_cache_Cache_none #[ptr s.c 0] h K := by
  refine m_cache_Cache_none_ok (eq_ptr_nil (by kernel_rfl) (fl (by rw [k.blk.get]; rfl) ?_))
  unfold m_cache_Cache_none_j11
  exact eq_ptr_nil (by kernel_rfl) r
theorem c_cache_there (k : Cok lab h s nf n D rd wr) (hi : i < D.length) (r : K (int 0) h) : Ca f_cache_Cache_there #[ptr s.c 0, .int .u32 i] h K := by
  refine m_cache_Cache_there_ok (c_cache_none k ?_)
  rw [CdP_false]
  have hb := k.dev.b2
  rw [CvP_int, wrap64 (by omega) (by omega)]
  refine fl (by rw [k.blk.get]; rfl) (c_dev_Blocks k.dev ?_)
  rw [BiP_geq]
  exact cdp (fun h => absurd h (by omega)) fun _ => r
theorem c_look (k : Cok lab h s nf n D rd wr) (c : Bool) (r : K (if c then .tuple #[((s.m.lookup i).map nint).getD (int 0), .bool (s.m.lookup i).isSome] else ((s.m.lookup i).map nint).getD (int 0)) h) : VH Pg (Instr.lookup t_M_uint32_int (.map (some s.mb)) (.int .u32 (i : Int)) c) h K :=
  vc_lookup c (kt := t_uint32) (et := t_int) (by kernel_rfl) (by kernel_rfl) (by kernel_rfl) k.mp r
theorem c_cache_pinned (k : Cok lab h s nf n D rd wr) {fr : Fr} (hm : s.m.lookup i = some f) (hf : s.L[f]? = some fr) (hp : 0 < fr.pins) (r : K (.tuple #[ptr s.fg (f * 4), int 0]) h) : Ca f_cache_Cache_pinned #[ptr s.c 0, .int .u32 i] h K := by
  have hfl : f < nf := by have := (List.getElem?_eq_some_iff.1 hf).1; rw [k.fl] at this; exact this
  refine m_cache_Cache_pinned_ok (c_cache_none k ?_)
  rw [CdP_false]
  refine fl (by rw [k.blk.get]; rfl) (c_look k true ?_)
  rw [if_pos rfl, hm, ex20, ex21, UnP_not]
  show CdP (.bool false) _ _
  rw [CdP_false]
  refine fl (by rw [k.blk.get]; rfl) ?_
  refine (k.fr.rd k.fl.symm (Nat.le_refl _)).ef (f := 3) (w := int fr.pins) (i := (f : Int)) (x := fr) (by omega) (by rw [Int.toNat_natCast]; exact hf) rfl ?_
  rw [BiP_eql]
  unfold m_cache_Cache_pinned_j22
  refine cdp (fun h => absurd h (by omega)) fun _ => ?_
  unfold m_cache_Cache_pinned_j23
  refine fl (by rw [k.blk.get]; rfl) ?_
  exact ix_own hfl r
def Fr.clean (f : Fr) : Fr := { f with dirty := false }
theorem c_cache_back (k : Cok lab h s nf n D rd wr) {fr : Fr} (hf : s.L[f]? = some fr) {bs : List UInt8} (hd : fr.dirty = true → fr.block < D.length ∧ Sl (Use lab) h fr.b bs ∧ bs.length = n)
    (r : ∀ h' D' wr', Cok lab h' { s with L := s.L.set f fr.clean } nf n D' rd wr' → D' = (if fr.dirty then D.set fr.block bs else D) → wr' = (if fr.dirty then wr + 1 else wr) → Ex (Lb lab 2 7) h h' → K (.tuple #[]) h') :
    Ca f_cache_Cache_back #[ptr s.c 0, ptr s.fg (f * 4)] h K := by
  refine m_cache_Cache_back_ok (own_fl (a := fr) rfl k.fr hf (w := .bool fr.dirty) rfl ?_)
  refine cd (fun hx => ?_) (fun hx => ?_)
  · obtain ⟨h1, h2, h3⟩ := hd hx
    refine fl (by rw [k.blk.get]; rfl) ?_
    refine own_fl (a := fr) (w := .int .u32 fr.block) rfl k.fr hf rfl ?_
    refine own_fl (a := fr) (w := fr.b) rfl k.fr hf rfl ?_
    refine c_dev_Write k.dev h1 h2 h3 fun h1 d1 e1 => ⟨trivial, ?_⟩
    have e1' : Ex (Lb lab 6 7) h h1 := two_lb e1 ⟨by rw [k.l6]; decide, by rw [k.l6]; decide⟩ ⟨by rw [k.l7]; decide, by rw [k.l7]; decide⟩
    have k1 := k.set_dev d1 e1'
    refine own_fs (a := fr) (a' := fr.clean) (f := 2) rfl k1.fr hf (by decide) rfl rfl fun h2 o2 e2 => ?_
    have e2' : Ex (Lb lab 2 2) h1 h2 := one_lb e2 ⟨by rw [k.l2]; decide, by rw [k.l2]; decide⟩
    refine r h2 _ _ (k1.set_fr o2 (by rw [List.length_set]; exact k.fl) e2') (by rw [if_pos hx]) (by rw [if_pos hx]) ((Lb.wide e1' (by decide) (by decide)).trans (Lb.wide e2' (by decide) (by decide)))
  · have hs : s.L.set f fr.clean = s.L := by
      have : fr.clean = fr := by cases fr; simp only [Fr.clean] at hx ⊢; subst hx; rfl
      rw [this]
      apply List.ext_getElem?
      intro j
      rw [List.getElem?_set]
      by_cases hj : f = j
      · subst hj; rw [if_pos rfl, if_pos (List.getElem?_eq_some_iff.1 hf).1, hf]
      · rw [if_neg hj]
    refine r h D wr ?_ (by rw [hx]; rfl) (by rw [hx]; rfl) (Ex.refl _ _)
    rw [hs]; exact k
theorem em_push (k : Cok lab h s nf n D rd wr) (he : s.em.length ≤ 64) {ty : TypeId} {R : Heap → Prop}
    (r : ∀ lab' v' h', Lat lab lab' h → Cok lab' h' { s with ve := v', em := s.em ++ [f] } nf n D rd wr → Ex (Lb lab 1 8) h h' → R h') :
    Fl 3 (ptr s.c 0) h fun x25 => BsP st_S_int 1 [(0, nint f)] h fun x27 h26 => VH Pg (Builtin.append_ #[t_S_int, t_S_int] ty #[x25, x27]) h26 fun x29 h28 => Fs 3 (ptr s.c 0) x29 h28 R := by
  refine fl (by rw [k.blk.get]; rfl) ?_
  refine bs (n0 := h.size) (e := t_int) (zs := #[.int .i64 0]) [(f : Int)] rfl (Nat.le_refl _) rfl (by decide) (cs := #[.int .i64 f]) (by kernel_rfl) rfl fun v1 h1 o1 e1 => ?_
  have k1 := k.ext e1
  have s1 : Sl No h1 v1 [(f : Int)] := o1.sl fun _ _ h => h
  refine app_ob T_int k1.em s1 (by simp; omega) (by decide) fun v2 h2 o2 e2 hv => ?_
  have hve : ∀ b, s.ve.ownBlock = some b → b < h1.size := fun b hb => by
    rcases k1.em with ⟨q, _⟩ | ⟨g, cap, cur, q1, q2, q3, q4⟩
    · rw [q] at hb; cases hb
    · rw [q1] at hb; cases hb; exact (Array.getElem?_eq_some_iff.1 q3).1
  have hcs : s.c < h1.size := k1.blk.lt
  let lab' := upd lab h1.size 8
  have ha : Lat lab lab' h1 := fun b hb => upd_ne (by omega)
  have kc : Blk h2 s.c _ := k1.blk.ex e2 fun hb => by have := k.l8 _ hb; have := k.l1; omega
  have ho : one' v2 = true := by rcases o2.cases' with ⟨rfl, _⟩ | ⟨_, _, rfl, _⟩ <;> rfl
  refine Fs_b kc (by simp) ho fun h3 hs3 e3 k3 => ?_
  have e12 : Ex (fun b => lab' b = 1 ∨ lab' b = 8) h1 h3 :=
    (e2.mono fun b hb x => .inr (by rw [ha b hb]; exact k.l8 b x)).trans (e3.mono fun b _ x => .inl (by have x : b = s.c := x; rw [x, ha _ hcs]; exact k.l1))
  have hl : ∀ b, v2.ownBlock = some b → lab' b = 8 := fun b hb => by
    rcases hv with hv | hv
    · rw [hv] at hb; rw [ha b (hve b hb)]; exact k.l8 b hb
    · rw [hv] at hb; cases hb; exact upd_same
  have hvc : ∀ b, v2.ownBlock = some b → b ≠ s.c := fun b hb e => by
    have h8 := hl b hb
    rw [e, ha _ hcs] at h8; have := k.l1; omega
  have kk := (k1.lat ha).set_em (em' := s.em ++ [f]) k3 (by rw [List.map_append]; exact o2.exb e3 hvc) e12 hl
  refine r lab' v2 h3 (fun b hb => ha b (by have := e1.le; omega)) kk ?_
  refine (Ex.toM e1).trans (M := Lb lab 1 8) ⟨e12.le, fun b hb hm => e12.eq b hb fun x => hm ?_⟩
  rw [ha b hb] at x
  show 1 ≤ lab b ∧ lab b ≤ 8
  omega
theorem c_cache_leave (k : Cok lab h s nf n D rd wr) (he : s.em.length ≤ 63) {fr : Fr} (hf : s.L[f]? = some fr) (hbl : fr.block < 4294967296)
    (r : ∀ lab' v' h', Lat lab lab' h → Cok lab' h' { s with m := mdel s.m fr.block, R := s.R.erase f, L := s.L.set f Fr.nil, ve := v', em := s.em ++ [f] } nf n D rd wr → Ex (Lb lab 1 8) h h' → K (.tuple #[]) h') :
    Ca f_cache_Cache_leave #[ptr s.c 0, nint f] h K := by
  have hfl : f < nf := by have := (List.getElem?_eq_some_iff.1 hf).1; rw [k.fl] at this; exact this
  refine m_cache_Cache_leave_ok (fl (by rw [k.blk.get]; rfl) (fl (by rw [k.blk.get]; rfl) ?_))
  refine (k.fr.rd k.fl.symm (Nat.le_refl _)).ef (f := 0) (w := .int .u32 fr.block) (i := (f : Int)) (x := fr) (by omega) (by rw [Int.toNat_natCast]; exact hf) rfl ?_
  refine vc_delete (kt := t_uint32) (et := t_int) (by kernel_rfl) (by kernel_rfl) k.mp fun h1 m1 hs1 q1 => ⟨trivial, ?_⟩
  have e1 : Ex (Lb lab 3 3) h h1 := ⟨by omega, fun b _ hm => q1 b fun x => hm (by rw [x]; exact ⟨by rw [k.l3]; decide, by rw [k.l3]; decide⟩)⟩
  have k1 := k.set_map m1 e1
  refine fl (by rw [k1.blk.get]; rfl) ?_
  refine c_chain_Cut k1.row hfl fun h2 _ c2 e2 => ?_
  have e2' : Ex (Lb lab 4 5) h1 h2 := two_lb e2 ⟨by rw [k1.l4]; decide, by rw [k1.l4]; decide⟩ ⟨by rw [k1.l5]; decide, by rw [k1.l5]; decide⟩
  have k2 := k1.set_row c2 e2'
  refine fl (by rw [k2.blk.get]; rfl) ?_
  refine ⟨_, #[.int .u32 0, .slice none 0 0, .bool false, int 0], rfl, rfl, ?_⟩
  refine own_set (a' := Fr.nil) (vs := [.int .u32 0, .slice none 0 0, .bool false, int 0]) rfl rfl rfl k2.fr k2.fl.symm (by rw [k2.fl]; exact hfl) fun h3 o3 e3 => ?_
  have e3' : Ex (Lb lab 2 2) h2 h3 := one_lb e3 ⟨by rw [k.l2]; decide, by rw [k.l2]; decide⟩
  have k3 := k2.set_fr o3 (by rw [List.length_set]; exact k2.fl) e3'
  refine em_push (f := f) k3 (by show s.em.length ≤ 64; omega) fun lab' v' h4 a4 k4 e4 => ?_
  have e13 : Ex (Lb lab 1 8) h h3 := ((Lb.wide e1 (by decide) (by decide)).trans (Lb.wide e2' (by decide) (by decide))).trans (Lb.wide e3' (by decide) (by decide))
  exact r lab' v' h4 (fun b hb => a4 b (Nat.lt_of_lt_of_le hb e13.le)) k4 (e13.trans e4)
theorem em_pop (k : Cok lab h s nf n D rd wr) (he : s.em.length ≤ 64) {em : List Nat} (hem : s.em = em ++ [f])
    (r : ∀ v' h', Cok lab h' { s with ve := v', em := em } nf n D rd wr → Ex (Lb lab 1 1) h h' → K (.tuple #[nint f, .bool true]) h') : m_cache_Cache_room_j23 (ptr s.c 0) h K := by
  unfold m_cache_Cache_room_j23
  have ho := k.em
  rcases ho.cases' with ⟨_, h0⟩ | ⟨g, cap, hv, _, ow⟩
  · rw [hem] at h0; simp at h0
  rw [List.length_map] at hv
  have hlen : s.em.length = em.length + 1 := by rw [hem]; simp
  have sl : Sl No h s.ve (s.em.map fun f : Nat => (f : Int)) := ho.sl fun _ _ h => h
  refine fl (by rw [k.blk.get]; rfl) (sl.len ?_)
  rw [List.length_map]
  refine sub64 (by omega) ?_
  have e1 : ((s.em.length : Nat) : Int) - 1 = (em.length : Nat) := by omega
  rw [e1]
  refine fl (by rw [k.blk.get]; rfl) ?_
  refine sl.ei (x := (f : Int)) (by omega) (by rw [Int.toNat_natCast, hem]; simp) rfl ?_
  refine fl (by rw [k.blk.get]; rfl) ?_
  have hle := ow.le
  rw [List.length_map] at hle
  rw [hv]
  refine ⟨some ⟨g, 0, none⟩, s.em.length, cap, 0, em.length, rfl, rfl, bnd_nat, Nat.zero_le _, by omega, (fun h => by cases h), .inr ⟨_, _, rfl⟩, ?_⟩
  have hc : ¬ cap = 0 := by omega
  rw [if_neg hc]
  have e2 : Option.map (fun a : Addr => a.add (0 * 1)) (some ⟨g, 0, none⟩) = some (⟨g, 0, none⟩ : Addr) := by simp [Addr.add_lit]
  rw [e2, Nat.sub_zero, Nat.sub_zero]
  refine Fs_b k.blk (by simp) rfl fun h1 _ e1 k1 => ?_
  have hgl : lab g = 8 := k.l8 g (by rw [hv]; rfl)
  have hgc : ¬ g = s.c := fun e => by rw [e] at hgl; have := k.l1; omega
  have o1 : Ow 0 t_int h1 (.slice (some ⟨g, 0, none⟩) em.length cap) (em.map fun f : Nat => (f : Int)) := by
    have op := (ow.pre em.length).ex e1 hgc
    have : ((s.em.map fun f : Nat => (f : Int)).take em.length) = em.map fun f : Nat => (f : Int) := by
      rw [hem, List.map_append, ← List.length_map (f := fun f : Nat => (f : Int)), List.take_left]
    rw [this] at op
    exact op.ow' (Nat.zero_le _) (by simp)
  have hx1 : Ex (fun b => lab b = 1 ∨ lab b = 8) h h1 := e1.mono fun b _ x => .inl (by have x : b = s.c := x; rw [x]; exact k.l1)
  refine r _ h1 (k.set_em k1 o1 hx1 fun b hb => by cases hb; exact hgl) (one_lb e1 ⟨by rw [k.l1]; decide, by rw [k.l1]; decide⟩)
theorem c_cache_put (k : Cok lab h s nf n D rd wr) (hf : f < nf) {fr fr' : Fr} (hfr : fr' = { fr with pins := 1 }) {x : Value} (hx : x = .agg (El.enc fr).toArray) (hbl : fr.block < 4294967296)
    (r : ∀ h', Cok lab h' { s with L := s.L.set f fr', m := mput s.m fr.block f, R := s.R.erase f } nf n D rd wr → Ex (Lb lab 2 5) h h' → K (.tuple #[]) h') :
    Ca f_cache_Cache_put #[ptr s.c 0, nint f, x] h K := by
  subst hx hfr
  refine m_cache_Cache_put_ok (bxa (cs := El.enc fr) fun b h1 e1 hb kb _ => ?_)
  have k1 := k.ext e1
  rw [FaP_ptr]
  refine StP_b kb (show 0 + 3 < 4 by decide) rfl fun h2 _ e2 kb2 => ?_
  have e2' : Ext h h2 := e1.andThen e2 fun x hx => by omega
  have k2 := k.ext e2'
  refine fl (by rw [k2.blk.get]; rfl) ((LdA_b kb2 rfl).2 ?_)
  have hbf : b ≠ s.fg := by have := k.fr.lt; omega
  refine own_set (a' := ({ fr with pins := 1 } : Fr)) (vs := (El.enc fr).set (0 + 3) (int 1)) rfl rfl rfl k2.fr k2.fl.symm (by rw [k2.fl]; exact hf) fun h3 o3 e3 => ⟨trivial, ?_⟩
  have e3' : Ex (Lb lab 2 2) h2 h3 := one_lb e3 ⟨by rw [k.l2]; decide, by rw [k.l2]; decide⟩
  have k3 := k2.set_fr o3 (by rw [List.length_set]; exact k2.fl) e3'
  have kb3 := kb2.ex e3 hbf
  refine fl (by rw [k3.blk.get]; rfl) (fv (by rw [kb3.get]; rfl) ?_)
  refine vc_mapUpdate (ev := nint) (v := f) (kt := t_uint32) (et := t_int) (by kernel_rfl) (by kernel_rfl) k3.mp fun h4 m4 hs4 q4 => ⟨trivial, ?_⟩
  have e4 : Ex (Lb lab 3 3) h3 h4 := ⟨by omega, fun b _ hm => q4 b fun x => hm (by rw [x]; exact ⟨by show 3 ≤ lab s.mb; rw [k.l3]; decide, by show lab s.mb ≤ 3; rw [k.l3]; decide⟩)⟩
  have k4 := k3.set_map m4 e4
  refine fl (by rw [k4.blk.get]; rfl) ?_
  refine c_chain_Cut k4.row hf fun h5 _ c5 e5 => ?_
  have e5' : Ex (Lb lab 4 5) h4 h5 := two_lb e5 ⟨by rw [k4.l4]; decide, by rw [k4.l4]; decide⟩ ⟨by rw [k4.l5]; decide, by rw [k4.l5]; decide⟩
  refine r h5 (k4.set_row c5 e5') ?_
  exact (((Ex.toM e2').trans (Lb.wide e3' (by decide) (by decide))).trans (Lb.wide e4 (by decide) (by decide))).trans (Lb.wide e5' (by decide) (by decide))
end
end Go.Sg
namespace Go.Sg
open Go Vc
section
variable {β : Type} {m : List (Nat × β)} {i j : Nat} {f g : β}
theorem lookup_mem (h : m.lookup i = some f) : (i, f) ∈ m := by
  have := findIdx_at h
  exact List.mem_of_getElem? this
theorem mem_lookup (hn : (m.map Prod.fst).Nodup) (h : (i, f) ∈ m) : m.lookup i = some f := by
  induction m with
  | nil => simp at h
  | cons p m ih =>
    obtain ⟨a, b⟩ := p
    rw [List.lookup_cons]
    simp only [List.map_cons, List.nodup_cons] at hn
    rcases List.mem_cons.1 h with h | h
    · cases h; simp
    · have : i ≠ a := fun e => hn.1 (by rw [← e]; exact List.mem_map.2 ⟨_, h, rfl⟩)
      have : (i == a) = false := by simpa using this
      rw [this]; exact ih hn.2 h
theorem val_inj (hv : (m.map Prod.snd).Nodup) (h1 : m.lookup i = some f) (h2 : m.lookup j = some f) : i = j := by
  have q1 := lookup_mem h1
  have q2 := lookup_mem h2
  clear h1 h2
  induction m with
  | nil => simp at q1
  | cons p m ih =>
    simp only [List.map_cons, List.nodup_cons] at hv
    rcases List.mem_cons.1 q1 with e1 | e1 <;> rcases List.mem_cons.1 q2 with e2 | e2
    · rw [← e1] at e2; exact (congrArg Prod.fst e2).symm
    · subst e1; exact absurd (List.mem_map.2 ⟨_, e2, rfl⟩) hv.1
    · subst e2; exact absurd (List.mem_map.2 ⟨_, e1, rfl⟩) hv.1
    · exact ih hv.2 e1 e2
theorem lookup_mdel : (mdel m i).lookup j = if j = i then none else m.lookup j := by
  unfold mdel
  induction m with
  | nil => simp
  | cons p m ih =>
    obtain ⟨a, b⟩ := p
    rw [List.filter_cons]
    by_cases ha : a = i
    · subst ha
      simp only [bne_self_eq_false, Bool.false_eq_true, if_false]
      rw [ih, List.lookup_cons]
      by_cases hj : j = a
      · subst hj; simp
      · have : (j == a) = false := by simpa using hj
        rw [this]
    · rw [if_pos (by simpa using ha), List.lookup_cons, List.lookup_cons, ih]
      by_cases hj : j = a
      · subst hj; simp [ha]
      · have : (j == a) = false := by simpa using hj
        rw [this]
theorem lookup_append {m' : List (Nat × β)} : (m ++ m').lookup j = (m.lookup j).or (m'.lookup j) := by
  induction m with
  | nil => simp
  | cons p m ih =>
    obtain ⟨a, b⟩ := p
    rw [List.cons_append, List.lookup_cons, List.lookup_cons]
    cases (j == a) <;> simp [ih]
theorem mdel_len (hn : (m.map Prod.fst).Nodup) (h : m.lookup i = some f) : (mdel m i).length + 1 = m.length := by
  rw [mdel_erase hn (by rw [h]; rfl)]
  have hl := (List.getElem?_eq_some_iff.1 (findIdx_at h)).1
  rw [List.length_eraseIdx, if_pos hl]; omega
theorem mput_none (h : m.lookup i = none) : mput m i f = m ++ [(i, f)] := by unfold mput; rw [h]; rfl
theorem mput_same (hn : (m.map Prod.fst).Nodup) (h : m.lookup i = some f) : mput m i f = m := by
  unfold mput; rw [h]
  simp only [Option.isSome_some, if_true]
  conv => rhs; rw [← List.map_id m]
  apply List.map_congr_left
  intro p hp
  split
  · rename_i he
    have := mem_lookup hn (show (p.1, p.2) ∈ m from hp)
    rw [he, h] at this
    cases this; exact Prod.ext he.symm rfl
  · rfl
end
def vw (E : Nat → Option Ent) (D : List (List UInt8)) (j : Nat) : List UInt8 :=
  match E j with
  | some e => e.bytes
  | none => D.getD j []
def pn (E : Nat → Option Ent) (j : Nat) : Nat :=
  match E j with
  | some e => e.pins
  | none => 0
section
variable {lab lab' : Nat → Nat} {h h' : Heap} {s : CSt} {nf n i f : Nat} {D D' : List (List UInt8)} {rd wr rd' wr' : BitVec 64} {E : Nat → Option Ent} {X : List Nat} {K : Kt}
theorem Inv.has (v : Inv lab h s nf n D E X) {e : Ent} (hE : E i = some e) : ∃ f fr, s.m.lookup i = some f ∧ s.L[f]? = some fr ∧ fr.block = i ∧ fr.dirty = e.dirty ∧ fr.pins = e.pins ∧ Sl (Use lab) h fr.b e.bytes ∧ e.bytes.length = n ∧ i < D.length := by
  cases hl : s.m.lookup i with
  | none => rw [(v.pm i).2 hl] at hE; cases hE
  | some f =>
    obtain ⟨fr, e', q1, q2, q3⟩ := v.fm i f hl
    rw [hE] at q2; cases q2
    exact ⟨f, fr, rfl, q1, q3⟩
theorem Inv.ndv (v : Inv lab h s nf n D E X) : (s.m.map Prod.snd).Nodup := by
  have := v.nd
  rw [List.append_assoc, List.nodup_append] at this
  exact this.1
theorem Inv.turn (v : Inv lab h s nf n D E []) (hm : s.m.lookup i = some f) (hL : s.L.length = nf) {fr' : Fr} {e' : Ent} (h1 : fr'.block = i) (h2 : fr'.dirty = e'.dirty) (h3 : fr'.pins = e'.pins) (h4 : Sl (Use lab) h fr'.b e'.bytes) (h5 : e'.bytes.length = n)
    (hl : D'.length = D.length) (hd : ∀ j, j ≠ i → D'[j]? = D[j]?) (h6 : e'.dirty = false → D'[i]? = some e'.bytes) {R' : List Nat} (hR : ∀ g, g ∈ R' ↔ (g = f ∧ e'.pins = 0) ∨ (g ≠ f ∧ g ∈ s.R)) :
    Inv lab h { s with L := s.L.set f fr', R := R' } nf n D' (upd E i (some e')) [] := by
  obtain ⟨fr, e, q1, q2, q3, q4, q5, q6, q7, q8⟩ := v.fm i f hm
  have hfl : f < s.L.length := (List.getElem?_eq_some_iff.1 q1).1
  have hnv := v.ndv
  refine ⟨fun j => ?_, fun j g hg => ?_, v.nd, v.lt, v.ln, fun g => ?_, fun j e1 hj hdj => ?_⟩
  · by_cases hj : j = i
    · subst hj; rw [upd_same]; show _ ↔ s.m.lookup j = none; rw [hm]; simp
    · rw [upd_ne hj]; exact v.pm j
  · have hg : s.m.lookup j = some g := hg
    by_cases hj : j = i
    · subst hj
      rw [hm] at hg; cases hg
      exact ⟨fr', e', by show (s.L.set f fr')[f]? = _; rw [List.getElem?_set_self hfl], upd_same, h1, h2, h3, h4, h5, by rw [hl]; exact q8⟩
    · obtain ⟨fr1, e1, a1, a2, a3, a4, a5, a6, a7, a8⟩ := v.fm j g hg
      have hgf : f ≠ g := fun e => hj (val_inj hnv (by rw [e] at *; exact hg) (by rw [e] at hm; exact hm))
      exact ⟨fr1, e1, by show (s.L.set f fr')[g]? = _; rw [List.getElem?_set_ne hgf]; exact a1, by rw [upd_ne hj]; exact a2, a3, a4, a5, a6, a7, by rw [hl]; exact a8⟩
  · show g ∈ R' ↔ ∃ j e, s.m.lookup j = some g ∧ upd E i (some e') j = some e ∧ e.pins = 0
    rw [hR g]
    constructor
    · rintro (⟨rfl, hp⟩ | ⟨hgf, hg⟩)
      · exact ⟨i, e', hm, upd_same, hp⟩
      · obtain ⟨j, e1, a1, a2, a3⟩ := (v.rw g).1 hg
        have hj : j ≠ i := fun e => hgf (by rw [e, hm] at a1; cases a1; rfl)
        exact ⟨j, e1, a1, by rw [upd_ne hj]; exact a2, a3⟩
    · rintro ⟨j, e1, a1, a2, a3⟩
      by_cases hj : j = i
      · subst hj
        rw [hm] at a1; cases a1
        rw [upd_same] at a2; cases a2
        exact .inl ⟨rfl, a3⟩
      · rw [upd_ne hj] at a2
        refine .inr ⟨fun e => hj (val_inj hnv a1 (by rw [e]; exact hm)), (v.rw g).2 ⟨j, e1, a1, a2, a3⟩⟩
  · by_cases hji : j = i
    · subst hji
      rw [upd_same] at hj; cases hj
      exact h6 hdj
    · rw [upd_ne hji] at hj
      rw [hd j hji]; exact v.cl j e1 hj hdj
theorem Inv.put (v : Inv lab h s nf n D E [f]) (hm : s.m.lookup i = none) (hL : s.L.length = nf) {fr' : Fr} {e' : Ent} (h1 : fr'.block = i) (h2 : fr'.dirty = e'.dirty) (h3 : fr'.pins = e'.pins) (h4 : Sl (Use lab) h fr'.b e'.bytes) (h5 : e'.bytes.length = n)
    (hi : i < D.length) (h6 : e'.dirty = false → D[i]? = some e'.bytes) (hp : 0 < e'.pins) :
    Inv lab h { s with L := s.L.set f fr', m := mput s.m i f, R := s.R.erase f } nf n D (upd E i (some e')) [] := by
  have hfl : f < nf := v.lt f (by simp)
  rw [← hL] at hfl
  have hnd := v.nd
  have hfm : f ∉ s.m.map Prod.snd := fun h => by
    rw [List.append_assoc, List.nodup_append] at hnd
    exact hnd.2.2 f h f (by simp) rfl
  have hfR : f ∉ s.R := fun h => by
    obtain ⟨j, e1, a1, _⟩ := (v.rw f).1 h
    exact hfm (List.mem_map.2 ⟨_, lookup_mem a1, rfl⟩)
  rw [List.erase_of_not_mem hfR, mput_none hm]
  have hlk : ∀ j, (s.m ++ [(i, f)]).lookup j = if j = i then some f else s.m.lookup j := fun j => by
    rw [lookup_append]
    by_cases hj : j = i
    · subst hj; rw [hm]; simp
    · rw [if_neg hj]
      have : (j == i) = false := by simpa using hj
      simp [List.lookup_cons, this]
  refine ⟨fun j => ?_, fun j g hg => ?_, ?_, fun g hg => v.lt g ?_, ?_, fun g => ?_, fun j e1 hj hdj => ?_⟩
  · show _ ↔ (s.m ++ [(i, f)]).lookup j = none
    rw [hlk]
    by_cases hj : j = i
    · subst hj; rw [upd_same]; simp
    · rw [upd_ne hj, if_neg hj]; exact v.pm j
  · have hg : (s.m ++ [(i, f)]).lookup j = some g := hg
    rw [hlk] at hg
    by_cases hj : j = i
    · subst hj
      rw [if_pos rfl] at hg; cases hg
      exact ⟨fr', e', by show (s.L.set f fr')[f]? = _; rw [List.getElem?_set_self hfl], upd_same, h1, h2, h3, h4, h5, hi⟩
    · rw [if_neg hj] at hg
      obtain ⟨fr1, e1, a1, a2, a3⟩ := v.fm j g hg
      have hgf : f ≠ g := fun e => hfm (by rw [e]; exact List.mem_map.2 ⟨_, lookup_mem hg, rfl⟩)
      exact ⟨fr1, e1, by show (s.L.set f fr')[g]? = _; rw [List.getElem?_set_ne hgf]; exact a1, by rw [upd_ne hj]; exact a2, a3⟩
  · show ((s.m ++ [(i, f)]).map Prod.snd ++ s.em ++ []).Nodup
    have hp : ((s.m ++ [(i, f)]).map Prod.snd ++ s.em ++ []).Perm (s.m.map Prod.snd ++ s.em ++ [f]) := by
      simp only [List.map_append, List.map_cons, List.map_nil, List.append_nil, List.append_assoc]
      exact List.Perm.append_left _ List.perm_append_comm
    exact hp.nodup_iff.2 hnd
  · have hg : g ∈ (s.m ++ [(i, f)]).map Prod.snd ++ s.em ++ [] := hg
    simp only [List.map_append, List.map_cons, List.map_nil, List.append_nil, List.mem_append, List.mem_singleton] at hg ⊢
    rcases hg with (hg | hg) | hg
    · exact .inl (.inl hg)
    · exact .inr hg
    · exact .inl (.inr hg)
  · have := v.ln
    show (s.m ++ [(i, f)]).length + s.em.length + 0 = nf
    simp only [List.length_append, List.length_cons, List.length_nil] at this ⊢; omega
  · show g ∈ s.R ↔ ∃ j e, (s.m ++ [(i, f)]).lookup j = some g ∧ upd E i (some e') j = some e ∧ e.pins = 0
    rw [v.rw g]
    constructor
    · rintro ⟨j, e1, a1, a2, a3⟩
      have hj : j ≠ i := fun e => by rw [e, hm] at a1; cases a1
      exact ⟨j, e1, by rw [hlk, if_neg hj]; exact a1, by rw [upd_ne hj]; exact a2, a3⟩
    · rintro ⟨j, e1, a1, a2, a3⟩
      by_cases hj : j = i
      · subst hj; rw [upd_same] at a2; cases a2; omega
      · rw [hlk, if_neg hj] at a1; rw [upd_ne hj] at a2; exact ⟨j, e1, a1, a2, a3⟩
  · by_cases hji : j = i
    · subst hji; rw [upd_same] at hj; cases hj; exact h6 hdj
    · rw [upd_ne hji] at hj; exact v.cl j e1 hj hdj
theorem Inv.leave (v : Inv lab h s nf n D E []) (k : (s.m.map Prod.fst).Nodup) (hR : s.R.Nodup) (hm : s.m.lookup i = some f) {L' : List Fr} (hL : ∀ g, g ≠ f → L'[g]? = s.L[g]?) {ve' : Value} (hl : D'.length = D.length) (hd : ∀ j, j ≠ i → D'[j]? = D[j]?) :
    Inv lab h { s with L := L', m := mdel s.m i, R := s.R.erase f, ve := ve' } nf n D' (upd E i none) [f] := by
  have hnv := v.ndv
  have hnd := v.nd
  rw [List.append_nil, List.nodup_append] at hnd
  have hfm : f ∈ s.m.map Prod.snd := List.mem_map.2 ⟨_, lookup_mem hm, rfl⟩
  have hsub : ∀ g, g ∈ (mdel s.m i).map Prod.snd → g ∈ s.m.map Prod.snd ∧ g ≠ f := fun g hg => by
    obtain ⟨p, hp, rfl⟩ := List.mem_map.1 hg
    unfold mdel at hp
    rw [List.mem_filter] at hp
    refine ⟨List.mem_map.2 ⟨p, hp.1, rfl⟩, fun e => ?_⟩
    have h1 := mem_lookup k (show (p.1, p.2) ∈ s.m from hp.1)
    rw [e] at h1
    have := val_inj hnv h1 hm
    have h2 := hp.2
    rw [this] at h2; simp at h2
  refine ⟨fun j => ?_, fun j g hg => ?_, ?_, fun g hg => v.lt g ?_, ?_, fun g => ?_, fun j e1 hj hdj => ?_⟩
  · show _ ↔ (mdel s.m i).lookup j = none
    rw [lookup_mdel]
    by_cases hj : j = i
    · subst hj; rw [upd_same]; simp
    · rw [upd_ne hj, if_neg hj]; exact v.pm j
  · have hg : (mdel s.m i).lookup j = some g := hg
    rw [lookup_mdel] at hg
    by_cases hj : j = i
    · rw [if_pos hj] at hg; cases hg
    · rw [if_neg hj] at hg
      obtain ⟨fr1, e1, a1, a2, a3, a4, a5, a6, a7, a8⟩ := v.fm j g hg
      have hgf : g ≠ f := fun e => hj (val_inj hnv hg (by rw [e]; exact hm))
      exact ⟨fr1, e1, by show L'[g]? = _; rw [hL g hgf]; exact a1, by rw [upd_ne hj]; exact a2, a3, a4, a5, a6, a7, by rw [hl]; exact a8⟩
  · show ((mdel s.m i).map Prod.snd ++ s.em ++ [f]).Nodup
    rw [List.nodup_append, List.nodup_append]
    refine ⟨⟨?_, hnd.2.1, fun a ha b hb => hnd.2.2 a (hsub a ha).1 b hb⟩, by simp, fun a ha b hb => ?_⟩
    · unfold mdel; exact ((List.filter_sublist).map _).nodup hnv
    · simp only [List.mem_singleton] at hb
      subst hb
      rcases List.mem_append.1 ha with ha | ha
      · exact (hsub a ha).2
      · exact fun e => hnd.2.2 b hfm a ha e.symm
  · have hg : g ∈ (mdel s.m i).map Prod.snd ++ s.em ++ [f] := hg
    simp only [List.append_nil, List.mem_append, List.mem_singleton] at hg ⊢
    rcases hg with (hg | hg) | hg
    · exact .inl (hsub g hg).1
    · exact .inr hg
    · subst hg; exact .inl hfm
  · have := v.ln
    have := mdel_len k hm
    show (mdel s.m i).length + s.em.length + 1 = nf
    simp only [List.length_nil] at *; omega
  · show g ∈ s.R.erase f ↔ ∃ j e, (mdel s.m i).lookup j = some g ∧ upd E i none j = some e ∧ e.pins = 0
    rw [hR.mem_erase_iff, v.rw g]
    constructor
    · rintro ⟨hgf, j, e1, a1, a2, a3⟩
      have hj : j ≠ i := fun e => hgf (by rw [e, hm] at a1; cases a1; rfl)
      exact ⟨j, e1, by rw [lookup_mdel, if_neg hj]; exact a1, by rw [upd_ne hj]; exact a2, a3⟩
    · rintro ⟨j, e1, a1, a2, a3⟩
      rw [lookup_mdel] at a1
      by_cases hj : j = i
      · rw [if_pos hj] at a1; cases a1
      · rw [if_neg hj] at a1; rw [upd_ne hj] at a2
        exact ⟨fun e => hj (val_inj hnv a1 (by rw [e]; exact hm)), j, e1, a1, a2, a3⟩
  · by_cases hji : j = i
    · subst hji; rw [upd_same] at hj; cases hj
    · rw [upd_ne hji] at hj; rw [hd j hji]; exact v.cl j e1 hj hdj
end
end Go.Sg
namespace Go.Sg
open Go Vc
theorem sub_len {α : Type} [DecidableEq α] : ∀ (l m : List α), l.Nodup → (∀ x ∈ l, x ∈ m) → l.length ≤ m.length
  | [], m, _, _ => by simp
  | a :: l, m, hn, hs => by
    rw [List.nodup_cons] at hn
    have ha := hs a (by simp)
    have := sub_len l (m.erase a) hn.2 (fun x hx => (List.mem_erase_of_ne (fun e => hn.1 (by rw [← e]; exact hx))).2 (hs x (by simp [hx])))
    rw [List.length_erase_of_mem ha] at this
    have : 0 < m.length := List.length_pos_of_mem ha
    simp only [List.length_cons]; omega
theorem snoc_or {α : Type} (l : List α) : l = [] ∨ ∃ p a, l = p ++ [a] := by
  cases h : l.reverse with
  | nil => left; simpa using h
  | cons a r => right; refine ⟨r.reverse, a, ?_⟩; have := congrArg List.reverse h; simpa using this
section
variable {lab lab' : Nat → Nat} {h h' : Heap} {s : CSt} {nf n i f c dp : Nat} {D D' : List (List UInt8)} {rd wr rd' wr' : BitVec 64} {E : Nat → Option Ent} {K : Kt}
def frl (lab : Nat → Nat) (h : Heap) : Nat → Nat := fun b => if b < h.size then lab b else 0
theorem frl_lat (lab : Nat → Nat) (h : Heap) : Lat lab (frl lab h) h := fun b hb => if_pos hb
theorem frl_new {lab : Nat → Nat} {h : Heap} {b : Nat} (hb : h.size ≤ b) : frl lab h b = 0 := if_neg (by omega)
theorem vw_in {e : Ent} (h : E i = some e) : vw E D i = e.bytes := by unfold vw; rw [h]
theorem vw_out {b : List UInt8} (h : E i = none) (hb : D[i]? = some b) : vw E D i = b := by unfold vw; rw [h]; simp [List.getD_eq_getElem?_getD, hb]
theorem pn_in {e : Ent} (h : E i = some e) : pn E i = e.pins := by unfold pn; rw [h]
theorem pn_out (h : E i = none) : pn E i = 0 := by unfold pn; rw [h]
theorem c_cache_room (k : Cok lab h s nf n D rd wr) (v : Inv lab h s nf n D E []) (hp : ∃ Ps : List Nat, Ps.length < nf ∧ ∀ j, 0 < pn E j → j ∈ Ps)
    (r : ∀ lab' s' f h' D' wr' E', Lat lab lab' h → s'.c = s.c → s'.dp = s.dp → Cok lab' h' s' nf n D' rd wr' → Inv lab' h' s' nf n D' E' [f] → D'.length = D.length → (∀ j, E j = none → E' j = none) →
      (∀ j, j < D.length → vw E' D' j = vw E D j) → (∀ j, pn E' j = pn E j) → (wr' = wr ∨ wr' = wr + 1) → Ex (Lb lab 1 8) h h' → K (.tuple #[nint f, .bool true]) h') : Ca f_cache_Cache_room #[ptr s.c 0] h K := by
  have hln := v.ln
  have hf64 := k.f64
  simp only [List.length_nil, Nat.add_zero] at hln
  refine m_cache_Cache_room_ok (fl (by rw [k.blk.get]; rfl) ?_)
  have sl : Sl No h s.ve (s.em.map fun f : Nat => (f : Int)) := k.em.sl fun _ _ h => h
  refine sl.len ?_
  rw [List.length_map, BiP_eql]
  refine cdp (fun h0 => ?_) (fun h0 => ?_)
  · have hem : s.em = [] := List.eq_nil_of_length_eq_zero (by omega)
    refine fl (by rw [k.blk.get]; rfl) ?_
    refine c_chain_Last k.row (fun hR => ?_) (fun P f hR => ?_)
    · exfalso
      obtain ⟨Ps, hP1, hP2⟩ := hp
      have hkn := k.mp.nodup
      have := sub_len (s.m.map Prod.fst) Ps hkn fun j hj => by
        obtain ⟨p, hpm, rfl⟩ := List.mem_map.1 hj
        have hl := mem_lookup hkn (show (p.1, p.2) ∈ s.m from hpm)
        obtain ⟨fr, e, q1, q2, q3⟩ := v.fm _ _ hl
        refine hP2 _ ?_
        rw [pn_in q2]
        refine Nat.pos_of_ne_zero fun hz => ?_
        have := (v.rw p.2).2 ⟨p.1, e, hl, q2, hz⟩
        rw [hR] at this; cases this
      rw [List.length_map] at this
      rw [hem] at hln; simp at hln; omega
    · have hfR : f ∈ s.R := by rw [hR]; simp
      obtain ⟨i, e, a1, a2, a3⟩ := (v.rw f).1 hfR
      obtain ⟨fr, e', q1, q2, q3, q4, q5, q6, q7, q8⟩ := v.fm i f a1
      rw [a2] at q2; cases q2
      have hfl : f < nf := by have := (List.getElem?_eq_some_iff.1 q1).1; rw [k.fl] at this; exact this
      have hb2 := k.dev.b2
      rw [ex20, ex21, UnP_not]
      show CdP (.bool false) _ _
      rw [CdP_false]
      refine fl (by rw [k.blk.get]; rfl) (ix_own hfl ?_)
      refine c_cache_back k (bs := e.bytes) q1 (fun _ => ⟨by rw [q3]; exact q8, q6, q7⟩) fun h1 D1 wr1 k1 hD1 hw1 e1 => ?_
      have hD1l : D1.length = D.length := by rw [hD1]; split <;> simp
      have hD1o : ∀ j, j ≠ i → D1[j]? = D[j]? := fun j hj => by
        rw [hD1]; split
        · rw [List.getElem?_set_ne (by rw [q3]; exact Ne.symm hj)]
        · rfl
      have hD1i : D1[i]? = some e.bytes := by
        rw [hD1]
        cases hdr : fr.dirty with
        | true => rw [if_pos rfl, q3, List.getElem?_set_self q8]
        | false => rw [if_neg (by simp)]; exact v.cl i e a2 (by rw [← q4]; exact hdr)
      have hkn := k.mp.nodup
      have v1 := v.ex e1 (by decide) (Lat.refl lab h)
      refine c_cache_leave (s := { s with L := s.L.set f fr.clean }) (fr := fr.clean) k1 (by show s.em.length ≤ 63; omega) (by show (s.L.set f fr.clean)[f]? = _; rw [List.getElem?_set_self (by rw [k.fl]; exact hfl)]) (by show fr.block < _; rw [q3]; omega) fun lab2 v2 h2 a2' k2 e2 => ?_
      refine em_pop (s := { s with m := mdel s.m fr.clean.block, R := s.R.erase f, L := (s.L.set f fr.clean).set f Fr.nil, ve := v2, em := s.em ++ [f] }) (f := f) (em := []) k2 (by show (s.em ++ [f]).length ≤ 64; rw [hem]; simp) (by show s.em ++ [f] = [] ++ [f]; rw [hem]) fun v3 h3 k3 e3 => ?_
      have hlat : Lat lab lab2 h := fun b hb => a2' b (Nat.lt_of_lt_of_le hb e1.le)
      have hfb : fr.clean.block = i := q3
      rw [hfb] at k3
      have hi0 := v1.leave (f := f) (L' := (s.L.set f fr.clean).set f Fr.nil) (ve' := v3) hkn k.row.nd a1 (fun g hg => by rw [List.getElem?_set_ne (Ne.symm hg), List.getElem?_set_ne (Ne.symm hg)]) hD1l hD1o
      have hi1 := (hi0.ex e2 (by decide) a2').ex (lab' := lab2) e3 (by decide) (Lat.refl lab2 h2)
      have hs : ({ s with L := (s.L.set f fr.clean).set f Fr.nil, m := mdel s.m i, R := s.R.erase f, ve := v3, em := [] } : CSt) = { s with L := (s.L.set f fr.clean).set f Fr.nil, m := mdel s.m i, R := s.R.erase f, ve := v3 } := by rw [← hem]
      refine r lab2 { s with L := (s.L.set f fr.clean).set f Fr.nil, m := mdel s.m i, R := s.R.erase f, ve := v3, em := [] } f h3 D1 wr1 (upd E i none) hlat rfl rfl k3 (by rw [hs]; exact hi1) hD1l (fun j hj => ?_) (fun j hj => ?_) (fun j => ?_) ?_ ?_
      · by_cases hji : j = i
        · subst hji; exact upd_same
        · rw [upd_ne hji]; exact hj
      · by_cases hji : j = i
        · subst hji; rw [vw_out upd_same hD1i, vw_in a2]
        · unfold vw; rw [upd_ne hji]
          cases E j with
          | some _ => rfl
          | none => simp only [List.getD_eq_getElem?_getD, hD1o j hji]
      · by_cases hji : j = i
        · subst hji; rw [pn_out upd_same, pn_in a2, a3]
        · unfold pn; rw [upd_ne hji]
      · rw [hw1]; split
        · exact .inr rfl
        · exact .inl rfl
      · exact hlat.ex (Lb.wide e1 (by decide) (by decide) |>.trans e2) (Lb.wide e3 (by decide) (by decide))
  · rcases snoc_or s.em with hem | ⟨em, f, hem⟩
    · rw [hem] at h0; simp at h0
    refine em_pop (f := f) (em := em) k (by omega) hem fun v1 h1 k1 e1 => ?_
    have v1' := v.ex e1 (by decide) (Lat.refl lab h)
    refine r lab { s with ve := v1, em := em } f h1 D wr E (Lat.refl _ _) rfl rfl k1 ?_ rfl (fun _ h => h) (fun _ _ => rfl) (fun _ => rfl) (.inl rfl) (Lb.wide e1 (by decide) (by decide))
    obtain ⟨p1, p2, p3, p4, p5, p6, p7⟩ := v1'
    refine ⟨p1, p2, ?_, ?_, ?_, p6, p7⟩
    · rw [hem, List.append_nil, ← List.append_assoc] at p3; exact p3
    · rw [hem, List.append_nil, ← List.append_assoc] at p4; exact p4
    · rw [hem, List.length_append] at p5; exact p5
structure CaS (lab : Nat → Nat) (h : Heap) (c dp nf n : Nat) (D : List (List UInt8)) (V : Nat → List UInt8) (P : Nat → Nat) (rd wr : BitVec 64) : Prop where
  out : ∃ s E, s.c = c ∧ s.dp = dp ∧ Cok lab h s nf n D rd wr ∧ Inv lab h s nf n D E [] ∧ (∀ i, i < D.length → V i = vw E D i) ∧ (∀ i, P i = pn E i) ∧ E 0 = none
variable {V : Nat → List UInt8} {P : Nat → Nat}
theorem c_cache_Pin (k : CaS lab h c dp nf n D V P rd wr) (h0 : 0 < i) (hi : i < D.length) (hp : ∃ Ps : List Nat, Ps.length < nf ∧ ∀ j, 0 < P j → j ∈ Ps) (hpi : P i < 1000)
    (r : ∀ lab' h' D' rd' wr', Lat lab lab' h → D'.length = D.length → CaS lab' h' c dp nf n D' V (upd P i (P i + 1)) rd' wr' → (rd' = rd ∨ rd' = rd + 1) → (wr' = wr ∨ wr' = wr + 1) → Ex (Lb lab 1 8) h h' → K (int 0) h') :
    Ca f_cache_Cache_Pin #[ptr c 0, .int .u32 i] h K := by
  obtain ⟨s, E, rfl, rfl, k, v, hV, hP, hz⟩ := k.out
  have hb2 := k.dev.b2
  refine m_cache_Cache_Pin_ok (c_cache_there k hi ?_)
  rw [BiP_neq]
  refine cdp (fun h => absurd rfl h) fun _ => ?_
  refine fl (by rw [k.blk.get]; rfl) (c_look k true ?_)
  rw [if_pos rfl, ex20, ex21]
  cases hm : s.m.lookup i with
  | some f =>
    obtain ⟨fr, e, q1, q2, q3, q4, q5, q6, q7, q8⟩ := v.fm i f hm
    have hfl : f < nf := by have := (List.getElem?_eq_some_iff.1 q1).1; rw [k.fl] at this; exact this
    have hpe : P i = e.pins := by rw [hP, pn_in q2]
    show CdP (.bool true) _ _
    rw [CdP_true]
    show Fl 1 _ _ _
    refine fl (by rw [k.blk.get]; rfl) ?_
    refine (k.fr.rd k.fl.symm (Nat.le_refl _)).ef (f := 3) (w := int fr.pins) (i := (f : Int)) (x := fr) (by omega) (by rw [Int.toNat_natCast]; exact q1) rfl ?_
    refine add64 (by omega) ?_
    have e1' : (fr.pins : Int) + 1 = ((e.pins + 1 : Nat) : Int) := by omega
    rw [e1']
    refine own_setf (f := 3) (a := fr) (a' := ({ fr with pins := e.pins + 1 } : Fr)) rfl k.fr k.fl.symm q1 (by decide) rfl rfl fun h1 o1 e1 => ?_
    have e1' : Ex (Lb lab 2 2) h h1 := one_lb e1 ⟨by rw [k.l2]; decide, by rw [k.l2]; decide⟩
    have k1 := k.set_fr o1 (by rw [List.length_set]; exact k.fl) e1'
    refine fl (by rw [k1.blk.get]; rfl) ?_
    refine c_chain_Cut k1.row hfl fun h2 _ c2 e2 => ?_
    have e2' : Ex (Lb lab 4 5) h1 h2 := two_lb e2 ⟨by rw [k1.l4]; decide, by rw [k1.l4]; decide⟩ ⟨by rw [k1.l5]; decide, by rw [k1.l5]; decide⟩
    have k2 := k1.set_row c2 e2'
    have e12 : Ex (Lb lab 1 8) h h2 := (Lb.wide e1' (by decide) (by decide)).trans (Lb.wide e2' (by decide) (by decide))
    have v2 := (v.ex e12 (by decide) (Lat.refl lab h)).turn (fr' := { fr with pins := e.pins + 1 }) (e' := { e with pins := e.pins + 1 }) (D' := D) (R' := s.R.erase f) hm k.fl q3 q4 rfl (q6.lat e12 (by decide) (Lat.refl lab h)) q7 rfl (fun _ _ => rfl) (v.cl i e q2) (fun g => by
      rw [k.row.nd.mem_erase_iff]; simp)
    refine r lab h2 D rd wr (Lat.refl _ _) rfl ⟨{ s with L := s.L.set f { fr with pins := e.pins + 1 }, R := s.R.erase f }, _, rfl, rfl, k2, v2, fun j hj => ?_, fun j => ?_, (upd_ne (by omega)).trans hz⟩ (.inl rfl) (.inl rfl) e12
    · rw [hV j hj]
      by_cases hji : j = i
      · subst hji; rw [vw_in q2, vw_in upd_same]
      · unfold vw; rw [upd_ne hji]
    · by_cases hji : j = i
      · subst hji; rw [upd_same, pn_in upd_same, hpe]
      · rw [upd_ne hji, hP]; unfold pn; rw [upd_ne hji]
  | none =>
    have hE : E i = none := (v.pm i).2 hm
    show CdP (.bool false) _ _
    rw [CdP_false]
    refine c_cache_room k v (by obtain ⟨Ps, h1, h2⟩ := hp; exact ⟨Ps, h1, fun j hj => h2 j (by rw [hP]; exact hj)⟩) fun lab1 s1 f h1 D1 wr1 E1 a1 hc1 hd1 k1 v1 hl1 hn1 hv1 hp1 hw1 e1 => ?_
    have hE1 := hn1 i hE
    rw [ex20, ex21, UnP_not]
    show CdP (.bool false) _ _
    rw [CdP_false, ← hc1]
    refine fl (by rw [k1.blk.get]; rfl) ?_
    have hi1 : i < D1.length := by rw [hl1]; exact hi
    have hDi : D1[i]? = some D1[i] := List.getElem?_eq_getElem hi1
    have k1 := k1.lat (frl_lat lab1 h1)
    have v1 := v1.ex (Ex.refl (Lb lab1 1 8) h1) (by decide) (frl_lat lab1 h1)
    have hle1 := e1.le
    have a12 : Lat lab (frl lab1 h1) h := a1.trans (frl_lat lab1 h1) e1.le
    refine c_dev_Read k1.dev hDi fun x h2 o2 d2 e2 => ?_
    have e2' : Ex (Lb (frl lab1 h1) 6 7) h1 h2 := one_lb e2 ⟨by rw [k1.l6]; decide, by rw [k1.l6]; decide⟩
    have k2 := k1.set_dev d2 e2'
    have v2 := v1.ex e2' (by decide) (Lat.refl _ h1)
    have sx : Sl (Use (frl lab1 h1)) h2 x D1[i] := o2.sl fun b hb hu => hu (frl_new hb)
    rw [ex20, ex21, BiP_neq]
    refine cdp (fun h => absurd rfl h) fun _ => ?_
    have hx1 : x.oneCell' = true := by rcases o2.cases' with ⟨rfl, _⟩ | ⟨_, _, rfl, _⟩ <;> rfl
    refine ⟨_, #[.int .u32 i, x, .bool false, int 0], rfl, ?_, ?_⟩
    · rcases o2.cases' with ⟨rfl, _⟩ | ⟨_, _, rfl, _⟩ <;> rfl
    have hflt : f < nf := v2.lt f (by simp)
    have hm1 : s1.m.lookup i = none := (v1.pm i).1 hE1
    refine c_cache_put k2 hflt (fr := ⟨i, x, false, 0, hx1⟩) (fr' := ⟨i, x, false, 1, hx1⟩) rfl rfl (by show i < _; omega) fun h3 k3 e3 => ?_
    have v3 := (v2.ex e3 (by decide) (Lat.refl _ h2)).put (fr' := ⟨i, x, false, 1, hx1⟩) (e' := ⟨D1[i], false, 1⟩) hm1 k2.fl rfl rfl rfl (sx.lat e3 (by decide) (Lat.refl _ h2)) (k1.dev.all _ (List.getElem_mem hi1)) hi1 (fun _ => hDi) Nat.zero_lt_one
    refine r (frl lab1 h1) h3 D1 (rd + 1) wr1 a12 hl1 ⟨{ s1 with L := s1.L.set f ⟨i, x, false, 1, hx1⟩, m := mput s1.m i f, R := s1.R.erase f }, _, hc1, hd1, k3, v3, fun j hj => ?_, fun j => ?_, (upd_ne (by omega)).trans (hn1 0 hz)⟩ (.inr rfl) hw1 (a12.ex e1 ?_)
    · rw [hl1] at hj
      rw [hV j hj, ← hv1 j hj]
      by_cases hji : j = i
      · subst hji; rw [vw_out hE1 hDi, vw_in upd_same]
      · unfold vw; rw [upd_ne hji]
    · by_cases hji : j = i
      · subst hji; rw [upd_same, pn_in upd_same, hP, pn_out hE]
      · rw [upd_ne hji, hP, ← hp1 j]; unfold pn; rw [upd_ne hji]
    · exact (Lb.wide e2' (by decide) (by decide)).trans (Lb.wide e3 (by decide) (by decide))
end
end Go.Sg
