/-
  Part 17 of a proof: own texts, merged by program.
-/
import Derived.Test.YtoahnccffedojaaGreatDoorP03
import Derived.Test.YtoahnccffedojaaGreatDoorP16
set_option linter.unusedVariables false
set_option linter.unusedSimpArgs false
set_option maxRecDepth 100000
namespace Go.Sg
open Go Vc Go.Proofs
/- (*sluicegate/shelf.Shelf).Left -/
def m_shelf_Shelf_Left (x0_ : Value) (h : Heap) (K : Kt) : Prop :=
 EqP .eql t_P_shelf_Shelf (.tmp 3) (.const (.pointer none)) x0_ (.pointer none) h fun x2 h1 =>
 CdP x2
 (K (.int .i64 0) h1)
 (Fl 10 x0_ h1 fun x5 =>
 Ca f_pool_Pool_Free #[x5] h1 fun x7 h6 =>
 K x7 h6)
theorem m_shelf_Shelf_Left_ok {x0_ : Value} {h : Heap} {K : Kt} (hh : m_shelf_Shelf_Left x0_ h K) : Ca f_shelf_Shelf_Left #[x0_] h K := cv Tryz.func30 (by kernel_rfl) hh
/- (*sluicegate/shelf.Shelf).Flush -/
def m_shelf_Shelf_Flush (x0_ : Value) (h : Heap) (K : Kt) : Prop :=
 Ca f_shelf_Shelf_made #[x0_] h fun x2 h1 =>
 BiP .neq x2 (.int .i64 0) fun x3 =>
 CdP x3
 (K x2 h1)
 (Fl 9 x0_ h1 fun x6 =>
 Ca f_cache_Cache_Flush #[x6] h1 fun x8 h7 =>
 K x8 h7)
theorem m_shelf_Shelf_Flush_ok {x0_ : Value} {h : Heap} {K : Kt} (hh : m_shelf_Shelf_Flush x0_ h K) : Ca f_shelf_Shelf_Flush #[x0_] h K := cv Tryz.func50 (by kernel_rfl) hh
/- sluicegate/shelf.New -/
def m_shelf_New_j30 (x1_ x2_ x7_ : Value) (h : Heap) (K : Kt) : Prop :=
 Fv 0 x2_ h fun x32 =>
 Ca f_pool_New #[x32] h fun x34 h33 =>
 ExP x34 0 fun x35 =>
 ExP x34 1 fun x36 =>
 BiP .neq x36 (.int .i64 0) fun x37 =>
 CdP x37
 (K (.tuple #[(.pointer none), x36]) h33)
 (LdA 8 x2_ h33 fun x38 =>
 BlP bt_shelf_Shelf [(0, x38), (1, x1_), (2, x7_), (3, x35)] fun x39 =>
 BxP t_shelf_Shelf x39 h33 fun x41 h40 =>
 K (.tuple #[x41, (.int .i64 0)]) h40)
def m_shelf_New_j29 (x1_ x2_ x7_ x36_ : Value) (h : Heap) (K : Kt) : Prop :=
 CdP x36_
 (K (.tuple #[(.pointer none), (.int .i64 3)]) h)
 (m_shelf_New_j30 x1_ x2_ x7_ h K)
def m_shelf_New (x0_ x1_ : Value) (h : Heap) (K : Kt) : Prop :=
 BxP t_api_Config x0_ h fun x2 h1 =>
 LdA 8 x2 h1 fun x3 =>
 Ca f_conf_Check #[x3] h1 fun x5 h4 =>
 BiP .neq x5 (.int .i64 0) fun x6 =>
 CdP x6
 (K (.tuple #[(.pointer none), x5]) h4)
 (Fv 2 x2 h4 fun x8 =>
 Ca f_cache_New #[x1_, x8] h4 fun x10 h9 =>
 ExP x10 0 fun x11 =>
 ExP x10 1 fun x12 =>
 BiP .neq x12 (.int .i64 0) fun x13 =>
 CdP x13
 (K (.tuple #[(.pointer none), x12]) h9)
 (∃ X16 : XS,
 FaP (some 0) x2 fun x17 =>
 LdX X16 x17 h9 fun x18 =>
 Ca f_dev_Device_Blocks #[x1_] h9 fun x20 h19 =>
 Agr X16 h9 h19 ∧ (BiP .neq x20 x18 fun x21 =>
 CdP x21
 (m_shelf_New_j29 x1_ x2 x11 (.bool true) h19 K)
 (FaP (some 1) x2 fun x23 =>
 LdX X16 x23 h9 fun x24 =>
 Ca f_dev_Device_Bytes #[x1_] h19 fun x26 h25 =>
 Agr X16 h9 h25 ∧ (BiP .neq x26 x24 fun x27 =>
 m_shelf_New_j29 x1_ x2 x11 x27 h25 K)))))
theorem m_shelf_New_ok {x0_ x1_ : Value} {h : Heap} {K : Kt} (hh : m_shelf_New x0_ x1_ h K) : Ca f_shelf_New #[x0_, x1_] h K := cv Tryz.func68 (by kernel_rfl) hh
/- (*sluicegate/shelf.Shelf).Config -/
def m_shelf_Shelf_Config (x0_ : Value) (h : Heap) (K : Kt) : Prop :=
 AlP t_api_Config zt_api_Config h fun x2 h1 =>
 EqP .eql t_P_shelf_Shelf (.tmp 3) (.const (.pointer none)) x0_ (.pointer none) h1 fun x4 h3 =>
 CdP x4
 (BlP bt_api_Config [] fun x5 =>
 StA 8 x2 x5 h3 fun h6 =>
 LdA 8 x2 h6 fun x7 =>
 K x7 h6)
 (Fla 0 8 x0_ h3 fun x10 =>
 StA 8 x2 x10 h3 fun h11 =>
 LdA 8 x2 h11 fun x12 =>
 K x12 h11)
theorem m_shelf_Shelf_Config_ok {x0_ : Value} {h : Heap} {K : Kt} (hh : m_shelf_Shelf_Config x0_ h K) : Ca f_shelf_Shelf_Config #[x0_] h K := cv Tryz.func74 (by kernel_rfl) hh
/- (*sluicegate/shelf.Shelf).made -/
def m_shelf_Shelf_made_j13 (h : Heap) (K : Kt) : Prop :=
 K (.int .i64 0) h
def m_shelf_Shelf_made_j12 (x11_ : Value) (h : Heap) (K : Kt) : Prop :=
 CdP x11_
 (K (.int .i64 1) h)
 (m_shelf_Shelf_made_j13 h K)
def m_shelf_Shelf_made (x0_ : Value) (h : Heap) (K : Kt) : Prop :=
 EqP .eql t_P_shelf_Shelf (.tmp 3) (.const (.pointer none)) x0_ (.pointer none) h fun x4 h3 =>
 CdP x4
 (m_shelf_Shelf_made_j12 (.bool true) h3 K)
 (Fl 9 x0_ h3 fun x8 =>
 EqP .eql t_P_cache_Cache (.tmp 9) (.const (.pointer none)) x8 (.pointer none) h3 fun x10 h9 =>
 m_shelf_Shelf_made_j12 x10 h9 K)
theorem m_shelf_Shelf_made_ok {x0_ : Value} {h : Heap} {K : Kt} (hh : m_shelf_Shelf_made x0_ h K) : Ca f_shelf_Shelf_made #[x0_] h K := cv Tryz.func75 (by kernel_rfl) hh
/- (*sluicegate/cache.Cache).Flush -/
def m_cache_Cache_Flush_j26 (h : Heap) (K : Kt) : Prop :=
 K (.int .i64 0) h
def m_cache_Cache_Flush_l7 (vs : List Value) (x0_ x8_ x9_ : Value) (h : Heap) (nx8 : Nt) (K : Kt) : Prop :=
 BiP .lss (gv vs 0) x9_ fun x9 =>
 CdP x9
 (Ei 1 x8_ (gv vs 0) h fun x12 =>
 ∃ X13 : XS,
 NilP x0_ fun x14 =>
 FaP (some 1) x14 fun x15 =>
 LdX X13 x15 h fun x16 =>
 NilP x0_ fun x17 =>
 FaP (some 2) x17 fun x18 =>
 LdX X13 x18 h fun x19 =>
 VH Pg (Instr.lookup t_M_uint32_int x19 x12 false) h fun x21 h20 =>
 Agr X13 h h20 ∧ (IxP 4 x16 x21 fun x22 =>
 Ca f_cache_Cache_back #[x0_, x22] h20 fun x24 h23 =>
 True ∧ (BiP .add (gv vs 0) (.int .i64 1) fun x25 =>
 nx8 [x25] h23)))
 (m_cache_Cache_Flush_j26 h K)
def m_cache_Cache_Flush (x0_ : Value) (h : Heap) (K : Kt) : Prop :=
 Ca f_cache_Cache_none #[x0_] h fun x2 h1 =>
 CdP x2
 (K (.int .i64 1) h1)
 (Ca f_cache_Cache_Dirty #[x0_] h1 fun x5 h4 =>
 LenP (some true) x5 fun x6 =>
 LoP (fun vt h nx8 => m_cache_Cache_Flush_l7 vt x0_ x5 x6 h nx8 K) [(.int .i64 0)] h4)
theorem m_cache_Cache_Flush_ok {x0_ : Value} {h : Heap} {K : Kt} (hh : m_cache_Cache_Flush x0_ h K) : Ca f_cache_Cache_Flush #[x0_] h K := cv Tryz.func76 (by kernel_rfl) hh
/- (*sluicegate/shelf.Shelf).Load -/
def m_shelf_Shelf_Load (x0_ x1_ : Value) (h : Heap) (K : Kt) : Prop :=
 AlP t_api_Node zt_api_Node h fun x2 h1 =>
 Ca f_shelf_Shelf_there #[x0_, x1_] h1 fun x4 h3 =>
 BiP .neq x4 (.int .i64 0) fun x5 =>
 CdP x5
 (BlP bt_api_Node [] fun x6 =>
 StA 5 x2 x6 h3 fun h7 =>
 LdA 5 x2 h7 fun x8 =>
 K (.tuple #[x8, x4]) h7)
 (Fl 9 x0_ h3 fun x11 =>
 Ca f_cache_Cache_Pin #[x11, x1_] h3 fun x13 h12 =>
 BiP .neq x13 (.int .i64 0) fun x14 =>
 CdP x14
 (BlP bt_api_Node [] fun x15 =>
 StA 5 x2 x15 h12 fun h16 =>
 LdA 5 x2 h16 fun x17 =>
 K (.tuple #[x17, x13]) h16)
 (Fl 9 x0_ h12 fun x20 =>
 Ca f_cache_Cache_Read #[x20, x1_] h12 fun x22 h21 =>
 ExP x22 0 fun x23 =>
 ExP x22 1 fun x24 =>
 Fl 9 x0_ h21 fun x27 =>
 Ca f_cache_Cache_Unpin #[x27, x1_] h21 fun x29 h28 =>
 BiP .neq x24 (.int .i64 0) fun x30 =>
 CdP x30
 (BlP bt_api_Node [] fun x31 =>
 StA 5 x2 x31 h28 fun h32 =>
 LdA 5 x2 h32 fun x33 =>
 K (.tuple #[x33, x24]) h32)
 (Fla 0 8 x0_ h28 fun x36 =>
 Ca f_code_Decode #[x36, x23] h28 fun x38 h37 =>
 ExP x38 0 fun x39 =>
 ExP x38 1 fun x40 =>
 StA 5 x2 x39 h37 fun h41 =>
 LdA 5 x2 h41 fun x42 =>
 K (.tuple #[x42, x40]) h41)))
theorem m_shelf_Shelf_Load_ok {x0_ x1_ : Value} {h : Heap} {K : Kt} (hh : m_shelf_Shelf_Load x0_ x1_ h K) : Ca f_shelf_Shelf_Load #[x0_, x1_] h K := cv Tryz.func87 (by kernel_rfl) hh
/- sluicegate/cache.New -/
def m_cache_New_j40 (x8_ : Value) (h : Heap) (K : Kt) : Prop :=
 K (.tuple #[x8_, (.int .i64 0)]) h
def m_cache_New_l25 (vs : List Value) (x8_ x36_ : Value) (h : Heap) (nx26 : Nt) (K : Kt) : Prop :=
 BiP .lss (gv vs 0) x36_ fun x27 =>
 CdP x27
 (Fl 3 x8_ h fun x31 =>
 BsP st_S_int 1 [(0, (gv vs 0))] h fun x33 h32 =>
 VH Pg (Builtin.append_ #[t_S_int, t_S_int] t_S_int #[x31, x33]) h32 fun x35 h34 =>
 Fs 3 x8_ x35 h34 fun h38 =>
 BiP .add (gv vs 0) (.int .i64 1) fun x39 =>
 nx26 [x39] h38)
 (m_cache_New_j40 x8_ h K)
def m_cache_New_j11 (x0_ x1_ : Value) (h : Heap) (K : Kt) : Prop :=
 Ca f_chain_New #[x1_] h fun x13 h12 =>
 ExP x13 0 fun x14 =>
 ExP x13 1 fun x15 =>
 BiP .neq x15 (.int .i64 0) fun x16 =>
 CdP x16
 (K (.tuple #[(.pointer none), x15]) h12)
 (VH Pg (Instr.makeSlice t_S_cache_frame x1_ x1_) h12 fun x18 h17 =>
 VH Pg (Instr.makeMap t_M_uint32_int none) h17 fun x20 h19 =>
 BlP bt_cache_Cache [(0, x0_), (1, x18), (2, x20), (4, x14)] fun x21 =>
 BxP t_cache_Cache x21 h19 fun x23 h22 =>
 LoP (fun vt h nx26 => m_cache_New_l25 vt x23 x1_ h nx26 K) [(.int .i64 0)] h22)
def m_cache_New_j10 (x0_ x1_ x14_ : Value) (h : Heap) (K : Kt) : Prop :=
 CdP x14_
 (K (.tuple #[(.pointer none), (.int .i64 2)]) h)
 (m_cache_New_j11 x0_ x1_ h K)
def m_cache_New (x0_ x1_ : Value) (h : Heap) (K : Kt) : Prop :=
 Ca f_dev_Device_Blocks #[x0_] h fun x3 h2 =>
 BiP .eql x3 (.int .i64 0) fun x4 =>
 CdP x4
 (K (.tuple #[(.pointer none), (.int .i64 1)]) h2)
 (BiP .lss x1_ (.int .i64 1) fun x6 =>
 CdP x6
 (m_cache_New_j10 x0_ x1_ (.bool true) h2 K)
 (BiP .gtr x1_ (.int .i64 64) fun x8 =>
 m_cache_New_j10 x0_ x1_ x8 h2 K))
theorem m_cache_New_ok {x0_ x1_ : Value} {h : Heap} {K : Kt} (hh : m_cache_New x0_ x1_ h K) : Ca f_cache_New #[x0_, x1_] h K := cv Tryz.func107 (by kernel_rfl) hh
/- (*sluicegate/shelf.Shelf).Has -/
def m_shelf_Shelf_Has_j11 (x4_ : Value) (h : Heap) (K : Kt) : Prop :=
 K x4_ h
def m_shelf_Shelf_Has (x0_ x1_ : Value) (h : Heap) (K : Kt) : Prop :=
 EqP .neq t_P_shelf_Shelf (.tmp 5) (.const (.pointer none)) x0_ (.pointer none) h fun x3 h2 =>
 CdP x3
 (Fl 10 x0_ h2 fun x6 =>
 Ca f_pool_Pool_Has #[x6, x1_] h2 fun x8 h7 =>
 m_shelf_Shelf_Has_j11 x8 h7 K)
 (m_shelf_Shelf_Has_j11 (.bool false) h2 K)
theorem m_shelf_Shelf_Has_ok {x0_ x1_ : Value} {h : Heap} {K : Kt} (hh : m_shelf_Shelf_Has x0_ x1_ h K) : Ca f_shelf_Shelf_Has #[x0_, x1_] h K := cv Tryz.func112 (by kernel_rfl) hh
/- (*sluicegate/shelf.Shelf).Mark -/
def m_shelf_Shelf_Mark (x0_ x1_ : Value) (h : Heap) (K : Kt) : Prop :=
 Ca f_shelf_Shelf_there #[x0_, x1_] h fun x2 h1 =>
 BiP .neq x2 (.int .i64 0) fun x3 =>
 CdP x3
 (K x2 h1)
 (Fl 10 x0_ h1 fun x6 =>
 Ca f_pool_Pool_Mark #[x6, x1_] h1 fun x8 h7 =>
 K x8 h7)
theorem m_shelf_Shelf_Mark_ok {x0_ x1_ : Value} {h : Heap} {K : Kt} (hh : m_shelf_Shelf_Mark x0_ x1_ h K) : Ca f_shelf_Shelf_Mark #[x0_, x1_] h K := cv Tryz.func113 (by kernel_rfl) hh
/- (*sluicegate/shelf.Shelf).Keep -/
def m_shelf_Shelf_Keep_j42 (x0_ x1_ : Value) (h : Heap) (K : Kt) : Prop :=
 Fs 11 x0_ x1_ h fun h45 =>
 K (.int .i64 0) h45
def m_shelf_Shelf_Keep_j28 (x0_ x1_ : Value) (h : Heap) (K : Kt) : Prop :=
 Fl 11 x0_ h fun x32 =>
 BiP .neq x32 (.int .u32 0) fun x33 =>
 CdP x33
 (Fl 9 x0_ h fun x36 =>
 Fl 11 x0_ h fun x39 =>
 Ca f_cache_Cache_Unpin #[x36, x39] h fun x41 h40 =>
 True ∧ (m_shelf_Shelf_Keep_j42 x0_ x1_ h40 K))
 (m_shelf_Shelf_Keep_j42 x0_ x1_ h K)
def m_shelf_Shelf_Keep_j19 (x0_ x1_ : Value) (h : Heap) (K : Kt) : Prop :=
 BiP .neq x1_ (.int .u32 0) fun x21 =>
 CdP x21
 (Fl 9 x0_ h fun x24 =>
 Ca f_cache_Cache_Pin #[x24, x1_] h fun x26 h25 =>
 BiP .neq x26 (.int .i64 0) fun x27 =>
 CdP x27
 (K x26 h25)
 (m_shelf_Shelf_Keep_j28 x0_ x1_ h25 K))
 (m_shelf_Shelf_Keep_j28 x0_ x1_ h K)
def m_shelf_Shelf_Keep_j18 (x0_ x1_ x6_ x27_ : Value) (h : Heap) (K : Kt) : Prop :=
 CdP x27_
 (K x6_ h)
 (m_shelf_Shelf_Keep_j19 x0_ x1_ h K)
def m_shelf_Shelf_Keep_j6 (x0_ x1_ : Value) (h : Heap) (K : Kt) : Prop :=
 Ca f_shelf_Shelf_made #[x0_] h fun x9 h8 =>
 BiP .neq x9 (.int .i64 0) fun x11 =>
 CdP x11
 (m_shelf_Shelf_Keep_j18 x0_ x1_ x9 (.bool true) h8 K)
 (Fl 11 x0_ h8 fun x15 =>
 BiP .eql x1_ x15 fun x16 =>
 m_shelf_Shelf_Keep_j18 x0_ x1_ x9 x16 h8 K)
def m_shelf_Shelf_Keep (x0_ x1_ : Value) (h : Heap) (K : Kt) : Prop :=
 BiP .neq x1_ (.int .u32 0) fun x2 =>
 CdP x2
 (Ca f_shelf_Shelf_there #[x0_, x1_] h fun x4 h3 =>
 BiP .neq x4 (.int .i64 0) fun x5 =>
 CdP x5
 (K x4 h3)
 (m_shelf_Shelf_Keep_j6 x0_ x1_ h3 K))
 (m_shelf_Shelf_Keep_j6 x0_ x1_ h K)
theorem m_shelf_Shelf_Keep_ok {x0_ x1_ : Value} {h : Heap} {K : Kt} (hh : m_shelf_Shelf_Keep x0_ x1_ h K) : Ca f_shelf_Shelf_Keep #[x0_, x1_] h K := cv Tryz.func114 (by kernel_rfl) hh
/- (*sluicegate/cache.Cache).none -/
def m_cache_Cache_none_j11 (x2_ : Value) (h : Heap) (K : Kt) : Prop :=
 K x2_ h
def m_cache_Cache_none (x0_ : Value) (h : Heap) (K : Kt) : Prop :=
 EqP .eql t_P_cache_Cache (.tmp 3) (.const (.pointer none)) x0_ (.pointer none) h fun x3 h2 =>
 CdP x3
 (m_cache_Cache_none_j11 (.bool true) h2 K)
 (Fl 0 x0_ h2 fun x7 =>
 EqP .eql t_P_dev_Device (.tmp 9) (.const (.pointer none)) x7 (.pointer none) h2 fun x9 h8 =>
 m_cache_Cache_none_j11 x9 h8 K)
theorem m_cache_Cache_none_ok {x0_ : Value} {h : Heap} {K : Kt} (hh : m_cache_Cache_none x0_ h K) : Ca f_cache_Cache_none #[x0_] h K := cv Tryz.func117 (by kernel_rfl) hh
/- (*sluicegate/cache.Cache).Dirty -/
def m_cache_Cache_Dirty_j34 (x0_ x3_ x13_ x14_ x15_ : Value) (h : Heap) (nx13 : Nt) (K : Kt) : Prop :=
 BiP .add x15_ (.int .i64 1) fun x35 =>
 nx13 [x3_, x35] h
def m_cache_Cache_Dirty_j36 (x3_ : Value) (h : Heap) (K : Kt) : Prop :=
 K x3_ h
def m_cache_Cache_Dirty_l12 (vs : List Value) (x0_ x13_ x14_ : Value) (h : Heap) (nx13 : Nt) (K : Kt) : Prop :=
 BiP .lss (gv vs 1) x14_ fun x14 =>
 CdP x14
 (Ei 1 x13_ (gv vs 1) h fun x17 =>
 ∃ X18 : XS,
 NilP x0_ fun x19 =>
 FaP (some 1) x19 fun x20 =>
 LdX X18 x20 h fun x21 =>
 NilP x0_ fun x22 =>
 FaP (some 2) x22 fun x23 =>
 LdX X18 x23 h fun x24 =>
 VH Pg (Instr.lookup t_M_uint32_int x24 x17 false) h fun x26 h25 =>
 Agr X18 h h25 ∧ (IxP 4 x21 x26 fun x27 =>
 FaP (some 2) x27 fun x28 =>
 LdX X18 x28 h fun x29 =>
 CdP x29
 (BsP st_S_uint32 1 [(0, x17)] h25 fun x31 h30 =>
 VH Pg (Builtin.append_ #[t_S_uint32, t_S_uint32] t_S_uint32 #[(gv vs 0), x31]) h30 fun x33 h32 =>
 m_cache_Cache_Dirty_j34 x0_ x33 x13_ x14_ (gv vs 1) h32 nx13 K)
 (m_cache_Cache_Dirty_j34 x0_ (gv vs 0) x13_ x14_ (gv vs 1) h25 nx13 K)))
 (m_cache_Cache_Dirty_j36 (gv vs 0) h K)
def m_cache_Cache_Dirty (x0_ : Value) (h : Heap) (K : Kt) : Prop :=
 Ca f_cache_Cache_none #[x0_] h fun x2 h1 =>
 CdP x2
 (K (.slice none 0 0) h1)
 (Fl 2 x0_ h1 fun x6 =>
 Ca f_maps_Keys_map #[x6] h1 fun x8 h7 =>
 Ca f_slices_Sorted_uint32 #[x8] h7 fun x10 h9 =>
 LenP (some true) x10 fun x11 =>
 LoP (fun vt h nx13 => m_cache_Cache_Dirty_l12 vt x0_ x10 x11 h nx13 K) [(.slice none 0 0), (.int .i64 0)] h9)
theorem m_cache_Cache_Dirty_ok {x0_ : Value} {h : Heap} {K : Kt} (hh : m_cache_Cache_Dirty x0_ h K) : Ca f_cache_Cache_Dirty #[x0_] h K := cv Tryz.func118 (by kernel_rfl) hh
/- (*sluicegate/cache.Cache).back -/
def m_cache_Cache_back (x0_ x1_ : Value) (h : Heap) (K : Kt) : Prop :=
 Fl 2 x1_ h fun x3 =>
 CdP x3
 (Fl 0 x0_ h fun x6 =>
 Fl 0 x1_ h fun x9 =>
 Fl 1 x1_ h fun x12 =>
 Ca f_dev_Device_Write #[x6, x9, x12] h fun x14 h13 =>
 True ∧ (Fs 2 x1_ (.bool false) h13 fun h17 =>
 K (.tuple #[]) h17))
 (K (.tuple #[]) h)
theorem m_cache_Cache_back_ok {x0_ x1_ : Value} {h : Heap} {K : Kt} (hh : m_cache_Cache_back x0_ x1_ h K) : Ca f_cache_Cache_back #[x0_, x1_] h K := cv Tryz.func119 (by kernel_rfl) hh
/- (*sluicegate/shelf.Shelf).Make -/
def m_shelf_Shelf_Make (x0_ x1_ : Value) (h : Heap) (K : Kt) : Prop :=
 BxP t_api_Node x1_ h fun x2 h1 =>
 Ca f_shelf_Shelf_made #[x0_] h1 fun x4 h3 =>
 BiP .neq x4 (.int .i64 0) fun x5 =>
 CdP x5
 (K (.tuple #[(.int .u32 0), x4]) h3)
 (Fla 0 8 x0_ h3 fun x8 =>
 LdA 5 x2 h3 fun x9 =>
 Ca f_code_Encode #[x8, x9] h3 fun x11 h10 =>
 True ∧ (ExP x11 0 fun x12 =>
 ExP x11 1 fun x13 =>
 BiP .neq x13 (.int .i64 0) fun x14 =>
 CdP x14
 (K (.tuple #[(.int .u32 0), x13]) h10)
 (Fl 10 x0_ h10 fun x17 =>
 Ca f_pool_Pool_Take #[x17] h10 fun x19 h18 =>
 ExP x19 0 fun x20 =>
 ExP x19 1 fun x21 =>
 BiP .neq x21 (.int .i64 0) fun x22 =>
 CdP x22
 (K (.tuple #[(.int .u32 0), x21]) h18)
 (Ca f_shelf_Shelf_lay #[x0_, x20, x12] h18 fun x24 h23 =>
 BiP .neq x24 (.int .i64 0) fun x25 =>
 CdP x25
 (Fl 10 x0_ h23 fun x28 =>
 Ca f_pool_Pool_Give #[x28, x20] h23 fun x30 h29 =>
 K (.tuple #[(.int .u32 0), x24]) h29)
 (K (.tuple #[x20, (.int .i64 0)]) h23)))))
theorem m_shelf_Shelf_Make_ok {x0_ x1_ : Value} {h : Heap} {K : Kt} (hh : m_shelf_Shelf_Make x0_ x1_ h K) : Ca f_shelf_Shelf_Make #[x0_, x1_] h K := cv Tryz.func124 (by kernel_rfl) hh
/- (*sluicegate/shelf.Shelf).there -/
def m_shelf_Shelf_there_j24 (h : Heap) (K : Kt) : Prop :=
 K (.int .i64 0) h
def m_shelf_Shelf_there_j23 (x15_ : Value) (h : Heap) (K : Kt) : Prop :=
 CdP x15_
 (K (.int .i64 4) h)
 (m_shelf_Shelf_there_j24 h K)
def m_shelf_Shelf_there_j12 (x0_ x1_ x5_ : Value) (h : Heap) (K : Kt) : Prop :=
 CdP x5_
 (K (.int .i64 1) h)
 (BiP .eql x1_ (.int .u32 0) fun x14 =>
 CdP x14
 (m_shelf_Shelf_there_j23 (.bool true) h K)
 (CvP .i64 x1_ fun x16 =>
 NilP x0_ fun x17 =>
 FaP (some 0) x17 fun x18 =>
 Fv 0 x18 h fun x20 =>
 BiP .geq x16 x20 fun x21 =>
 m_shelf_Shelf_there_j23 x21 h K))
def m_shelf_Shelf_there (x0_ x1_ : Value) (h : Heap) (K : Kt) : Prop :=
 EqP .eql t_P_shelf_Shelf (.tmp 6) (.const (.pointer none)) x0_ (.pointer none) h fun x4 h3 =>
 CdP x4
 (m_shelf_Shelf_there_j12 x0_ x1_ (.bool true) h3 K)
 (Fl 9 x0_ h3 fun x8 =>
 EqP .eql t_P_cache_Cache (.tmp 12) (.const (.pointer none)) x8 (.pointer none) h3 fun x10 h9 =>
 m_shelf_Shelf_there_j12 x0_ x1_ x10 h9 K)
theorem m_shelf_Shelf_there_ok {x0_ x1_ : Value} {h : Heap} {K : Kt} (hh : m_shelf_Shelf_there x0_ x1_ h K) : Ca f_shelf_Shelf_there #[x0_, x1_] h K := cv Tryz.func125 (by kernel_rfl) hh
/- (*sluicegate/cache.Cache).Pin -/
def m_cache_Cache_Pin (x0_ x1_ : Value) (h : Heap) (K : Kt) : Prop :=
 Ca f_cache_Cache_there #[x0_, x1_] h fun x2 h1 =>
 BiP .neq x2 (.int .i64 0) fun x3 =>
 CdP x3
 (K x2 h1)
 (Fl 2 x0_ h1 fun x6 =>
 VH Pg (Instr.lookup t_M_uint32_int x6 x1_ true) h1 fun x8 h7 =>
 ExP x8 0 fun x9 =>
 ExP x8 1 fun x10 =>
 CdP x10
 (Fl 1 x0_ h7 fun x13 =>
 Ef 4 3 x13 x9 h7 fun x16 =>
 BiP .add x16 (.int .i64 1) fun x17 =>
 IxP 4 x13 x9 fun x18 =>
 FaP (some 3) x18 fun x19 =>
 StP x19 x17 h7 fun h20 =>
 Fl 4 x0_ h20 fun x23 =>
 Ca f_chain_Chain_Cut #[x23, x9] h20 fun x25 h24 =>
 K (.int .i64 0) h24)
 (Ca f_cache_Cache_room #[x0_] h7 fun x27 h26 =>
 ExP x27 0 fun x28 =>
 ExP x27 1 fun x29 =>
 UnP .not x29 fun x30 =>
 CdP x30
 (K (.int .i64 7) h26)
 (Fl 0 x0_ h26 fun x33 =>
 Ca f_dev_Device_Read #[x33, x1_] h26 fun x35 h34 =>
 ExP x35 0 fun x36 =>
 ExP x35 1 fun x37 =>
 BiP .neq x37 (.int .i64 0) fun x38 =>
 CdP x38
 (Fl 3 x0_ h34 fun x41 =>
 BsP st_S_int 1 [(0, x28)] h34 fun x43 h42 =>
 VH Pg (Builtin.append_ #[t_S_int, t_S_int] t_S_int #[x41, x43]) h42 fun x45 h44 =>
 Fs 3 x0_ x45 h44 fun h48 =>
 K x37 h48)
 (BlP bt_cache_frame [(0, x1_), (1, x36)] fun x49 =>
 Ca f_cache_Cache_put #[x0_, x28, x49] h34 fun x51 h50 =>
 K (.int .i64 0) h50))))
theorem m_cache_Cache_Pin_ok {x0_ x1_ : Value} {h : Heap} {K : Kt} (hh : m_cache_Cache_Pin x0_ x1_ h K) : Ca f_cache_Cache_Pin #[x0_, x1_] h K := cv Tryz.func126 (by kernel_rfl) hh
/- (*sluicegate/cache.Cache).Read -/
def m_cache_Cache_Read (x0_ x1_ : Value) (h : Heap) (K : Kt) : Prop :=
 Ca f_cache_Cache_pinned #[x0_, x1_] h fun x2 h1 =>
 ExP x2 0 fun x3 =>
 ExP x2 1 fun x4 =>
 BiP .neq x4 (.int .i64 0) fun x5 =>
 CdP x5
 (K (.tuple #[(.slice none 0 0), x4]) h1)
 (Fl 1 x3 h1 fun x8 =>
 Ca f_slices_Clone_byte #[x8] h1 fun x10 h9 =>
 K (.tuple #[x10, (.int .i64 0)]) h9)
theorem m_cache_Cache_Read_ok {x0_ x1_ : Value} {h : Heap} {K : Kt} (hh : m_cache_Cache_Read x0_ x1_ h K) : Ca f_cache_Cache_Read #[x0_, x1_] h K := cv Tryz.func127 (by kernel_rfl) hh
/- (*sluicegate/cache.Cache).Unpin -/
def m_cache_Cache_Unpin_j29 (h : Heap) (K : Kt) : Prop :=
 K (.int .i64 0) h
def m_cache_Cache_Unpin (x0_ x1_ : Value) (h : Heap) (K : Kt) : Prop :=
 Ca f_cache_Cache_pinned #[x0_, x1_] h fun x2 h1 =>
 ExP x2 0 fun x3 =>
 ExP x2 1 fun x4 =>
 BiP .neq x4 (.int .i64 0) fun x5 =>
 CdP x5
 (K x4 h1)
 (Fl 3 x3 h1 fun x8 =>
 BiP .sub x8 (.int .i64 1) fun x9 =>
 Fs 3 x3 x9 h1 fun h12 =>
 Fl 3 x3 h12 fun x16 =>
 BiP .eql x16 (.int .i64 0) fun x17 =>
 CdP x17
 (∃ X18 : XS,
 NilP x0_ fun x19 =>
 FaP (some 4) x19 fun x20 =>
 LdX X18 x20 h12 fun x21 =>
 NilP x0_ fun x22 =>
 FaP (some 2) x22 fun x23 =>
 LdX X18 x23 h12 fun x24 =>
 VH Pg (Instr.lookup t_M_uint32_int x24 x1_ false) h12 fun x26 h25 =>
 Agr X18 h12 h25 ∧ (Ca f_chain_Chain_Front #[x21, x26] h25 fun x28 h27 =>
 True ∧ (m_cache_Cache_Unpin_j29 h27 K)))
 (m_cache_Cache_Unpin_j29 h12 K))
theorem m_cache_Cache_Unpin_ok {x0_ x1_ : Value} {h : Heap} {K : Kt} (hh : m_cache_Cache_Unpin x0_ x1_ h K) : Ca f_cache_Cache_Unpin #[x0_, x1_] h K := cv Tryz.func128 (by kernel_rfl) hh
/- (*sluicegate/shelf.Shelf).Save -/
def m_shelf_Shelf_Save (x0_ x1_ x2_ : Value) (h : Heap) (K : Kt) : Prop :=
 BxP t_api_Node x2_ h fun x2 h1 =>
 Ca f_shelf_Shelf_there #[x0_, x1_] h1 fun x4 h3 =>
 BiP .neq x4 (.int .i64 0) fun x5 =>
 CdP x5
 (K x4 h3)
 (Fla 0 8 x0_ h3 fun x8 =>
 LdA 5 x2 h3 fun x9 =>
 Ca f_code_Encode #[x8, x9] h3 fun x11 h10 =>
 True ∧ (ExP x11 0 fun x12 =>
 ExP x11 1 fun x13 =>
 BiP .neq x13 (.int .i64 0) fun x14 =>
 CdP x14
 (K x13 h10)
 (Ca f_shelf_Shelf_lay #[x0_, x1_, x12] h10 fun x16 h15 =>
 K x16 h15)))
theorem m_shelf_Shelf_Save_ok {x0_ x1_ x2_ : Value} {h : Heap} {K : Kt} (hh : m_shelf_Shelf_Save x0_ x1_ x2_ h K) : Ca f_shelf_Shelf_Save #[x0_, x1_, x2_] h K := cv Tryz.func131 (by kernel_rfl) hh
/- (*sluicegate/shelf.Shelf).lay -/
def m_shelf_Shelf_lay (x0_ x1_ x2_ : Value) (h : Heap) (K : Kt) : Prop :=
 Fl 11 x0_ h fun x3 =>
 BiP .eql x1_ x3 fun x4 =>
 CdP x4
 (Fl 9 x0_ h fun x7 =>
 Ca f_cache_Cache_Write #[x7, x1_, x2_] h fun x9 h8 =>
 K x9 h8)
 (Fl 9 x0_ h fun x12 =>
 Ca f_cache_Cache_Fresh #[x12, x1_] h fun x14 h13 =>
 BiP .neq x14 (.int .i64 0) fun x15 =>
 CdP x15
 (K x14 h13)
 (Fl 9 x0_ h13 fun x18 =>
 Ca f_cache_Cache_Write #[x18, x1_, x2_] h13 fun x20 h19 =>
 Fl 9 x0_ h19 fun x23 =>
 Ca f_cache_Cache_Unpin #[x23, x1_] h19 fun x25 h24 =>
 K x20 h24))
theorem m_shelf_Shelf_lay_ok {x0_ x1_ x2_ : Value} {h : Heap} {K : Kt} (hh : m_shelf_Shelf_lay x0_ x1_ x2_ h K) : Ca f_shelf_Shelf_lay #[x0_, x1_, x2_] h K := cv Tryz.func165 (by kernel_rfl) hh
/- (*sluicegate/cache.Cache).there -/
def m_cache_Cache_there (x0_ x1_ : Value) (h : Heap) (K : Kt) : Prop :=
 Ca f_cache_Cache_none #[x0_] h fun x3 h2 =>
 CdP x3
 (K (.int .i64 1) h2)
 (CvP .i64 x1_ fun x4 =>
 Fl 0 x0_ h2 fun x7 =>
 Ca f_dev_Device_Blocks #[x7] h2 fun x9 h8 =>
 BiP .geq x4 x9 fun x10 =>
 CdP x10
 (K (.int .i64 4) h8)
 (K (.int .i64 0) h8))
theorem m_cache_Cache_there_ok {x0_ x1_ : Value} {h : Heap} {K : Kt} (hh : m_cache_Cache_there x0_ x1_ h K) : Ca f_cache_Cache_there #[x0_, x1_] h K := cv Tryz.func167 (by kernel_rfl) hh
/- (*sluicegate/cache.Cache).room -/
def m_cache_Cache_room_j23 (x0_ : Value) (h : Heap) (K : Kt) : Prop :=
 Fl 3 x0_ h fun x26 =>
 LenP (some true) x26 fun x27 =>
 BiP .sub x27 (.int .i64 1) fun x28 =>
 Fl 3 x0_ h fun x31 =>
 Ei 1 x31 x28 h fun x33 =>
 Fl 3 x0_ h fun x36 =>
 SlP 1 x36 none (some x28) fun x37 =>
 Fs 3 x0_ x37 h fun h40 =>
 K (.tuple #[x33, (.bool true)]) h40
def m_cache_Cache_room (x0_ : Value) (h : Heap) (K : Kt) : Prop :=
 Fl 3 x0_ h fun x4 =>
 LenP (some true) x4 fun x5 =>
 BiP .eql x5 (.int .i64 0) fun x6 =>
 CdP x6
 (Fl 4 x0_ h fun x9 =>
 Ca f_chain_Chain_Last #[x9] h fun x11 h10 =>
 ExP x11 0 fun x12 =>
 ExP x11 1 fun x13 =>
 UnP .not x13 fun x14 =>
 CdP x14
 (K (.tuple #[(.int .i64 0), (.bool false)]) h10)
 (Fl 1 x0_ h10 fun x17 =>
 IxP 4 x17 x12 fun x18 =>
 Ca f_cache_Cache_back #[x0_, x18] h10 fun x20 h19 =>
 Ca f_cache_Cache_leave #[x0_, x12] h19 fun x22 h21 =>
 m_cache_Cache_room_j23 x0_ h21 K))
 (m_cache_Cache_room_j23 x0_ h K)
theorem m_cache_Cache_room_ok {x0_ : Value} {h : Heap} {K : Kt} (hh : m_cache_Cache_room x0_ h K) : Ca f_cache_Cache_room #[x0_] h K := cv Tryz.func169 (by kernel_rfl) hh
/- (*sluicegate/cache.Cache).put -/
def m_cache_Cache_put (x0_ x1_ x2_ : Value) (h : Heap) (K : Kt) : Prop :=
 BxP t_cache_frame x2_ h fun x2 h1 =>
 FaP (some 3) x2 fun x3 =>
 StP x3 (.int .i64 1) h1 fun h4 =>
 Fl 1 x0_ h4 fun x7 =>
 LdA 4 x2 h4 fun x8 =>
 IxP 4 x7 x1_ fun x9 =>
 StA 4 x9 x8 h4 fun h10 =>
 True ∧ (Fl 2 x0_ h10 fun x13 =>
 Fv 0 x2 h10 fun x15 =>
 UH Pg (Instr.mapUpdate t_M_uint32_int x13 x15 x1_) h10 fun h16 =>
 True ∧ (Fl 4 x0_ h16 fun x19 =>
 Ca f_chain_Chain_Cut #[x19, x1_] h16 fun x21 h20 =>
 K (.tuple #[]) h20))
theorem m_cache_Cache_put_ok {x0_ x1_ x2_ : Value} {h : Heap} {K : Kt} (hh : m_cache_Cache_put x0_ x1_ x2_ h K) : Ca f_cache_Cache_put #[x0_, x1_, x2_] h K := cv Tryz.func170 (by kernel_rfl) hh
/- (*sluicegate/cache.Cache).pinned -/
def m_cache_Cache_pinned_j23 (x0_ x6_ : Value) (h : Heap) (K : Kt) : Prop :=
 Fl 1 x0_ h fun x26 =>
 IxP 4 x26 x6_ fun x27 =>
 K (.tuple #[x27, (.int .i64 0)]) h
def m_cache_Cache_pinned_j22 (x0_ x6_ x31_ : Value) (h : Heap) (K : Kt) : Prop :=
 CdP x31_
 (K (.tuple #[(.pointer none), (.int .i64 8)]) h)
 (m_cache_Cache_pinned_j23 x0_ x6_ h K)
def m_cache_Cache_pinned (x0_ x1_ : Value) (h : Heap) (K : Kt) : Prop :=
 Ca f_cache_Cache_none #[x0_] h fun x2 h1 =>
 CdP x2
 (K (.tuple #[(.pointer none), (.int .i64 1)]) h1)
 (Fl 2 x0_ h1 fun x5 =>
 VH Pg (Instr.lookup t_M_uint32_int x5 x1_ true) h1 fun x7 h6 =>
 ExP x7 0 fun x8 =>
 ExP x7 1 fun x9 =>
 UnP .not x9 fun x12 =>
 CdP x12
 (m_cache_Cache_pinned_j22 x0_ x8 (.bool true) h6 K)
 (Fl 1 x0_ h6 fun x16 =>
 Ef 4 3 x16 x8 h6 fun x19 =>
 BiP .eql x19 (.int .i64 0) fun x20 =>
 m_cache_Cache_pinned_j22 x0_ x8 x20 h6 K))
theorem m_cache_Cache_pinned_ok {x0_ x1_ : Value} {h : Heap} {K : Kt} (hh : m_cache_Cache_pinned x0_ x1_ h K) : Ca f_cache_Cache_pinned #[x0_, x1_] h K := cv Tryz.func171 (by kernel_rfl) hh
/- (*sluicegate/shelf.Shelf).Free -/
def m_shelf_Shelf_Free (x0_ x1_ : Value) (h : Heap) (K : Kt) : Prop :=
 Ca f_shelf_Shelf_there #[x0_, x1_] h fun x2 h1 =>
 BiP .neq x2 (.int .i64 0) fun x3 =>
 CdP x3
 (K x2 h1)
 (Fl 11 x0_ h1 fun x6 =>
 BiP .eql x1_ x6 fun x7 =>
 CdP x7
 (K (.int .i64 8) h1)
 (Fl 10 x0_ h1 fun x10 =>
 Ca f_pool_Pool_Give #[x10, x1_] h1 fun x12 h11 =>
 BiP .neq x12 (.int .i64 0) fun x13 =>
 CdP x13
 (K x12 h11)
 (Fl 9 x0_ h11 fun x16 =>
 Ca f_cache_Cache_Drop #[x16, x1_] h11 fun x18 h17 =>
 K x18 h17)))
theorem m_shelf_Shelf_Free_ok {x0_ x1_ : Value} {h : Heap} {K : Kt} (hh : m_shelf_Shelf_Free x0_ x1_ h K) : Ca f_shelf_Shelf_Free #[x0_, x1_] h K := cv Tryz.func178 (by kernel_rfl) hh
/- (*sluicegate/cache.Cache).Write -/
def m_cache_Cache_Write (x0_ x1_ x2_ : Value) (h : Heap) (K : Kt) : Prop :=
 Ca f_cache_Cache_pinned #[x0_, x1_] h fun x2 h1 =>
 ExP x2 0 fun x3 =>
 ExP x2 1 fun x4 =>
 BiP .neq x4 (.int .i64 0) fun x6 =>
 CdP x6
 (K x4 h1)
 (LenP (some true) x2_ fun x7 =>
 Fl 0 x0_ h1 fun x10 =>
 Ca f_dev_Device_Bytes #[x10] h1 fun x12 h11 =>
 BiP .neq x7 x12 fun x13 =>
 CdP x13
 (K (.int .i64 3) h11)
 (Ca f_slices_Clone_byte #[x2_] h11 fun x15 h14 =>
 Fs 1 x3 x15 h14 fun h18 =>
 Fs 2 x3 (.bool true) h18 fun h21 =>
 K (.int .i64 0) h21))
theorem m_cache_Cache_Write_ok {x0_ x1_ x2_ : Value} {h : Heap} {K : Kt} (hh : m_cache_Cache_Write x0_ x1_ x2_ h K) : Ca f_cache_Cache_Write #[x0_, x1_, x2_] h K := cv Tryz.func205 (by kernel_rfl) hh
/- (*sluicegate/cache.Cache).Fresh -/
def m_cache_Cache_Fresh_j29 (x0_ x1_ x6_ : Value) (h : Heap) (K : Kt) : Prop :=
 Fl 0 x0_ h fun x32 =>
 Ca f_dev_Device_Bytes #[x32] h fun x34 h33 =>
 VH Pg (Instr.makeSlice t_S_uint8 x34 x34) h33 fun x36 h35 =>
 BlP bt_cache_frame [(0, x1_), (1, x36), (2, (.bool true))] fun x37 =>
 Ca f_cache_Cache_put #[x0_, x6_, x37] h35 fun x39 h38 =>
 K (.int .i64 0) h38
def m_cache_Cache_Fresh_j22 (x0_ x1_ x6_ x7_ x23_ : Value) (h : Heap) (K : Kt) : Prop :=
 CdP x23_
 (K (.int .i64 8) h)
 (UnP .not x7_ fun x23 =>
 CdP x23
 (Ca f_cache_Cache_room #[x0_] h fun x25 h24 =>
 ExP x25 0 fun x26 =>
 ExP x25 1 fun x27 =>
 UnP .not x27 fun x28 =>
 CdP x28
 (K (.int .i64 7) h24)
 (m_cache_Cache_Fresh_j29 x0_ x1_ x26 h24 K))
 (m_cache_Cache_Fresh_j29 x0_ x1_ x6_ h K))
def m_cache_Cache_Fresh (x0_ x1_ : Value) (h : Heap) (K : Kt) : Prop :=
 Ca f_cache_Cache_there #[x0_, x1_] h fun x2 h1 =>
 BiP .neq x2 (.int .i64 0) fun x3 =>
 CdP x3
 (K x2 h1)
 (Fl 2 x0_ h1 fun x6 =>
 VH Pg (Instr.lookup t_M_uint32_int x6 x1_ true) h1 fun x8 h7 =>
 ExP x8 0 fun x9 =>
 ExP x8 1 fun x10 =>
 CdP x10
 (Fl 1 x0_ h7 fun x15 =>
 Ef 4 3 x15 x9 h7 fun x18 =>
 BiP .gtr x18 (.int .i64 0) fun x19 =>
 m_cache_Cache_Fresh_j22 x0_ x1_ x9 x10 x19 h7 K)
 (m_cache_Cache_Fresh_j22 x0_ x1_ x9 x10 (.bool false) h7 K))
theorem m_cache_Cache_Fresh_ok {x0_ x1_ : Value} {h : Heap} {K : Kt} (hh : m_cache_Cache_Fresh x0_ x1_ h K) : Ca f_cache_Cache_Fresh #[x0_, x1_] h K := cv Tryz.func206 (by kernel_rfl) hh
/- (*sluicegate/cache.Cache).leave -/
def m_cache_Cache_leave (x0_ x1_ : Value) (h : Heap) (K : Kt) : Prop :=
 Fl 2 x0_ h fun x3 =>
 Fl 1 x0_ h fun x6 =>
 Ef 4 0 x6 x1_ h fun x9 =>
 VH Pg (Builtin.delete_ #[t_M_uint32_int, t_uint32] t_tuple_2e38e7 #[x3, x9]) h fun x11 h10 =>
 True ∧ (Fl 4 x0_ h10 fun x14 =>
 Ca f_chain_Chain_Cut #[x14, x1_] h10 fun x16 h15 =>
 Fl 1 x0_ h15 fun x19 =>
 BlP bt_cache_frame [] fun x20 =>
 IxP 4 x19 x1_ fun x21 =>
 StA 4 x21 x20 h15 fun h22 =>
 Fl 3 x0_ h22 fun x25 =>
 BsP st_S_int 1 [(0, x1_)] h22 fun x27 h26 =>
 VH Pg (Builtin.append_ #[t_S_int, t_S_int] t_S_int #[x25, x27]) h26 fun x29 h28 =>
 Fs 3 x0_ x29 h28 fun h32 =>
 K (.tuple #[]) h32)
theorem m_cache_Cache_leave_ok {x0_ x1_ : Value} {h : Heap} {K : Kt} (hh : m_cache_Cache_leave x0_ x1_ h K) : Ca f_cache_Cache_leave #[x0_, x1_] h K := cv Tryz.func211 (by kernel_rfl) hh
/- (*sluicegate/cache.Cache).Drop -/
def m_cache_Cache_Drop (x0_ x1_ : Value) (h : Heap) (K : Kt) : Prop :=
 Ca f_cache_Cache_none #[x0_] h fun x2 h1 =>
 CdP x2
 (K (.int .i64 1) h1)
 (Fl 2 x0_ h1 fun x5 =>
 VH Pg (Instr.lookup t_M_uint32_int x5 x1_ true) h1 fun x7 h6 =>
 ExP x7 0 fun x8 =>
 ExP x7 1 fun x9 =>
 UnP .not x9 fun x11 =>
 CdP x11
 (K (.int .i64 0) h6)
 (Fl 1 x0_ h6 fun x14 =>
 Ef 4 3 x14 x8 h6 fun x17 =>
 BiP .gtr x17 (.int .i64 0) fun x18 =>
 CdP x18
 (K (.int .i64 8) h6)
 (Ca f_cache_Cache_leave #[x0_, x8] h6 fun x20 h19 =>
 K (.int .i64 0) h19)))
theorem m_cache_Cache_Drop_ok {x0_ x1_ : Value} {h : Heap} {K : Kt} (hh : m_cache_Cache_Drop x0_ x1_ h K) : Ca f_cache_Cache_Drop #[x0_, x1_] h K := cv Tryz.func222 (by kernel_rfl) hh
end Go.Sg
