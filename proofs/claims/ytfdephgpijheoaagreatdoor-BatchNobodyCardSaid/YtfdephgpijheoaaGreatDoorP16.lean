/-
  Part 16 of a proof: own texts, merged by program.
-/
import Derived.Shelf.Strings.Repeat
import Derived.Test.YtfdephgpijheoaaGreatDoorP15
set_option linter.unusedVariables false
set_option linter.unusedSimpArgs false
set_option maxRecDepth 100000
namespace Go.Sg
open Go Vc Go.Proofs
def m_cursor_Cursor_Next_j45 (x0_ x2_ : Value) (h : Heap) (K : Kt) : Prop :=
 Fl 6 x0_ h fun x48 =>
 Ea 2 x48 (.int .i64 0) h fun x50 =>
 AlP t_api_Pair zt_api_Pair h fun x52 h51 =>
 StA 2 x52 x50 h51 fun h53 =>
 Fl 6 x0_ h53 fun x56 =>
 SlP 2 x56 (some (.int .i64 1)) none fun x57 =>
 Fs 6 x0_ x57 h53 fun h60 =>
 Fv 0 x52 h60 fun x62 =>
 Ca f_lex_Next #[x62] h60 fun x64 h63 =>
 Fs 2 x0_ x64 h63 fun h67 =>
 Fl 5 x0_ h67 fun x70 =>
 BiP .add x70 (.int .i64 1) fun x71 =>
 Fs 5 x0_ x71 h67 fun h74 =>
 LdA 2 x52 h74 fun x75 =>
 StA 2 x2_ x75 h74 fun h76 =>
 LdA 2 x2_ h76 fun x77 =>
 K (.tuple #[x77, (.bool true), (.int .i64 0)]) h76
def m_cursor_Cursor_Next_j41 (x0_ x2_ x5_ : Value) (h : Heap) (K : Kt) : Prop :=
 Fs 6 x0_ x5_ h fun h44 =>
 m_cursor_Cursor_Next_j45 x0_ x2_ h44 K
def m_cursor_Cursor_Next_j37 (x0_ x2_ x5_ x6_ x43_ : Value) (h : Heap) (K : Kt) : Prop :=
 CdP x43_
 (BlP bt_api_Pair [] fun x38 =>
 StA 2 x2_ x38 h fun h39 =>
 LdA 2 x2_ h39 fun x40 =>
 K (.tuple #[x40, (.bool false), x6_]) h39)
 (m_cursor_Cursor_Next_j41 x0_ x2_ x5_ h K)
def m_cursor_Cursor_Next (x0_ : Value) (h : Heap) (K : Kt) : Prop :=
 AlP t_api_Pair zt_api_Pair h fun x2 h1 =>
 Ca f_cursor_Cursor_none #[x0_] h1 fun x4 h3 =>
 CdP x4
 (BlP bt_api_Pair [] fun x5 =>
 StA 2 x2 x5 h3 fun h6 =>
 LdA 2 x2 h6 fun x7 =>
 K (.tuple #[x7, (.bool false), (.int .i64 1)]) h6)
 (Fl 6 x0_ h3 fun x11 =>
 LenP (some true) x11 fun x12 =>
 BiP .eql x12 (.int .i64 0) fun x13 =>
 CdP x13
 (Fl 0 x0_ h3 fun x16 =>
 Fl 2 x0_ h3 fun x19 =>
 Fl 3 x0_ h3 fun x22 =>
 Fl 4 x0_ h3 fun x25 =>
 Ca f_kv_Store_Range #[x16, x19, x22, x25] h3 fun x27 h26 =>
 True ∧ (ExP x27 0 fun x28 =>
 ExP x27 1 fun x29 =>
 BiP .neq x29 (.int .i64 0) fun x32 =>
 CdP x32
 (m_cursor_Cursor_Next_j37 x0_ x2 x28 x29 (.bool true) h26 K)
 (LenP (some true) x28 fun x34 =>
 BiP .eql x34 (.int .i64 0) fun x35 =>
 m_cursor_Cursor_Next_j37 x0_ x2 x28 x29 x35 h26 K)))
 (m_cursor_Cursor_Next_j45 x0_ x2 h3 K))
theorem m_cursor_Cursor_Next_ok {x0_ : Value} {h : Heap} {K : Kt} (hh : m_cursor_Cursor_Next x0_ h K) : Ca f_cursor_Cursor_Next #[x0_] h K := cv Tryz.func6 (by kernel_rfl) hh
def m_cursor_Cursor_All_j24 (x0_ x1_ x4_ x7_ x25_ : Value) (h : Heap) (nx5 : Nt) (K : Kt) : Prop :=
 CdP x25_
 (K x7_ h)
 (nx5 [x4_] h)
def m_cursor_Cursor_All_j25 (h : Heap) (K : Kt) : Prop :=
 K (.int .i64 0) h
def m_cursor_Cursor_All_l4 (vs : List Value) (x0_ x1_ : Value) (h : Heap) (nx5 : Nt) (K : Kt) : Prop :=
 EqP .neq t_func_8e0de9 (.tmp 10) (.const .nilFunc) x1_ .nilFunc h fun x7 h6 =>
 CdP x7
 (Ca f_cursor_Cursor_Next #[x0_] h6 fun x9 h8 =>
 ExP x9 0 fun x10 =>
 ExP x9 1 fun x11 =>
 ExP x9 2 fun x12 =>
 AlP t_api_Pair zt_api_Pair h8 fun x14 h13 =>
 StA 2 x14 x10 h13 fun h15 =>
 UnP .not x11 fun x17 =>
 CdP x17
 (m_cursor_Cursor_All_j24 x0_ x1_ (gv vs 0) x12 (.bool true) h15 nx5 K)
 (LdA 2 x14 h15 fun x19 =>
 CvH Pg x1_ #[x19] h15 fun x21 h20 =>
 UnP .not x21 fun x22 =>
 m_cursor_Cursor_All_j24 x0_ x1_ (gv vs 0) x12 x22 h20 nx5 K))
 (m_cursor_Cursor_All_j25 h6 K)
def m_cursor_Cursor_All (x0_ x1_ : Value) (h : Heap) (K : Kt) : Prop :=
 Ca f_cursor_Cursor_none #[x0_] h fun x2 h1 =>
 CdP x2
 (K (.int .i64 1) h1)
 (LoP (fun vt h nx5 => m_cursor_Cursor_All_l4 vt x0_ x1_ h nx5 K) [(.int .i64 0)] h1)
theorem m_cursor_Cursor_All_ok {x0_ x1_ : Value} {h : Heap} {K : Kt} (hh : m_cursor_Cursor_All x0_ x1_ h K) : Ca f_cursor_Cursor_All #[x0_, x1_] h K := cv Tryz.func9 (by kernel_rfl) hh
def m_cursor_New_j10 (x0_ x1_ x2_ x3_ : Value) (h : Heap) (K : Kt) : Prop :=
 BlP bt_cursor_Cursor [(0, x0_), (1, x1_), (2, x1_), (3, x2_), (4, x3_)] fun x11 =>
 BxP t_cursor_Cursor x11 h fun x13 h12 =>
 K (.tuple #[x13, (.int .i64 0)]) h12
def m_cursor_New_j9 (x0_ x1_ x2_ x3_ x13_ : Value) (h : Heap) (K : Kt) : Prop :=
 CdP x13_
 (K (.tuple #[(.pointer none), (.int .i64 2)]) h)
 (m_cursor_New_j10 x0_ x1_ x2_ x3_ h K)
def m_cursor_New (x0_ x1_ x2_ x3_ : Value) (h : Heap) (K : Kt) : Prop :=
 EqP .eql t_P_kv_Store (.tmp 11) (.const (.pointer none)) x0_ (.pointer none) h fun x3 h2 =>
 CdP x3
 (K (.tuple #[(.pointer none), (.int .i64 1)]) h2)
 (BiP .lss x3_ (.int .i64 1) fun x5 =>
 CdP x5
 (m_cursor_New_j9 x0_ x1_ x2_ x3_ (.bool true) h2 K)
 (BiP .gtr x3_ (.int .i64 1000) fun x7 =>
 m_cursor_New_j9 x0_ x1_ x2_ x3_ x7 h2 K))
theorem m_cursor_New_ok {x0_ x1_ x2_ x3_ : Value} {h : Heap} {K : Kt} (hh : m_cursor_New x0_ x1_ x2_ x3_ h K) : Ca f_cursor_New #[x0_, x1_, x2_, x3_] h K := cv Tryz.func10 (by kernel_rfl) hh
def m_batch_Batch_Put (x0_ x1_ x2_ : Value) (h : Heap) (K : Kt) : Prop :=
 BlP bt_api_Msg [(0, x1_), (2, x2_)] fun x1 =>
 Ca f_batch_Batch_put #[x0_, x1] h fun x3 h2 =>
 K (.tuple #[]) h2
theorem m_batch_Batch_Put_ok {x0_ x1_ x2_ : Value} {h : Heap} {K : Kt} (hh : m_batch_Batch_Put x0_ x1_ x2_ h K) : Ca f_batch_Batch_Put #[x0_, x1_, x2_] h K := cv Tryz.func14 (by kernel_rfl) hh
def m_batch_Batch_Delete (x0_ x1_ : Value) (h : Heap) (K : Kt) : Prop :=
 BlP bt_api_Msg [(0, x1_), (1, (.bool true))] fun x1 =>
 Ca f_batch_Batch_put #[x0_, x1] h fun x3 h2 =>
 K (.tuple #[]) h2
theorem m_batch_Batch_Delete_ok {x0_ x1_ : Value} {h : Heap} {K : Kt} (hh : m_batch_Batch_Delete x0_ x1_ h K) : Ca f_batch_Batch_Delete #[x0_, x1_] h K := cv Tryz.func15 (by kernel_rfl) hh
def m_batch_Batch_Get (x0_ x1_ : Value) (h : Heap) (K : Kt) : Prop :=
 EqP .eql t_P_batch_Batch (.tmp 8) (.const (.pointer none)) x0_ (.pointer none) h fun x2 h1 =>
 CdP x2
 (K (.tuple #[(.string { data := #[] }), (.bool false), (.bool false)]) h1)
 (Fl 0 x0_ h1 fun x5 =>
 Ca f_buf_Find #[x5, x1_] h1 fun x7 h6 =>
 ExP x7 0 fun x8 =>
 ExP x7 1 fun x9 =>
 AlP t_api_Msg zt_api_Msg h6 fun x11 h10 =>
 StA 3 x11 x8 h10 fun h12 =>
 Fv 2 x11 h12 fun x14 =>
 Fv 1 x11 h12 fun x16 =>
 K (.tuple #[x14, x16, x9]) h12)
theorem m_batch_Batch_Get_ok {x0_ x1_ : Value} {h : Heap} {K : Kt} (hh : m_batch_Batch_Get x0_ x1_ h K) : Ca f_batch_Batch_Get #[x0_, x1_] h K := cv Tryz.func16 (by kernel_rfl) hh
def m_batch_Batch_Len (x0_ : Value) (h : Heap) (K : Kt) : Prop :=
 Ca f_batch_Batch_Msgs #[x0_] h fun x2 h1 =>
 LenP (some true) x2 fun x3 =>
 K x3 h1
theorem m_batch_Batch_Len_ok {x0_ : Value} {h : Heap} {K : Kt} (hh : m_batch_Batch_Len x0_ h K) : Ca f_batch_Batch_Len #[x0_] h K := cv Tryz.func17 (by kernel_rfl) hh
def m_batch_Batch_Msgs (x0_ : Value) (h : Heap) (K : Kt) : Prop :=
 EqP .eql t_P_batch_Batch (.tmp 3) (.const (.pointer none)) x0_ (.pointer none) h fun x2 h1 =>
 CdP x2
 (K (.slice none 0 0) h1)
 (Fl 0 x0_ h1 fun x5 =>
 Ca f_slices_Clone_api_Msg #[x5] h1 fun x7 h6 =>
 K x7 h6)
theorem m_batch_Batch_Msgs_ok {x0_ : Value} {h : Heap} {K : Kt} (hh : m_batch_Batch_Msgs x0_ h K) : Ca f_batch_Batch_Msgs #[x0_] h K := cv Tryz.func18 (by kernel_rfl) hh
def m_batch_Batch_Right_j14 (x4_ : Value) (h : Heap) (K : Kt) : Prop :=
 K x4_ h
def m_batch_Batch_Right (x0_ x1_ : Value) (h : Heap) (K : Kt) : Prop :=
 BxP t_api_Config x1_ h fun x2 h1 =>
 EqP .neq t_P_batch_Batch (.tmp 5) (.const (.pointer none)) x0_ (.pointer none) h1 fun x5 h4 =>
 CdP x5
 (Fl 0 x0_ h4 fun x8 =>
 Ca f_slices_ContainsFunc_api_Msg #[x8, (.func (.func f_batch_Batch_Right_1) #[] #[x2])] h4 fun x10 h9 =>
 UnP .not x10 fun x11 =>
 m_batch_Batch_Right_j14 x11 h9 K)
 (m_batch_Batch_Right_j14 (.bool false) h4 K)
theorem m_batch_Batch_Right_ok {x0_ x1_ : Value} {h : Heap} {K : Kt} (hh : m_batch_Batch_Right x0_ x1_ h K) : Ca f_batch_Batch_Right #[x0_, x1_] h K := cv Tryz.func19 (by kernel_rfl) hh
def m_batch_New (h : Heap) (K : Kt) : Prop :=
 BlP bt_batch_Batch [] fun x1 =>
 BxP t_batch_Batch x1 h fun x3 h2 =>
 K x3 h2
theorem m_batch_New_ok {h : Heap} {K : Kt} (hh : m_batch_New h K) : Ca f_batch_New #[] h K := cv Tryz.func21 (by kernel_rfl) hh
def m_batch_Batch_Apply (x0_ x1_ : Value) (h : Heap) (K : Kt) : Prop :=
 EqP .eql t_P_batch_Batch (.tmp 14) (.const (.pointer none)) x0_ (.pointer none) h fun x2 h1 =>
 CdP x2
 (K (.tuple #[(.pointer none), (.int .i64 1)]) h1)
 (Ca f_kv_Store_Range #[x1_, (.string { data := #[] }), (.string { data := #[] }), (.int .i64 0)] h1 fun x4 h3 =>
 ExP x4 0 fun x5 =>
 ExP x4 1 fun x6 =>
 BiP .neq x6 (.int .i64 0) fun x7 =>
 CdP x7
 (K (.tuple #[(.pointer none), x6]) h3)
 (Ca f_kv_Store_Config #[x1_] h3 fun x9 h8 =>
 AlP t_api_Config zt_api_Config h8 fun x11 h10 =>
 StA 8 x11 x9 h10 fun h12 =>
 LdA 8 x11 h12 fun x13 =>
 Ca f_batch_Batch_Right #[x0_, x13] h12 fun x15 h14 =>
 UnP .not x15 fun x16 =>
 CdP x16
 (K (.tuple #[x1_, (.int .i64 2)]) h14)
 (CvH Pg (.func (.func f_kv_Store_Close) #[] #[]) #[x1_] h14 fun x18 h17 =>
 ExP x18 0 fun x19 =>
 ExP x18 1 fun x20 =>
 BiP .neq x20 (.int .i64 0) fun x21 =>
 CdP x21
 (K (.tuple #[(.pointer none), x20]) h17)
 (Fv 1 x11 h17 fun x23 =>
 Ca f_kv_Open #[x23, x19] h17 fun x25 h24 =>
 ExP x25 0 fun x26 =>
 ExP x25 1 fun x27 =>
 BiP .neq x27 (.int .i64 0) fun x28 =>
 CdP x28
 (K (.tuple #[(.pointer none), x27]) h24)
 (Ca f_batch_Batch_do #[x0_, x26] h24 fun x30 h29 =>
 BiP .eql x30 (.int .i64 0) fun x31 =>
 CdP x31
 (K (.tuple #[x26, (.int .i64 0)]) h29)
 (Fv 1 x11 h29 fun x33 =>
 Ca f_kv_Open #[x33, x19] h29 fun x35 h34 =>
 ExP x35 0 fun x36 =>
 ExP x35 1 fun x37 =>
 BiP .neq x37 (.int .i64 0) fun x38 =>
 CdP x38
 (K (.tuple #[(.pointer none), x37]) h34)
 (K (.tuple #[x36, x30]) h34)))))))
theorem m_batch_Batch_Apply_ok {x0_ x1_ : Value} {h : Heap} {K : Kt} (hh : m_batch_Batch_Apply x0_ x1_ h K) : Ca f_batch_Batch_Apply #[x0_, x1_] h K := cv Tryz.func22 (by kernel_rfl) hh
def m_squeeze_Pairs (x0_ : Value) (h : Heap) (K : Kt) : Prop :=
 Ca f_kv_Store_Config #[x0_] h fun x2 h1 =>
 FdT (some 6) .one x2 fun x3 =>
 BiP .add x3 (.int .i64 1) fun x4 =>
 Ca f_strings_Repeat #[(.string { data := #[255] }), x4] h1 fun x6 h5 =>
 Ca f_cursor_New #[x0_, (.string { data := #[] }), x6, (.int .i64 64)] h5 fun x8 h7 =>
 ExP x8 0 fun x9 =>
 ExP x8 1 fun x10 =>
 BiP .neq x10 (.int .i64 0) fun x11 =>
 CdP x11
 (K (.tuple #[(.slice none 0 0), x10]) h7)
 (AlP t_S_api_Pair zt_S_api_Pair h7 fun x13 h12 =>
 Ca f_cursor_Cursor_All #[x9, (.func (.func f_squeeze_Pairs_1) #[] #[x13])] h12 fun x15 h14 =>
 BiP .neq x15 (.int .i64 0) fun x16 =>
 CdP x16
 (K (.tuple #[(.slice none 0 0), x15]) h14)
 (LdP x13 h14 fun x17 =>
 K (.tuple #[x17, (.int .i64 0)]) h14))
theorem m_squeeze_Pairs_ok {x0_ : Value} {h : Heap} {K : Kt} (hh : m_squeeze_Pairs x0_ h K) : Ca f_squeeze_Pairs #[x0_] h K := cv Tryz.func24 (by kernel_rfl) hh
def m_cursor_Cursor_none_j11 (x2_ : Value) (h : Heap) (K : Kt) : Prop :=
 K x2_ h
def m_cursor_Cursor_none (x0_ : Value) (h : Heap) (K : Kt) : Prop :=
 EqP .eql t_P_cursor_Cursor (.tmp 3) (.const (.pointer none)) x0_ (.pointer none) h fun x3 h2 =>
 CdP x3
 (m_cursor_Cursor_none_j11 (.bool true) h2 K)
 (Fl 0 x0_ h2 fun x7 =>
 EqP .eql t_P_kv_Store (.tmp 9) (.const (.pointer none)) x7 (.pointer none) h2 fun x9 h8 =>
 m_cursor_Cursor_none_j11 x9 h8 K)
theorem m_cursor_Cursor_none_ok {x0_ : Value} {h : Heap} {K : Kt} (hh : m_cursor_Cursor_none x0_ h K) : Ca f_cursor_Cursor_none #[x0_] h K := cv Tryz.func29 (by kernel_rfl) hh
def m_batch_Batch_put (x0_ x1_ : Value) (h : Heap) (K : Kt) : Prop :=
 BxP t_api_Msg x1_ h fun x2 h1 =>
 EqP .neq t_P_batch_Batch (.tmp 4) (.const (.pointer none)) x0_ (.pointer none) h1 fun x4 h3 =>
 CdP x4
 (Fl 0 x0_ h3 fun x7 =>
 LdA 3 x2 h3 fun x8 =>
 Ca f_buf_Put #[x7, x8] h3 fun x10 h9 =>
 True ∧ (Fs 0 x0_ x10 h9 fun h13 =>
 True ∧ (K (.tuple #[]) h13)))
 (K (.tuple #[]) h3)
theorem m_batch_Batch_put_ok {x0_ x1_ : Value} {h : Heap} {K : Kt} (hh : m_batch_Batch_put x0_ x1_ h K) : Ca f_batch_Batch_put #[x0_, x1_] h K := cv Tryz.func42 (by kernel_rfl) hh
def m_batch_Batch_Right_1_j18 (x3_ : Value) (h : Heap) (K : Kt) : Prop :=
 K x3_ h
def m_batch_Batch_Right_1 (x0_ x1_ : Value) (h : Heap) (K : Kt) : Prop :=
 BxP t_api_Msg x0_ h fun x2 h1 =>
 LdA 8 x1_ h1 fun x4 =>
 Fv 0 x2 h1 fun x6 =>
 Ca f_node_Key #[x4, x6] h1 fun x8 h7 =>
 UnP .not x8 fun x9 =>
 CdP x9
 (m_batch_Batch_Right_1_j18 (.bool true) h7 K)
 (Fv 2 x2 h7 fun x12 =>
 LenP (some false) x12 fun x13 =>
 Fv 7 x1_ h7 fun x15 =>
 BiP .gtr x13 x15 fun x16 =>
 m_batch_Batch_Right_1_j18 x16 h7 K)
theorem m_batch_Batch_Right_1_ok {x0_ x1_ : Value} {h : Heap} {K : Kt} (hh : m_batch_Batch_Right_1 x0_ x1_ h K) : Ca f_batch_Batch_Right_1 #[x0_, x1_] h K := cv Tryz.func46 (by kernel_rfl) hh
def m_batch_Batch_do_j22 (h : Heap) (K : Kt) : Prop :=
 K (.int .i64 0) h
def m_batch_Batch_do_l6 (vs : List Value) (x1_ x11_ x12_ : Value) (h : Heap) (nx7 : Nt) (K : Kt) : Prop :=
 BiP .lss (gv vs 1) x12_ fun x8 =>
 CdP x8
 (Ea 3 x11_ (gv vs 1) h fun x11 =>
 AlP t_api_Msg zt_api_Msg h fun x13 h12 =>
 StA 3 x13 x11 h12 fun h14 =>
 VH Pg (Instr.makeInterface t_P_kv_Store x1_) h14 fun x16 h15 =>
 LdA 3 x13 h15 fun x17 =>
 Ca f_batch_change #[x16, x17] h15 fun x19 h18 =>
 BiP .neq x19 (.int .i64 0) fun x20 =>
 CdP x20
 (K x19 h18)
 (BiP .add (gv vs 1) (.int .i64 1) fun x21 =>
 nx7 [(gv vs 0), x21] h18))
 (m_batch_Batch_do_j22 h K)
def m_batch_Batch_do (x0_ x1_ : Value) (h : Heap) (K : Kt) : Prop :=
 Fl 0 x0_ h fun x4 =>
 LenP (some true) x4 fun x5 =>
 LoP (fun vt h nx7 => m_batch_Batch_do_l6 vt x1_ x4 x5 h nx7 K) [(.int .i64 0), (.int .i64 0)] h
theorem m_batch_Batch_do_ok {x0_ x1_ : Value} {h : Heap} {K : Kt} (hh : m_batch_Batch_do x0_ x1_ h K) : Ca f_batch_Batch_do #[x0_, x1_] h K := cv Tryz.func50 (by kernel_rfl) hh
def m_squeeze_Pairs_1 (x0_ x1_ : Value) (h : Heap) (K : Kt) : Prop :=
 BxP t_api_Pair x0_ h fun x2 h1 =>
 LdP x1_ h1 fun x3 =>
 LdA 2 x2 h1 fun x4 =>
 BsP st_S_api_Pair 1 [(0, x4)] h1 fun x6 h5 =>
 VH Pg (Builtin.append_ #[t_S_api_Pair, t_S_api_Pair] t_S_api_Pair #[x3, x6]) h5 fun x8 h7 =>
 StP x1_ x8 h7 fun h9 =>
 K (.bool true) h9
theorem m_squeeze_Pairs_1_ok {x0_ x1_ : Value} {h : Heap} {K : Kt} (hh : m_squeeze_Pairs_1 x0_ x1_ h K) : Ca f_squeeze_Pairs_1 #[x0_, x1_] h K := cv Tryz.func52 (by kernel_rfl) hh
def m_batch_change (x0_ x1_ : Value) (h : Heap) (K : Kt) : Prop :=
 BxP t_api_Msg x1_ h fun x2 h1 =>
 Fv 1 x2 h1 fun x4 =>
 CdP x4
 (Fv 0 x2 h1 fun x6 =>
 CiH Pg x0_ "Delete" #[x6] h1 fun x8 h7 =>
 K x8 h7)
 (Fv 0 x2 h1 fun x10 =>
 Fv 2 x2 h1 fun x12 =>
 CiH Pg x0_ "Put" #[x10, x12] h1 fun x14 h13 =>
 K x14 h13)
theorem m_batch_change_ok {x0_ x1_ : Value} {h : Heap} {K : Kt} (hh : m_batch_change x0_ x1_ h K) : Ca f_batch_change #[x0_, x1_] h K := cv Tryz.func92 (by kernel_rfl) hh
end Go.Sg
namespace Go.Sg
open Go Vc
def cz : List Value := [.pointer none, str [], str [], str [], int 0, int 0, .slice none 0 0]
def NobC (h : Heap) (x : Value) : Prop := x = .pointer none ∨ ∃ b, x = ptr b 0 ∧ Blk h b cz
def curc (q : Nat) (first lo hi : Str) (batch told : Int) (asked : Value) : List Value := [ptr q 0, str first, str lo, str hi, int batch, int told, asked]
section
variable {lab lab' : Nat → Nat} {h h' : Heap} {K : Kt} {x : Value} {c : Config} {ps A : List Pair} {b q : Nat} {first lo hi key : Str} {batch told : Int} {v : Value}
theorem NobC.ext (n : NobC h x) (e : Ext h h') : NobC h' x := n.imp id fun ⟨b, h1, h2⟩ => ⟨b, h1, h2.ext e⟩
theorem c_cursor_New (h1 : 1 ≤ batch) (h2 : batch ≤ 1000) (r : ∀ b h', Ext h h' → b = h.size → Blk h' b (curc q lo lo hi batch 0 (.slice none 0 0)) → K (.tuple #[ptr b 0, int 0]) h') : Ca f_cursor_New #[ptr q 0, str lo, str hi, int batch] h K := by
  refine m_cursor_New_ok (eq_ptr_nil (by kernel_rfl) ?_)
  show CdP (.bool false) _ _
  rw [CdP_false, BiP_lss, decide_eq_false (by omega), CdP_false, BiP_gtr, decide_eq_false (by omega)]
  unfold m_cursor_New_j9
  rw [CdP_false]
  unfold m_cursor_New_j10
  refine ⟨_, (curc q lo lo hi batch 0 (.slice none 0 0)).toArray, rfl, rfl, ?_⟩
  exact bxa (cs := curc q lo lo hi batch 0 (.slice none 0 0)) fun b h1 e1 hb k1 _ => r b h1 e1 hb k1
theorem c_cursor_none {cs : List Value} (k : Blk h b (ptr q 0 :: cs)) (r : K (.bool false) h) : Ca f_cursor_Cursor_none #[ptr b 0] h K := by
  refine m_cursor_Cursor_none_ok (eq_ptr_nil (by kernel_rfl) (fl (v := ptr q 0) (by rw [k.get]; rfl) ?_))
  exact eq_ptr_nil (by kernel_rfl) r
structure CuS (lab : Nat → Nat) (h : Heap) (b q : Nat) (first lo hi : Str) (batch told : Int) (A : List Pair) : Prop where
  out : ∃ v, Blk h b (curc q first lo hi batch told v) ∧ Sl (Use lab) h v A
  l60 : lab b = 60
def askedP (ps A : List Pair) (lo hi : Str) (batch : Int) : List Pair := if A = [] then rangeK ps lo hi batch else A
theorem c_cursor_Next (k : CuS lab h b q first lo hi batch told A) (kk : KvS lab h q c ps) (hn : batch < 9223372036854775808) (ht0 : 0 ≤ told) (ht : told < 2 ^ 62) (hlk : ∀ p ∈ askedP ps A lo hi batch, p.key.length ≤ 2 ^ 30)
    (r0 : askedP ps A lo hi batch = [] → ∀ lab' h', Lat lab lab' h → CuS lab' h' b q first lo hi batch told [] → KvS lab' h' q c ps → Ex (Lb lab 1 60) h h' → K (.tuple #[.agg #[str [], str []], .bool false, int 0]) h')
    (r1 : ∀ p T, askedP ps A lo hi batch = p :: T → ∀ lab' h', Lat lab lab' h → CuS lab' h' b q first (p.key ++ [0]) hi batch (told + 1) T → KvS lab' h' q c ps → Ex (Lb lab 1 60) h h' → K (.tuple #[.agg #[str p.key, str p.val], .bool true, int 0]) h') :
    Ca f_cursor_Cursor_Next #[ptr b 0] h K := by
  obtain ⟨⟨v, kb, sv⟩, l60⟩ := k
  refine m_cursor_Cursor_Next_ok (ala (cs := [str [], str []]) fun b1 h1 e1 hb1 k1 _ => ?_)
  have hbl := kb.lt
  have a1 : Lat lab (loc lab h b1) h := loc_lat lab (by omega)
  have kk1 := (kk.lat a1).ext e1
  have kb1 := kb.ext e1
  have q99 : loc lab h b1 b1 = 99 := loc_at
  have q60 : loc lab h b1 b = 60 := (a1 b hbl).trans l60
  have sv1 : Sl (Use (loc lab h b1)) h1 v A := (sv.ex e1 (fun _ _ h => h.elim) (fun y hy hm => by show lab y ≠ 0; rw [← a1 y hy]; exact hm))
  refine c_cursor_none kb1 ?_
  rw [CdP_false]
  refine fl (v := v) (by rw [kb1.get]; rfl) (sv1.len ?_)
  have tell : ∀ (l2 : Nat → Nat) (h2 : Heap) (w : Value) (p : Pair) (T : List Pair), askedP ps A lo hi batch = p :: T → Lat (loc lab h b1) l2 h1 → KvS l2 h2 q c ps → Blk h2 b (curc q first lo hi batch told w) → Sl (Use l2) h2 w (p :: T) → Blk h2 b1 [str [], str []] → Ex (Lb (loc lab h b1) 1 60) h1 h2 → m_cursor_Cursor_Next_j45 (ptr b 0) (ptr b1 0) h2 K := fun l2 h2 w p T hA a2 k2 kb2 sw k12 e2 => by
    unfold m_cursor_Cursor_Next_j45
    refine fl (v := w) (by rw [kb2.get]; rfl) (sw.ea (x := p) (by decide) rfl ?_)
    refine alst (vs := [str p.key, str p.val]) rfl rfl rfl fun b3 h3 e3 hb3 k3 _ => ?_
    have kb3 := kb2.ext e3
    have s3 := sw.ext e3
    refine fl (v := w) (by rw [kb3.get]; rfl) ?_
    refine s3.part (a := 1) (b := (p :: T).length) rfl rfl (by simp) (Nat.le_refl _) fun w4 s4 => ?_
    have hT : ((p :: T).take (p :: T).length).drop 1 = T := by rw [List.take_length]; rfl
    rw [hT] at s4
    refine Fs_b kb3 (show 0 + 6 < 7 by decide) (by rw [one_eq]; exact s4.one) fun h4 _ e4 kb4 => ?_
    have hb2l := kb2.lt
    have k34 := k3.ex e4 (show ¬ b3 = b by omega)
    refine fv (v := str p.key) (by rw [k34.get]; rfl) ?_
    have hpk : p.key.length ≤ 2 ^ 30 := hlk p (by rw [hA]; exact List.mem_cons_self ..)
    refine c_lex_Next (by omega) ?_
    refine Fs_b kb4 (show 0 + 2 < 7 by decide) rfl fun h6 _ e6 kb6 => ?_
    refine fl (v := int told) (by rw [kb6.get]; rfl) (add64 (by omega) ?_)
    refine Fs_b kb6 (show 0 + 5 < 7 by decide) rfl fun h7 _ e7 kb7 => ?_
    have kb7 : Blk h7 b (curc q first (p.key ++ [0]) hi batch (told + 1) w4) := kb7
    have k37 := (k34.ex e6 (show ¬ b3 = b by omega)).ex e7 (show ¬ b3 = b by omega)
    refine (LdA_b k37 rfl).2 ?_
    have hb1b : b1 ≠ b := by omega
    have k17 := (((k12.ext e3).ex e4 hb1b).ex e6 hb1b).ex e7 hb1b
    refine StA_b (vs := [str p.key, str p.val]) k17 rfl rfl rfl fun h8 _ e8 k8 => (LdA_b k8 rfl).2 ?_
    have l2b : l2 b = 60 := (a2 b kb1.lt).trans q60
    have l2b1 : l2 b1 = 99 := (a2 b1 k1.lt).trans q99
    have eb : ∀ {ha hc : Heap}, Ex (fun x => x = b) ha hc → Ex (Lb l2 60 60) ha hc := fun e => one_lb e ⟨by rw [l2b]; decide, by rw [l2b]; decide⟩
    have e8' : Ex (Lb l2 99 99) h7 h8 := one_lb e8 ⟨by rw [l2b1]; decide, by rw [l2b1]; decide⟩
    have k28 := (((((k2.ext e3).ex16 (eb e4) (by decide)).ex16 (eb e6) (by decide)).ex16 (eb e7) (by decide))).ex16 e8' (by decide)
    have e37 : Ex (fun x => x = b) h3 h7 := (e4.trans e6).trans e7
    have s8 : Sl (Use l2) h8 w4 T := (s4.keep e37 fun y hy => by subst hy; show l2 y ≠ 0; rw [l2b]; decide).keep e8 fun y hy => by subst hy; show l2 y ≠ 0; rw [l2b1]; decide
    have a02 : Lat lab l2 h := a1.trans a2 e1.le
    refine r1 p T hA l2 h8 a02 ⟨⟨w4, kb7.ex e8 (fun h => hb1b h.symm), s8⟩, (a02 b hbl).trans l60⟩ k28 ?_
    have e02 : Ex (Lb lab 1 60) h h2 := a1.ex (Ex.toM e1) e2
    have e07 : Ex (Lb lab 1 60) h h7 := e02.trans ((Ex.toM e3).trans (e37.mono fun y _ he => by subst he; exact ⟨by rw [l60]; decide, by rw [l60]; decide⟩))
    exact e07.fresh e8 fun y hy he => by omega
  rw [BiP_eql]
  cases hA : A with
  | cons p T =>
    refine cdp (fun h => absurd h (by simp; omega)) fun _ => ?_
    subst hA
    exact tell _ h1 v p T (if_neg (by simp)) (Lat.refl _ _) kk1 kb1 sv1 k1 (Ex.refl _ _)
  | nil =>
    subst hA
    have hask : askedP ps [] lo hi batch = rangeK ps lo hi batch := if_pos rfl
    refine cdp (fun _ => ?_) fun h => absurd rfl h
    refine fl (v := ptr q 0) (by rw [kb1.get]; rfl) (fl (v := str lo) (by rw [kb1.get]; rfl) (fl (v := str hi) (by rw [kb1.get]; rfl) (fl (v := int batch) (by rw [kb1.get]; rfl) ?_)))
    refine c_kv_Range kk1 hn fun l2 h2 w a2 k2 o2 z2 e2 => ⟨trivial, ?_⟩
    rw [ex20, ex21, BiP_neq]
    refine cdp (fun h => absurd rfl h) fun _ => ?_
    have sw : Sl (Use l2) h2 w (rangeK ps lo hi batch) := by
      have := o2.block
      have s0 : Sl No h2 w (rangeK ps lo hi batch) := o2.sl fun _ _ h => h
      obtain ⟨a, cap, hv, hc, hn0, hx⟩ := s0.out
      refine ⟨a, cap, hv, hc, hn0, fun y hy => ⟨(hx y hy).1, fun hl => ⟨((hx y hy).2 hl).1, fun hu => hu (z2 y.block ?_), ((hx y hy).2 hl).2.2⟩⟩⟩
      rw [hv, hy]; rfl
    have kb2 := kb1.ex e2 (nLb q60 (by decide))
    have k12 := k1.ex e2 (nLb q99 (by decide))
    have e2' : Ex (Lb (loc lab h b1) 1 60) h1 h2 := Lb.wide e2 (by decide) (by decide)
    refine sw.len ?_
    rw [BiP_eql]
    unfold m_cursor_Cursor_Next_j37
    cases hR : rangeK ps lo hi batch with
    | nil =>
      refine cdp (fun _ => ?_) fun h => absurd rfl h
      refine ⟨_, #[str [], str []], rfl, rfl, ?_⟩
      refine StA_b (vs := [str [], str []]) k12 rfl rfl rfl fun h3 _ e3 k3 => (LdA_b k3 rfl).2 ?_
      have l2b1 : l2 b1 = 99 := (a2 b1 k1.lt).trans q99
      have e3' : Ex (Lb l2 99 99) h2 h3 := one_lb e3 ⟨by rw [l2b1]; decide, by rw [l2b1]; decide⟩
      have a02 : Lat lab l2 h := a1.trans a2 e1.le
      have hb1b : b ≠ b1 := by omega
      refine r0 (hask.trans hR) l2 h3 a02 ⟨⟨v, kb2.ex e3 hb1b, ?_⟩, (a02 b hbl).trans l60⟩ (k2.ex16 e3' (by decide)) ?_
      · obtain ⟨a, cap, hv, hc, hn0, hx⟩ := sv.out
        exact ⟨a, cap, hv, hc, hn0, fun y hy => ⟨(hx y hy).1, fun hl => absurd rfl hl⟩⟩
      · exact (a1.ex (Ex.toM e1) e2').fresh e3 fun y hy he => by omega
    | cons p T =>
      refine cdp (fun h => absurd h (by simp; omega)) fun _ => ?_
      unfold m_cursor_Cursor_Next_j41
      refine Fs_b kb2 (show 0 + 6 < 7 by decide) (by rw [one_eq]; exact o2.one) fun h3 _ e3 kb3 => ?_
      have kb3 : Blk h3 b (curc q first lo hi batch told w) := kb3
      have l2b : l2 b = 60 := (a2 b kb1.lt).trans q60
      have e3' : Ex (Lb l2 60 60) h2 h3 := one_lb e3 ⟨by rw [l2b]; decide, by rw [l2b]; decide⟩
      rw [hR] at sw
      have s3 : Sl (Use l2) h3 w (p :: T) := sw.keep e3 fun y hy => by subst hy; show l2 y ≠ 0; rw [l2b]; decide
      have e13 : Ex (Lb (loc lab h b1) 1 60) h1 h3 := e2'.trans (e3.mono fun y hy he => by subst he; exact ⟨by rw [q60]; decide, by rw [q60]; decide⟩)
      exact tell l2 h3 w p T (hask.trans hR) a2 (k2.ex16 e3' (by decide)) kb3 s3 (k12.ex e3 (show ¬ b1 = b by omega)) e13
end
end Go.Sg
namespace Go.Sg
open Go Vc
theorem Ow.use {α : Type} [El α] {n0 : Nat} {e : TypeId} {h : Heap} {v : Value} {l : List α} {lab : Nat → Nat} (o : Ow n0 e h v l) (z : ∀ b, v.ownBlock = some b → lab b = 0) : Sl (Use lab) h v l := by
  have s0 : Sl No h v l := o.sl fun _ _ h => h
  obtain ⟨a, cap, hv, hc, hn0, hx⟩ := s0.out
  refine ⟨a, cap, hv, hc, hn0, fun y hy => ⟨(hx y hy).1, fun hl => ⟨((hx y hy).2 hl).1, fun hu => hu (z y.block ?_), ((hx y hy).2 hl).2.2⟩⟩⟩
  rw [hv, hy]; rfl
structure BaS (lab : Nat → Nat) (h : Heap) (b : Nat) (L : List Msg) : Prop where
  out : ∃ v, Blk h b [v] ∧ Sl (Use lab) h v L
  l61 : lab b = 61
  asc : Asc Msg.key L
  few : L.length ≤ 2 ^ 30
theorem putM_len {L : List Msg} {m : Msg} : (putM L m).length ≤ L.length + 1 := by
  unfold putM ins
  simp only [List.length_append, List.length_cons, List.length_nil]
  have h1 : ∀ l : List Msg, (ahead Msg.key l m.key).length + (behind Msg.key l m.key).length ≤ l.length := by
    intro l
    induction l with
    | nil => simp [ahead, behind]
    | cons a l ih =>
      unfold ahead behind at ih ⊢
      simp only [List.filter_cons]
      by_cases q1 : a.key < m.key
      · have q2 : ¬ m.key < a.key := slt_asymm q1
        simp only [q1, q2, decide_true, decide_false, if_true, Bool.false_eq_true, if_false, List.length_cons]; omega
      · by_cases q2 : m.key < a.key
        · simp only [q1, q2, decide_true, decide_false, if_true, Bool.false_eq_true, if_false, List.length_cons]; omega
        · simp only [q1, q2, decide_false, Bool.false_eq_true, if_false, List.length_cons]; omega
  have := h1 L
  omega
section
variable {lab lab' : Nat → Nat} {h h' : Heap} {K : Kt} {c : Config} {b s : Nat} {L : List Msg} {m : Msg} {key val : Str} {x : Value} {ps : List Pair}
theorem BaS.ext (k : BaS lab h b L) (e : Ext h h') : BaS lab h' b L := by
  obtain ⟨⟨v, k1, k2⟩, k3, k4, k5⟩ := k
  exact ⟨⟨v, k1.ext e, k2.ext e⟩, k3, k4, k5⟩
theorem BaS.ex {lo hi : Nat} (k : BaS lab h b L) (e : Ex (Lb lab lo hi) h h') (h0 : 0 < lo) (hi60 : hi < 61) (a : Lat lab lab' h) : BaS lab' h' b L := by
  obtain ⟨⟨v, k1, k2⟩, k3, k4, k5⟩ := k
  exact ⟨⟨v, k1.ex e (nLb k3 (by omega)), k2.lat e h0 a⟩, (a b k1.lt).trans k3, k4, k5⟩
theorem BaS.lat (k : BaS lab h b L) (a : Lat lab lab' h) : BaS lab' h b L := k.ex (lo := 1) (hi := 1) (Ex.refl _ _) (by decide) (by decide) a
theorem c_batch_put_nil (r : ∀ h', Ext h h' → K (.tuple #[]) h') : Ca f_batch_Batch_put #[.pointer none, m.v] h K := by
  refine m_batch_Batch_put_ok (bxa (cs := m.cs) fun b1 h1 e1 hb1 k1 _ => ?_)
  refine neq_ptr_nil (by kernel_rfl) ?_
  show CdP (.bool false) _ _
  rw [CdP_false]
  exact r h1 e1
theorem c_batch_Put_nil (r : ∀ h', Ext h h' → K (.tuple #[]) h') : Ca f_batch_Batch_Put #[.pointer none, str key, str val] h K := by
  refine m_batch_Batch_Put_ok ⟨_, #[str key, .bool false, str val], rfl, rfl, ?_⟩
  exact c_batch_put_nil (m := ⟨key, false, val⟩) r
theorem c_batch_Delete_nil (r : ∀ h', Ext h h' → K (.tuple #[]) h') : Ca f_batch_Batch_Delete #[.pointer none, str key] h K := by
  refine m_batch_Batch_Delete_ok ⟨_, #[str key, .bool true, str []], rfl, rfl, ?_⟩
  exact c_batch_put_nil (m := ⟨key, true, []⟩) r
theorem c_batch_Get_nil (r : K (.tuple #[str [], .bool false, .bool false]) h) : Ca f_batch_Batch_Get #[.pointer none, x] h K := by
  refine m_batch_Batch_Get_ok (eq_ptr_nil (by kernel_rfl) ?_)
  show CdP (.bool true) _ _
  rw [CdP_true]; exact r
theorem c_batch_Msgs_nil (r : K (.slice none 0 0) h) : Ca f_batch_Batch_Msgs #[.pointer none] h K := by
  refine m_batch_Batch_Msgs_ok (eq_ptr_nil (by kernel_rfl) ?_)
  show CdP (.bool true) _ _
  rw [CdP_true]; exact r
theorem c_batch_Len_nil (r : K (int 0) h) : Ca f_batch_Batch_Len #[.pointer none] h K :=
  m_batch_Batch_Len_ok (c_batch_Msgs_nil (by rw [LenP_slice]; exact r))
theorem c_batch_Right_nil (r : ∀ h', Ext h h' → K (.bool false) h') : Ca f_batch_Batch_Right #[.pointer none, c.v] h K := by
  refine m_batch_Batch_Right_ok (bxa (cs := c.cs) fun b1 h1 e1 hb1 k1 _ => ?_)
  refine neq_ptr_nil (by kernel_rfl) ?_
  show CdP (.bool false) _ _
  rw [CdP_false]
  exact r h1 e1
theorem c_batch_Apply_nil (r : K (.tuple #[.pointer none, int 1]) h) : Ca f_batch_Batch_Apply #[.pointer none, x] h K := by
  refine m_batch_Batch_Apply_ok (eq_ptr_nil (by kernel_rfl) ?_)
  show CdP (.bool true) _ _
  rw [CdP_true]; exact r
theorem c_batch_Apply_nob {bb : Nat} (n : Nob h x) (r : ∀ h', Nob h' x → Ex (own1 x) h h' → K (.tuple #[.pointer none, int 1]) h') : Ca f_batch_Batch_Apply #[ptr bb 0, x] h K := by
  refine m_batch_Batch_Apply_ok (eq_ptr_nil (by kernel_rfl) ?_)
  show CdP (.bool false) _ _
  rw [CdP_false]
  refine c_kv_Range_nob n fun h1 n1 e1 => ?_
  rw [ex20, ex21, BiP_neq]
  refine cdp (fun _ => ?_) fun h => absurd (by decide) h
  exact r h1 n1 e1
theorem c_batch_Apply_closed {bb : Nat} (k : KvX h s c) (r : ∀ h', KvX h' s c → Ex (fun x => x = s) h h' → K (.tuple #[.pointer none, int 13]) h') : Ca f_batch_Batch_Apply #[ptr bb 0, ptr s 0] h K := by
  refine m_batch_Batch_Apply_ok (eq_ptr_nil (by kernel_rfl) ?_)
  show CdP (.bool false) _ _
  rw [CdP_false]
  refine c_kv_Range_closed (lo := []) (hi := []) (n := 0) k fun h1 k1 e1 => ?_
  rw [ex20, ex21, BiP_neq]
  refine cdp (fun _ => ?_) fun h => absurd (by decide) h
  exact r h1 k1 e1
theorem c_batch_New (r : ∀ lab' b h', Lat lab lab' h → BaS lab' h' b [] → Ext h h' → h.size ≤ b → K (ptr b 0) h') : Ca f_batch_New #[] h K := by
  refine m_batch_New_ok ⟨_, #[.slice none 0 0], rfl, rfl, ?_⟩
  refine bxa (cs := [.slice none 0 0]) fun b h1 e1 hb k1 _ => ?_
  exact r (upd (frl lab h) b 61) b h1 (fun y hy => (upd_ne (by omega)).trans (frl_lat lab h y hy)) ⟨⟨_, k1, Sl.nil _ _⟩, upd_same, List.Pairwise.nil, by decide⟩ e1 (by omega)
theorem c_batch_put (k : BaS lab h b L) (hl : L.length < 2 ^ 30) (r : ∀ lab' h', Lat lab lab' h → BaS lab' h' b (putM L m) → Ex (fun x => x = b) h h' → K (.tuple #[]) h') : Ca f_batch_Batch_put #[ptr b 0, m.v] h K := by
  obtain ⟨⟨v, kb, sv⟩, l61, ha, hf⟩ := k
  refine m_batch_Batch_put_ok (bxa (cs := m.cs) fun b1 h1 e1 hb1 k1 _ => ?_)
  refine neq_ptr_nil (by kernel_rfl) ?_
  show CdP (.bool true) _ _
  rw [CdP_true]
  have hbl := kb.lt
  refine fl (v := v) (by rw [(kb.ext e1).get]; rfl) ((LdA_b k1 rfl).2 ?_)
  refine c_buf_Put (m := m) (sv.ext e1) ha (by omega) fun v2 h2 o2 e2 => ⟨trivial, ?_⟩
  have e02 := e1.trans e2
  refine Fs_b (kb.ext e02) (show 0 + 0 < 1 by decide) (by rw [one_eq]; exact o2.one) fun h3 _ e3 kb3 => ⟨trivial, ?_⟩
  have kb3 : Blk h3 b [v2] := kb3
  have hl1 := e1.le
  have hob := o2.block
  have a3 : Lat lab (frl lab h1) h := fun y hy => frl_lat lab h1 y (by omega)
  have o3 : Ow h1.size t_api_Msg h3 v2 (putM L m) := o2.exb e3 fun y hy he => by have := hob y hy; omega
  refine r (frl lab h1) h3 a3 ⟨⟨v2, kb3, o3.use fun y hy => frl_new (hob y hy)⟩, (a3 b hbl).trans l61, ?_, ?_⟩ ((Ex.toM e02).trans e3)
  · unfold putM; exact ins_asc ha (.inr ⟨_, rfl, rfl⟩)
  · have := putM_len (L := L) (m := m); omega
theorem c_batch_Put (k : BaS lab h b L) (hl : L.length < 2 ^ 30) (r : ∀ lab' h', Lat lab lab' h → BaS lab' h' b (putM L ⟨key, false, val⟩) → Ex (fun x => x = b) h h' → K (.tuple #[]) h') : Ca f_batch_Batch_Put #[ptr b 0, str key, str val] h K := by
  refine m_batch_Batch_Put_ok ⟨_, #[str key, .bool false, str val], rfl, rfl, ?_⟩
  exact c_batch_put (m := ⟨key, false, val⟩) k hl r
theorem c_batch_Delete (k : BaS lab h b L) (hl : L.length < 2 ^ 30) (r : ∀ lab' h', Lat lab lab' h → BaS lab' h' b (putM L ⟨key, true, []⟩) → Ex (fun x => x = b) h h' → K (.tuple #[]) h') : Ca f_batch_Batch_Delete #[ptr b 0, str key] h K := by
  refine m_batch_Batch_Delete_ok ⟨_, #[str key, .bool true, str []], rfl, rfl, ?_⟩
  exact c_batch_put (m := ⟨key, true, []⟩) k hl r
def badMsg0 (c : Config) (m : Msg) : Bool := !keyOk c m.key || decide ((m.val.length : Int) > c.val)
theorem tst_msg0 {b1 : Nat} (k1 : Blk h b1 c.cs) : Tst h (.func (.func f_batch_Batch_Right_1) #[] #[ptr b1 0]) Msg.v (badMsg0 c) := by
  intro p h0 R e0 r
  refine cvhc (by kernel_rfl) ?_
  show Ca f_batch_Batch_Right_1 #[p.v, ptr b1 0] h0 R
  refine m_batch_Batch_Right_1_ok (bxa (cs := p.cs) fun b h1 e1 hb k _ => ?_)
  have e01 := e0.trans e1
  refine (LdA_b (k1.ext e01) rfl).2 ?_
  refine fv (v := str p.key) (by rw [k.get]; rfl) ?_
  refine c_node_Key (c := c) fun h2 e2 => ?_
  have e02 := e01.trans e2
  rw [UnP_not]
  unfold badMsg0 at r
  have r := r h2 (e1.trans e2)
  refine cd (fun h => ?_) (fun h => ?_)
  · rw [h] at r; exact r
  · rw [h] at r
    refine fv (v := str p.val) (by rw [(k.ext e2).get]; rfl) ?_
    rw [LenP_str]
    refine fv (v := int c.val) (by rw [(k1.ext e02).get]; rfl) ?_
    rw [BiP_gtr]
    unfold m_batch_Batch_Right_1_j18
    simpa using r
theorem c_batch_Right (k : BaS lab h b L) (r : ∀ h', Ext h h' → K (.bool !(L.any (badMsg0 c))) h') : Ca f_batch_Batch_Right #[ptr b 0, c.v] h K := by
  obtain ⟨⟨v, kb, sv⟩, l61, ha, hf⟩ := k
  refine m_batch_Batch_Right_ok (bxa (cs := c.cs) fun b1 h1 e1 hb1 k1 _ => ?_)
  refine neq_ptr_nil (by kernel_rfl) ?_
  show CdP (.bool true) _ _
  rw [CdP_true]
  refine fl (v := v) (by rw [(kb.ext e1).get]; rfl) ?_
  refine c_ContainsFunc_Msg (tst_msg0 k1) (sv.ext e1) (by omega) fun h2 e2 => ?_
  rw [UnP_not]
  exact r h2 (e1.trans e2)
end
end Go.Sg
set_option maxRecDepth 100000
namespace Go.Sg
open Go Vc Go.Proofs
def repRen : Go.Shelf.Ren := ⟨fun | 105 => f_strings_Repeat | 212 => f_bits_Mul | 99 => f_strings_HasPrefix | 165 => f_strings_Builder_Grow | 166 => f_strings_Builder_WriteString | 170 => f_strings_Builder_Len | 169 => f_strings_Builder_String | 263 => f_bits_Mul32 | 264 => f_bits_Mul64 | 206 => f_stringslite_HasPrefix | 240 => f_strings_Builder_copyCheck | 241 => f_strings_Builder_grow | 276 => f_abi_NoEscape | 277 => f_bytealg_MakeNoZero | n => n, fun | 9 => t_string | 3 => t_int | 4 => t_bool | 20 => t_any | 0 => t_tuple_2e38e7 | 46 => t_uint | 109 => t_tuple_8f2d31 | 5 => t_uint8 | 72 => t_strings_Builder | 76 => t_tuple_8a788c | 51 => t_uint32 | 146 => t_tuple_d245bb | 53 => t_uint64 | 148 => t_tuple_bf5532 | 70 => t_P_strings_Builder | 37 => t_S_uint8 | 75 => t_error | 127 => t_P_uint8 | 164 => t_unsafe_Pointer | 80 => t_func_fe1f55 | n => n, fun n => n⟩
theorem repLay : Lays.n105 Tryz.prog repRen := {
  mixed := by kernel_rfl
  f99 := Tryz.func94.trans (congrArg some (by kernel_rfl))
  f105 := Tryz.func51.trans (congrArg some (by kernel_rfl))
  f165 := Tryz.func95.trans (congrArg some (by kernel_rfl))
  f166 := Tryz.func96.trans (congrArg some (by kernel_rfl))
  f169 := Tryz.func98.trans (congrArg some (by kernel_rfl))
  f170 := Tryz.func97.trans (congrArg some (by kernel_rfl))
  f206 := Tryz.func139.trans (congrArg some (by kernel_rfl))
  f212 := Tryz.func93.trans (congrArg some (by kernel_rfl))
  f240 := Tryz.func140.trans (congrArg some (by kernel_rfl))
  f241 := Tryz.func141.trans (congrArg some (by kernel_rfl))
  f263 := Tryz.func137.trans (congrArg some (by kernel_rfl))
  f264 := Tryz.func138.trans (congrArg some (by kernel_rfl))
  f276 := Tryz.func183.trans (congrArg some (by kernel_rfl))
  f277 := Tryz.func184.trans (congrArg some (by kernel_rfl))
  t0 := Tryz.underlying0
  a0 := Tryz.isAgg0
  z0 := Tryz.sizeOf0
  v0 := Tryz.zeroValue0
  t3 := Tryz.underlying3
  a3 := Tryz.isAgg3
  z3 := Tryz.sizeOf3
  v3 := Tryz.zeroValue3
  t4 := Tryz.underlying4
  a4 := Tryz.isAgg4
  z4 := Tryz.sizeOf4
  v4 := Tryz.zeroValue4
  t5 := Tryz.underlying5
  a5 := Tryz.isAgg5
  z5 := Tryz.sizeOf5
  v5 := Tryz.zeroValue5
  t9 := Tryz.underlying9
  a9 := Tryz.isAgg9
  z9 := Tryz.sizeOf9
  v9 := Tryz.zeroValue9
  t20 := Tryz.underlying20
  a20 := Tryz.isAgg20
  z20 := Tryz.sizeOf20
  v20 := Tryz.zeroValue20
  t37 := Tryz.underlying42
  a37 := Tryz.isAgg42
  z37 := Tryz.sizeOf42
  v37 := Tryz.zeroValue42
  t46 := Tryz.underlying153
  a46 := Tryz.isAgg153
  z46 := Tryz.sizeOf153
  v46 := Tryz.zeroValue153
  t51 := Tryz.underlying116
  a51 := Tryz.isAgg116
  z51 := Tryz.sizeOf116
  v51 := Tryz.zeroValue116
  t53 := Tryz.underlying59
  a53 := Tryz.isAgg59
  z53 := Tryz.sizeOf59
  v53 := Tryz.zeroValue59
  t70 := Tryz.underlying156
  a70 := Tryz.isAgg156
  z70 := Tryz.sizeOf156
  v70 := Tryz.zeroValue156
  t72 := Tryz.underlying158
  a72 := Tryz.isAgg158
  z72 := Tryz.sizeOf158
  v72 := Tryz.zeroValue158
  t75 := Tryz.underlying161
  a75 := Tryz.isAgg161
  z75 := Tryz.sizeOf161
  v75 := Tryz.zeroValue161
  t76 := Tryz.underlying162
  a76 := Tryz.isAgg162
  z76 := Tryz.sizeOf162
  v76 := Tryz.zeroValue162
  t109 := Tryz.underlying154
  a109 := Tryz.isAgg154
  z109 := Tryz.sizeOf154
  v109 := Tryz.zeroValue154
  t127 := Tryz.underlying213
  a127 := Tryz.isAgg213
  z127 := Tryz.sizeOf213
  v127 := Tryz.zeroValue213
  t146 := Tryz.underlying209
  a146 := Tryz.isAgg209
  z146 := Tryz.sizeOf209
  v146 := Tryz.zeroValue209
  t148 := Tryz.underlying211
  a148 := Tryz.isAgg211
  z148 := Tryz.sizeOf211
  v148 := Tryz.zeroValue211
  t164 := Tryz.underlying272
  a164 := Tryz.isAgg272
  z164 := Tryz.sizeOf272
  v164 := Tryz.zeroValue272
  }
theorem repX72 : Builder.X72 Tryz.prog repRen := {
  sizeBuilder := by kernel_rfl
  liesBuilder := by kernel_rfl
  }
theorem repExtra : Builder.Extra Tryz.prog repRen := { repX72 with
  t5 := Tryz.underlying5
  a5 := Tryz.isAgg5
  z5 := Tryz.sizeOf5
  v5 := Tryz.zeroValue5
  infoByte := by kernel_rfl
  cellsByte := by kernel_rfl
  sizeByte := by kernel_rfl
  neB5 := by decide
  }
end Go.Sg
namespace Go.Sg
open Go Vc
def partK (ps : List Pair) (lo hi : Str) : List Pair := if lo < hi then ps.filter fun a => inSpan ⟨lo, hi, false⟩ a.key else []
theorem rangeK_eq {ps : List Pair} {lo hi : Str} {n : Int} (hn : 1 ≤ n) : rangeK ps lo hi n = (partK ps lo hi).take n.toNat := by
  unfold rangeK partK
  split
  · rename_i h
    unfold rangeOf Span.empty partOf
    have h1 : ¬ (n < 1 ∨ (!(false : Bool) && decide (¬ lo < hi)) = true) := by
      simp [h]; omega
    rw [if_neg h1]
  · simp
theorem lt_snoc {a b : Str} : a < b ++ [0] ↔ ¬ b < a := by
  induction b generalizing a with
  | nil =>
    cases a with
    | nil => simp
    | cons x a =>
      rw [List.nil_append, List.cons_lt_cons_iff]
      have h1 : ¬ x < 0 := by simp
      have h2 : ¬ (x = 0 ∧ a < ([] : Str)) := fun h => by have := h.2; simp at this
      simp [h1, h2]
  | cons y b ih =>
    cases a with
    | nil => simp
    | cons x a =>
      rw [List.cons_append, List.cons_lt_cons_iff, List.cons_lt_cons_iff, ih]
      rcases UInt8.lt_or_le x y with h | h
      · have h1 : ¬ y < x := UInt8.not_lt.2 (UInt8.le_of_lt h)
        have h2 : ¬ y = x := fun e => by subst e; exact UInt8.lt_irrefl _ h
        simp [h, h1, h2]
      · have h1 : ¬ x < y := UInt8.not_lt.2 h
        by_cases h2 : x = y
        · subst h2; simp [h1]
        · have h3 : y < x := UInt8.lt_of_le_of_ne h (Ne.symm h2)
          simp [h1, h2, h3]
theorem partK_next {ps R T : List Pair} {lo hi : Str} {p : Pair} (ha : Asc Pair.key ps) (hR : partK ps lo hi = T ++ p :: R) : partK ps (p.key ++ [0]) hi = R := by
  unfold partK at hR
  split at hR
  case isFalse => simp at hR
  rename_i hlh
  have hm : ∀ a, a ∈ (T ++ p :: R) ↔ a ∈ ps ∧ inSpan ⟨lo, hi, false⟩ a.key = true := fun a => by rw [← hR, List.mem_filter]
  have hs : Asc Pair.key (T ++ p :: R) := by rw [← hR]; exact List.Pairwise.filter _ ha
  have hp := (hm p).1 (by simp)
  have hphi : p.key < hi := by have := hp.2; unfold inSpan at this; simpa using (by simpa using this : _ ∧ _).2
  have hplo : ¬ p.key < lo := by have := hp.2; unfold inSpan at this; simpa using (by simpa using this : _ ∧ _).1
  have hs2 := (List.pairwise_append.1 hs)
  have hs3 := List.pairwise_cons.1 hs2.2.1
  have key : partK ps (p.key ++ [0]) hi = (T ++ p :: R).filter fun a => decide (p.key < a.key) := by
    rw [← hR, List.filter_filter]
    unfold partK
    by_cases hh : p.key ++ [0] < hi
    · rw [if_pos hh]
      refine List.filter_congr fun a _ => ?_
      unfold inSpan
      simp only [Bool.false_or, lt_snoc]
      by_cases q1 : p.key < a.key
      · have q2 : ¬ a.key < lo := fun h => hplo (slt_trans q1 h)
        simp [q1, q2]
      · simp [q1]
    · rw [if_neg hh]
      symm
      rw [List.filter_eq_nil_iff]
      intro a _ h
      simp only [Bool.and_eq_true, decide_eq_true_eq] at h
      unfold inSpan at h
      simp only [Bool.false_or, Bool.and_eq_true, decide_eq_true_eq] at h
      have h4 : a.key < p.key ++ [0] := by
        rcases not_slt.1 hh with q | q
        · exact slt_trans h.2.2 q
        · rw [q]; exact h.2.2
      exact lt_snoc.1 h4 h.1
  rw [key, List.filter_append, List.filter_cons]
  have z1 : T.filter (fun a => decide (p.key < a.key)) = [] := by
    rw [List.filter_eq_nil_iff]
    intro a hT
    have := hs2.2.2 a hT p (by simp)
    simpa using slt_asymm this
  have z2 : R.filter (fun a => decide (p.key < a.key)) = R := by
    rw [List.filter_eq_self]
    intro a hR'
    simpa using hs3.1 a hR'
  rw [z1, z2]
  simp [slt_irrefl]
def tellOn (on : List Pair → Bool) : List Pair → List Pair → List Pair
  | T, [] => T
  | T, p :: R => if on (T ++ [p]) then tellOn on (T ++ [p]) R else T ++ [p]
theorem tellOn_all {on : List Pair → Bool} (h : ∀ T, on T = true) : ∀ (R T : List Pair), tellOn on T R = T ++ R
  | [], T => by simp [tellOn]
  | p :: R, T => by rw [tellOn, if_pos (h _), tellOn_all h R]; simp
theorem Ex.comp {M N : Nat → Prop} {h h1 h2 : Heap} (e : Ex M h h1) (k : Ex N h1 h2) (hn : ∀ x, x < h.size → N x → M x) : Ex M h h2 :=
  ⟨Nat.le_trans e.le k.le, fun x hx hm => (k.eq x (Nat.lt_of_lt_of_le hx e.le) fun y => hm (hn x hx y)).trans (e.eq x hx hm)⟩
section
variable {lab lab' : Nat → Nat} {h h' : Heap} {K : Kt} {c : Config} {b q : Nat} {x : Value} {ps : List Pair} {s : Str} {n : Nat}
theorem c_strings_Repeat (hn : n ≤ 2 ^ 40) (hl : s.length * n ≤ 2 ^ 40) (r : ∀ h', Ext h h' → K (str (Lib.repeatL s n)) h') : Ca f_strings_Repeat #[str s, int n] h K := by
  show CH Pg _ _ h K
  intro w hw
  subst hw
  refine Calls.mono (Go.Proofs.Any.strings_Repeat repLay repExtra ⟨s.toArray⟩ n w (by omega) ?_) fun e w' he => ?_
  · show s.toArray.size * n ≤ _
    rw [List.size_toArray]; omega
  · obtain ⟨rfl, b⟩ := he
    exact ⟨_, rfl, ⟨b.os, b.tape, b.output⟩, r _ ⟨b.size, fun x hx _ => b.block x hx⟩⟩
theorem c_kv_Config (k : ∃ m md a b d e, Blk h q (kvc c m md a b d e)) (r : ∀ h', Ext h h' → K c.v h') : Ca f_kv_Store_Config #[ptr q 0] h K := by
  obtain ⟨m, md, a1, a2, a3, a4, kb⟩ := k
  refine m_kv_Store_Config_ok (al fun b h1 e1 hb k1 _ => ?_)
  refine eq_ptr_nil (by kernel_rfl) ?_
  show CdP (.bool false) _ _
  rw [CdP_false]
  refine Kvc.cfg (kb.ext e1) ?_
  refine StA_b (vs := c.cs) k1 rfl rfl rfl fun h2 _ e2 k2 => ?_
  exact (LdA_b k2 rfl).2 (r h2 (e1.andThen e2 fun x hx he => by omega))
theorem KvS.cf (k : KvS lab h q c ps) : ∃ m md a b d e, Blk h q (kvc c m md a b d e) := by
  obtain ⟨mp, tp, sp, dp, D, V, S, root, rd, wr, a, b, d, e, k1, _⟩ := k
  exact ⟨_, _, _, _, _, _, k1⟩
theorem KvX.cf (k : KvX h q c) : ∃ m md a b d e, Blk h q (kvc c m md a b d e) := by
  obtain ⟨a, b, d, e, k1⟩ := k
  exact ⟨_, _, _, _, _, _, k1⟩
theorem c_cursor_All {first hi lo : Str} {batch told : Int} {A R : List Pair} {f : Fn} {fs cap : Array Value} {J : List Pair → (Nat → Nat) → Heap → Prop} {on : List Pair → Bool} {n0 : Nat}
    (k : CuS lab h b q first lo hi batch told A) (kk : KvS lab h q c ps) (ha : Asc Pair.key ps) (hb1 : 1 ≤ batch) (hb2 : batch ≤ 1000) (ht0 : 0 ≤ told) (ht : told + ps.length < 2 ^ 61) (hlk : ∀ p ∈ ps, p.key.length ≤ 2 ^ 30) (lo0 : Str) (hlo : partK ps lo hi = partK ps lo0 hi) (hA : A = [])
    (j0 : J [] lab h)
    (jx : ∀ T l1 l2 h1 h2, J T l1 h1 → Lat l1 l2 h1 → Ex (Lb l1 1 60) h1 h2 → J T l2 h2)
    (call : ∀ T p l1 h1 Q, T.length < ps.length → J T l1 h1 → (∀ l2 h2, Lat l1 l2 h1 → J (T ++ [p]) l2 h2 → Ex (fun x => n0 ≤ x ∧ Lb l1 61 98 x) h1 h2 → Q (.bool (on (T ++ [p]))) h2) → CvH Pg (.func f fs cap) #[p.v] h1 Q)
    (r : ∀ lab' h', Lat lab lab' h → KvS lab' h' q c ps → J (tellOn on [] (partK ps lo0 hi)) lab' h' → (∃ lo' told' A', CuS lab' h' b q first lo' hi batch told' A') → Ex (fun x => Lb lab 1 60 x ∨ n0 ≤ x) h h' → K (int 0) h') :
    Ca f_cursor_Cursor_All #[ptr b 0, .func f fs cap] h K := by
  subst hA
  have kb0 := k.out
  obtain ⟨v0, kb0, _⟩ := kb0
  refine m_cursor_Cursor_All_ok (c_cursor_none kb0 ?_)
  rw [CdP_false]
  refine lop (σ := List Pair × List Pair × List Pair × Str × Int × (Nat → Nat)) (fun _ => [int 0])
    (fun ⟨T, A, R, lo, told, l⟩ h' => CuS l h' b q first lo hi batch told A ∧ KvS l h' q c ps ∧ J T l h' ∧ Lat lab l h ∧ Ex (fun x => Lb lab 1 60 x ∨ n0 ≤ x) h h' ∧ partK ps lo0 hi = T ++ R ∧ (A = [] → partK ps lo hi = R) ∧ (∃ r', R = A ++ r') ∧ tellOn on T R = tellOn on [] (partK ps lo0 hi) ∧ 0 ≤ told ∧ told + R.length < 2 ^ 61)
    (fun ⟨T, A, R, _⟩ => R.length) ([], [], partK ps lo0 hi, lo, told, lab) rfl ⟨k, kk, j0, Lat.refl _ _, Ex.refl _ _, rfl, fun _ => hlo, ⟨_, rfl⟩, rfl, ht0, ?_⟩ ?_
  · have : (partK ps lo0 hi).length ≤ ps.length := by
      unfold partK; split
      · exact List.length_filter_le _ _
      · simp
    show told + ((partK ps lo0 hi).length : Int) < 2 ^ 61
    omega
  rintro ⟨T, A, R, lo1, told1, l1⟩ h1 N ⟨k1, kk1, j1, a1, e1, hp1, hR1, ⟨r', hr'⟩, ht1, hn1, hn2⟩ hN
  simp only [m_cursor_Cursor_All_l4, gv_zero]
  refine neq_func_nil (ts := #[t_api_Pair]) (rs := #[t_bool]) (vr := false) (by kernel_rfl) ?_
  rw [CdP_true]
  have hask : ∃ r2, R = askedP ps A lo1 hi batch ++ r2 ∧ (askedP ps A lo1 hi batch = [] → R = []) := by
    unfold askedP
    by_cases hA : A = []
    · rw [if_pos hA, rangeK_eq hb1, hR1 hA]
      refine ⟨R.drop batch.toNat, (List.take_append_drop _ _).symm, fun h => ?_⟩
      cases R with
      | nil => rfl
      | cons p R =>
        obtain ⟨m, hm⟩ : ∃ m, batch.toNat = m + 1 := ⟨batch.toNat - 1, by omega⟩
        rw [hm] at h; simp at h
    · rw [if_neg hA]; exact ⟨r', hr', fun h => absurd h hA⟩
  obtain ⟨r2, hq1, hq2⟩ := hask
  have hmem : ∀ p ∈ R, p ∈ ps := fun p hp => by
    have : p ∈ partK ps lo0 hi := by rw [hp1]; exact List.mem_append_right _ hp
    unfold partK at this
    split at this
    · exact (List.mem_filter.1 this).1
    · simp at this
  have h1le := e1.le
  refine c_cursor_Next k1 kk1 (by omega) hn1 (by omega) (fun p hp => hlk p (hmem p (by rw [hq1]; exact List.mem_append_left _ hp))) (fun he l2 h2 a2 k2 kk2 e2 => ?_) (fun p T' he l2 h2 a2 k2 kk2 e2 => ?_)
  · have hR := hq2 he
    rw [ex30, ex31, ex32]
    refine alst (vs := [str [], str []]) rfl rfl rfl fun b3 h3 e3 hb3 k3 _ => ?_
    rw [UnP_not]
    refine cd (fun _ => ?_) fun h => absurd h (by decide)
    unfold m_cursor_Cursor_All_j24
    rw [CdP_true]
    have a02 : Lat lab l2 h := a1.trans a2 h1le
    have a3 := frl_lat l2 h2
    have e02 : Ex (fun x => Lb lab 1 60 x ∨ n0 ≤ x) h h2 := e1.comp e2 fun y hy m => .inl (by show 1 ≤ lab y ∧ lab y ≤ 60; rw [← a1 y hy]; exact m)
    have h2le := e02.le
    refine r (frl l2 h2) h3 (a02.trans a3 h2le) ((kk2.lat a3).ext e3) ?_ ?_ (e02.trans (Ex.toM e3))
    · rw [← ht1, hR]
      show J T _ _
      exact jx T l2 _ h2 h3 (jx T l1 l2 h1 h2 j1 a2 e2) a3 (Ex.toM e3)
    · obtain ⟨⟨v, kb, sv⟩, l60⟩ := k2
      exact ⟨lo1, told1, [], ⟨v, kb.ext e3, (sv.ext e3).ex (Ex.refl No _) (fun _ _ h => h.elim) fun y hy hm => by
        rcases Nat.lt_or_ge y h2.size with hq | hq
        · show l2 y ≠ 0; rw [← a3 y hq]; exact hm
        · exact absurd (frl_new hq) hm⟩, (a3 b kb.lt).trans l60⟩
  · rw [ex30, ex31, ex32]
    refine alst (vs := [str p.key, str p.val]) rfl rfl rfl fun b3 h3 e3 hb3 k3 _ => ?_
    rw [UnP_not]
    refine cd (fun h => absurd h (by decide)) fun _ => (LdA_b k3 rfl).2 ?_
    have a3 := frl_lat l2 h2
    have j3 : J T (frl l2 h2) h3 := jx T l2 _ h2 h3 (jx T l1 l2 h1 h2 j1 a2 e2) a3 (Ex.toM e3)
    refine call T p (frl l2 h2) h3 _ (by
      have q1 : (partK ps lo0 hi).length ≤ ps.length := by
        unfold partK; split
        · exact List.length_filter_le _ _
        · simp
      rw [hp1, hq1, he] at q1
      simp only [List.length_append, List.length_cons] at q1
      omega) j3 fun l4 h4 a4 j4 e4 => ?_
    rw [UnP_not]
    have hRp : R = p :: (T' ++ r2) := by rw [hq1, he]; rfl
    have h2le := e2.le
    have h3le := e3.le
    have a24 : Lat l2 l4 h2 := fun y hy => (a4 y (by omega)).trans (a3 y hy)
    have a04 : Lat lab l4 h := fun y hy => by rw [a24 y (by omega), a2 y (by omega)]; exact a1 y hy
    have e02 : Ex (fun x => Lb lab 1 60 x ∨ n0 ≤ x) h h2 := e1.comp e2 fun y hy m => .inl (by show 1 ≤ lab y ∧ lab y ≤ 60; rw [← a1 y hy]; exact m)
    have a03 : Lat lab (frl l2 h2) h := fun y hy => by rw [a3 y (by omega), a2 y (by omega)]; exact a1 y hy
    have h02 : h.size ≤ h2.size := e02.le
    have e4' : Ex (Lb (frl l2 h2) 61 98) h3 h4 := e4.mono fun y _ m => m.2
    have e03 : Ex (fun x => Lb lab 1 60 x ∨ n0 ≤ x) h h3 := e02.trans (Ex.toM e3)
    have e04 : Ex (fun x => Lb lab 1 60 x ∨ n0 ≤ x) h h4 := e03.comp e4 fun y _ m => .inr m.1
    have kk4 : KvS l4 h4 q c ps := (((kk2.lat a3).ext e3).lat a4).ex16 (a4.fw e4') (by decide)
    have k4 : CuS l4 h4 b q first (p.key ++ [0]) hi batch (told1 + 1) T' := by
      obtain ⟨⟨v, kb, sv⟩, l60⟩ := k2
      have l60' : frl l2 h2 b = 60 := (a3 b kb.lt).trans l60
      have sv3 : Sl (Use (frl l2 h2)) h3 v T' := (sv.ext e3).ex (Ex.refl No _) (fun _ _ h => h.elim) fun y hy hm => by
        rcases Nat.lt_or_ge y h2.size with hq | hq
        · show l2 y ≠ 0; rw [← a3 y hq]; exact hm
        · exact absurd (frl_new hq) hm
      exact ⟨⟨v, (kb.ext e3).ex e4' (nLb l60' (by decide)), sv3.lat e4' (by decide) a4⟩, (a4 b (kb.ext e3).lt).trans l60'⟩
    have hnext : partK ps (p.key ++ [0]) hi = T' ++ r2 := by
      refine partK_next (T := T) (lo := lo0) ha ?_
      rw [hp1, hRp]
    rw [hRp] at hn2
    simp only [List.length_cons, List.length_append] at hn2
    have hto : tellOn on T R = if on (T ++ [p]) then tellOn on (T ++ [p]) (T' ++ r2) else T ++ [p] := by rw [hRp, tellOn]
    refine cd (fun ho => ?_) fun ho => ?_
    · have ho : on (T ++ [p]) = false := by simpa using ho
      refine r l4 h4 a04 kk4 ?_ ⟨_, _, _, k4⟩ e04
      rw [← ht1, hto, if_neg (by simp [ho])]
      exact j4
    · have ho : on (T ++ [p]) = true := by simpa using ho
      refine hN (T ++ [p], T', T' ++ r2, p.key ++ [0], told1 + 1, l4) h4 ⟨k4, kk4, j4, a04, e04, ?_, fun _ => hnext, ⟨r2, rfl⟩, ?_, by omega, ?_⟩ ?_
      · rw [hp1, hRp]; simp
      · rw [← ht1, hto, if_pos ho]
      · simp only [List.length_append]; omega
      · show (T' ++ r2).length < R.length
        rw [hRp]; simp
end
end Go.Sg
namespace Go.Sg
open Go Vc
theorem Ow.ownLt {α : Type} [El α] {n0 e h v} {l : List α} (o : Ow n0 e h v l) {b : Nat} (hb : v.ownBlock = some b) : b < h.size := by
  rcases o with ⟨rfl, rfl⟩ | ⟨g, cap, cur, rfl, h2, h3, _⟩
  · simp [Value.ownBlock] at hb
  · simp [Value.ownBlock] at hb
    subst hb
    exact (Array.getElem?_eq_some_iff.1 h3).1
section
variable {lab lab' : Nat → Nat} {h h' : Heap} {K : Kt} {c : Config} {b q : Nat} {x : Value} {ps : List Pair} {first lo hi : Str} {batch told : Int}
def topK (c : Config) : Str := Lib.repeatL [255] (c.key + 1).toNat
theorem squeeze_hi (h0 : 0 ≤ c.key) (h1 : c.key ≤ 2 ^ 20) {R : Kt} (r : ∀ h', Ext h h' → R (str (topK c)) h') : Ca f_strings_Repeat #[.string { data := #[255] }, int (c.key + 1)] h R := by
  have : c.key + 1 = (((c.key + 1).toNat : Nat) : Int) := by omega
  rw [this]
  exact c_strings_Repeat (s := [255]) (by omega) (by show 1 * _ ≤ _; omega) r
def GotJ (n0 bv : Nat) (T : List Pair) (l : Nat → Nat) (h : Heap) : Prop := ∃ v, Blk h bv [v] ∧ Ow 0 t_api_Pair h v T ∧ n0 ≤ bv ∧ l bv = 70 ∧ (∀ x, v.ownBlock = some x → l x = 71 ∧ n0 ≤ x) ∧ T.length ≤ 2 ^ 30
theorem gotJ_call {n0 bv : Nat} {T : List Pair} {p : Pair} {l1 : Nat → Nat} {h1 : Heap} {Q : Kt} (hn0 : n0 ≤ h1.size) (j : GotJ n0 bv T l1 h1) (hT : T.length < 2 ^ 30)
    (r : ∀ l2 h2, Lat l1 l2 h1 → GotJ n0 bv (T ++ [p]) l2 h2 → Ex (fun x => n0 ≤ x ∧ Lb l1 61 98 x) h1 h2 → Q (.bool true) h2) : CvH Pg (.func (.func f_squeeze_Pairs_1) #[] #[ptr bv 0]) #[p.v] h1 Q := by
  obtain ⟨v, kb, o, hnb, l70, z71, hlen⟩ := j
  refine cvhc (by kernel_rfl) ?_
  show Ca f_squeeze_Pairs_1 #[p.v, ptr bv 0] h1 Q
  refine m_squeeze_Pairs_1_ok (bxa (cs := [str p.key, str p.val]) fun b2 h2 e2 hb2 k2 _ => ?_)
  refine ld (v := v) (by rw [(kb.ext e2).get]; rfl) ((LdA_b k2 rfl).2 ?_)
  refine bs (n0 := h2.size) (e := t_api_Pair) (zs := #[str [], str []]) [p] rfl (Nat.le_refl _) rfl (by decide) (cs := #[str p.key, str p.val]) (by kernel_rfl) rfl fun v3 h3 o3 e3 => ?_
  have e13 := e2.trans e3
  have hbl := kb.lt
  refine app_ob T_Pair (o.ext e13) (o3.sl (U := No) fun _ _ h => h) (by simp only [List.length_singleton]; omega) (by decide) fun v4 h4 o4 e4 hv4 => ?_
  have hne : ¬ v.ownBlock = some bv := fun h => by have := (z71 bv h).1; omega
  have k4 := (kb.ext e13).ex e4 hne
  refine StP_b k4 (show 0 < 1 by decide) (by rw [one_eq]; exact o4.one) fun h5 _ e5 k5 => ?_
  have k5 : Blk h5 bv [v4] := k5
  have hl13 := e13.le
  have hl34 := e4.le
  have own : ∀ y, v.ownBlock = some y → y < h1.size := fun y hy => o.ownLt hy
  let l2 : Nat → Nat := fun y => if v4.ownBlock = some y then 71 else frl l1 h1 y
  have a2 : Lat l1 l2 h1 := fun y hy => by
    show (if v4.ownBlock = some y then 71 else frl l1 h1 y) = l1 y
    split
    · rename_i hz
      rcases hv4 with q | q
      · rw [q] at hz; exact (z71 y hz).1.symm
      · rw [q] at hz; injection hz with hz; omega
    · exact frl_lat l1 h1 y hy
  have hne4 : ¬ v4.ownBlock = some bv := fun h => by
    rcases hv4 with q | q
    · exact hne (q ▸ h)
    · rw [q] at h; injection h with h; omega
  refine r l2 h5 a2 ⟨v4, k5, (o4.exb e5 fun y hy he => hne4 (he ▸ hy)), hnb, (a2 bv hbl).trans l70, fun y hy => ⟨if_pos hy, ?_⟩, by simp; omega⟩ ?_
  · rcases hv4 with q | q
    · rw [q] at hy; exact (z71 y hy).2
    · rw [q] at hy; injection hy with hy; omega
  · refine ⟨by have := e5.le; omega, fun y hy hm => ?_⟩
    rw [e5.eq y (by omega) (fun he => hm (by subst he; exact ⟨hnb, by rw [l70]; decide, by rw [l70]; decide⟩)), e4.eq y (by omega) (fun he => hm ⟨(z71 y he).2, by rw [(z71 y he).1]; decide, by rw [(z71 y he).1]; decide⟩), e13.eq y hy id]
theorem topK_gt {c : Config} {k : Str} (hk : (k.length : Int) ≤ c.key) : k < topK c := by
  have gen : ∀ (k : Str) (n : Nat), k.length ≤ n → k < Lib.repeatL [255] (n + 1) := by
    intro k
    induction k with
    | nil => intro n _; simp [Lib.repeatL]
    | cons x k ih =>
      intro n hn
      obtain ⟨m, rfl⟩ : ∃ m, n = m + 1 := ⟨n - 1, by simp at hn; omega⟩
      have := ih m (by simp at hn; omega)
      rw [Lib.repeatL, List.singleton_append, List.cons_lt_cons_iff]
      by_cases hx : x = 255
      · exact .inr ⟨hx, this⟩
      · exact .inl (UInt8.lt_of_le_of_ne (UInt8.le_iff_toNat_le.2 (by have := x.toNat_lt; show x.toNat ≤ 255; omega)) hx)
  unfold topK
  have : (c.key + 1).toNat = c.key.toNat + 1 := by omega
  rw [this]
  exact gen k c.key.toNat (by omega)
theorem partK_top {c : Config} {ps : List Pair} (hk : ∀ p ∈ ps, keyOk c p.key = true) : partK ps [] (topK c) = ps := by
  unfold partK
  by_cases he : ps = []
  · subst he; split <;> rfl
  · obtain ⟨p, hp⟩ := List.exists_mem_of_ne_nil _ he
    have len : ∀ p ∈ ps, (p.key.length : Int) ≤ c.key := fun p hp => by
      have := hk p hp
      unfold keyOk at this
      simp only [Bool.and_eq_true, decide_eq_true_eq] at this
      exact this.2
    have hlt : ([] : Str) < topK c := by
      have := topK_gt (len p hp)
      cases hq : topK c with
      | nil => rw [hq] at this; simp at this
      | cons a l => simp
    rw [if_pos hlt, List.filter_eq_self]
    intro a ha
    unfold inSpan
    simp [topK_gt (len a ha)]
theorem c_squeeze_Pairs (kk : KvS lab h q c ps) (ha : Asc Pair.key ps) (hk : ∀ p ∈ ps, keyOk c p.key = true) (hlen : ps.length ≤ 2 ^ 30) (h0 : 0 ≤ c.key) (h20 : c.key ≤ 2 ^ 20)
    (r : ∀ lab' h' v, Lat lab lab' h → KvS lab' h' q c ps → Ow 0 t_api_Pair h' v ps → (∀ x, v.ownBlock = some x → lab' x = 71 ∧ h.size ≤ x) → Ex (Lb lab 1 60) h h' → K (.tuple #[v, int 0]) h') : Ca f_squeeze_Pairs #[ptr q 0] h K := by
  have len : ∀ p ∈ ps, (p.key.length : Int) ≤ c.key := fun p hp => by
    have := hk p hp
    unfold keyOk at this
    simp only [Bool.and_eq_true, decide_eq_true_eq] at this
    exact this.2
  refine m_squeeze_Pairs_ok (c_kv_Config kk.cf fun h1 e1 => ?_)
  refine ⟨_, int c.key, rfl, rfl, add64 (by omega) ?_⟩
  refine squeeze_hi h0 h20 fun h2 e2 => ?_
  refine c_cursor_New (by decide) (by decide) fun b h3 e3 hb k3 => ?_
  rw [ex20, ex21, BiP_neq]
  refine cdp (fun h => absurd rfl h) fun _ => ?_
  have e03 := (e1.trans e2).trans e3
  refine al fun bv h4 e4 hb4 k4 _ => ?_
  have hl2 := (e1.trans e2).le
  have hl23 := e3.le
  have hbl := k3.lt
  let l4 : Nat → Nat := upd (upd (frl lab h) b 60) bv 70
  have a4 : Lat lab l4 h := fun y hy => by
    show upd (upd (frl lab h) b 60) bv 70 y = lab y
    rw [upd_ne (by omega), upd_ne (by omega)]; exact frl_lat lab h y hy
  have q60 : l4 b = 60 := by
    show upd (upd (frl lab h) b 60) bv 70 b = 60
    rw [upd_ne (by omega), upd_same]
  have e04 := e03.trans e4
  refine c_cursor_All (c := c) (ps := ps) (R := []) (lo := []) (n0 := h.size) (J := GotJ h.size bv) (on := fun _ => true) (lab := l4) ⟨⟨_, k3.ext e4, Sl.nil _ _⟩, q60⟩ ((kk.lat a4).ext e04) ha (by decide) (by decide) (by decide) (by simp; omega) (fun p hp => by have := len p hp; omega) [] rfl rfl ?_ ?_ ?_ fun l5 h5 a5 k5 j5 _ e5 => ?_
  · exact ⟨_, k4, Ow.nil _ _ _, (by omega), upd_same, (fun y hy => (by cases hy)), Nat.zero_le _⟩
  · rintro T l1 l2 h1 h2 ⟨v, kb, o, hn, l70, z71, hT⟩ al ex
    have hb' := kb.lt
    exact ⟨v, kb.ex ex (nLb l70 (by decide)), o.exb ex fun y hy => nLb (z71 y hy).1 (by decide), hn, (al bv hb').trans l70, fun y hy => ⟨(al y (o.ownLt hy)).trans (z71 y hy).1, (z71 y hy).2⟩, hT⟩
  · intro T p l1 h1 Q hT j rr
    have hn0 : h.size ≤ h1.size := by obtain ⟨v, kb, o, hn, _⟩ := j; have := kb.lt; omega
    exact gotJ_call hn0 j (by omega) rr
  · rw [tellOn_all (fun _ => rfl), List.nil_append, partK_top hk] at j5
    obtain ⟨v, kb, o, hn, l70, z71, hT⟩ := j5
    rw [BiP_neq]
    refine cdp (fun h => absurd rfl h) fun _ => ?_
    refine ld (v := v) (by rw [kb.get]; rfl) ?_
    have hl04 := e04.le
    refine r l5 h5 v (fun y hy => (a5 y (by omega)).trans (a4 y hy)) k5 o z71 ?_
    refine (Ex.toM e04 : Ex (Lb lab 1 60) h h4).comp e5 fun y hy m => ?_
    rcases m with m | m
    · show 1 ≤ lab y ∧ lab y ≤ 60; rw [← a4 y hy]; exact m
    · omega
end
end Go.Sg
