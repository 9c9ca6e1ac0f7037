/-
  Part 13 of a proof: own texts, merged by program.
-/
import Derived.Laws.StructEq
import Derived.LaidEql
import Derived.Test.YtfdephgpijheoaaGreatDoorP12
set_option linter.unusedVariables false
set_option linter.unusedSimpArgs false
namespace Go.Sg
open Go Vc
section
variable {lab lab' : Nat → Nat} {h h' : Heap} {mp tp sp cp dp dg kept root : Nat} {c : Config} {D D' : List (List UInt8)} {V V' : Nat → List UInt8} {S : Nat → Bool} {rd wr rd' wr' : BitVec 64} {K : Kt} {U : Nat → Prop} {ps : List Pair}
theorem TrS.ext (k : TrS lab h tp sp dp c D V S root ps rd wr) (e : Ext h h') : TrS lab h' tp sp dp c D V S root ps rd wr := by
  obtain ⟨⟨u, k1⟩, k2, k3, k4, k5, k6⟩ := k
  exact ⟨⟨u, k1.ext e⟩, k2.ext e, k3, k4, k5, k6⟩
theorem TrS.lat (k : TrS lab h tp sp dp c D V S root ps rd wr) (a : Lat lab lab' h) : TrS lab' h tp sp dp c D V S root ps rd wr := by
  obtain ⟨⟨u, k1⟩, k2, k3, k4, k5, k6⟩ := k
  exact ⟨⟨u, k1⟩, k2.lat a, (a _ k1.lt).trans k3, k4, k5, k6⟩
theorem TrS.lt (k : TrS lab h tp sp dp c D V S root ps rd wr) : tp < h.size := by
  obtain ⟨⟨u, k1⟩, k2, k3, k4, k5, k6⟩ := k
  exact k1.lt
theorem TrS.ex14 {lo hi : Nat} (k : TrS lab h tp sp dp c D V S root ps rd wr) (e : Ex (Lb lab lo hi) h h') (hl : 14 ≤ lo) : TrS lab h' tp sp dp c D V S root ps rd wr := by
  obtain ⟨⟨u, k1⟩, k2, k3, k4, k5, k6⟩ := k
  exact ⟨⟨u, k1.ex e (nLb k3 (by omega))⟩, k2.ex13 e (by omega), k3, k4, k5, k6⟩
theorem c_tree_Shelf (k : TrS lab h tp sp dp c D V S root ps rd wr) (r : K (ptr sp 0) h) : Ca f_tree_Tree_Shelf #[ptr tp 0] h K := by
  obtain ⟨⟨u, k1⟩, k2, k3, k4, k5, k6⟩ := k
  refine m_tree_Tree_Shelf_ok (c_tree_none k1 ?_)
  rw [CdP_false]
  exact fl (by rw [k1.get]; rfl) r
theorem c_tree_Root (k : TrS lab h tp sp dp c D V S root ps rd wr) (r : K (.int .u32 root) h) : Ca f_tree_Tree_Root #[ptr tp 0] h K := by
  obtain ⟨⟨u, k1⟩, k2, k3, k4, k5, k6⟩ := k
  refine m_tree_Tree_Root_ok (c_tree_none k1 ?_)
  rw [CdP_false]
  exact fl (by rw [k1.get]; rfl) r
theorem c_tree_Height (k : TrS lab h tp sp dp c D V S root ps rd wr) (r : K (int 1) h) : Ca f_tree_Tree_Height #[ptr tp 0] h K := by
  obtain ⟨⟨u, k1⟩, k2, k3, k4, k5, k6⟩ := k
  refine m_tree_Tree_Height_ok (c_tree_none k1 ?_)
  rw [CdP_false]
  refine fl (v := int 0) (by rw [k1.get]; rfl) ?_
  exact add64 (by decide) r
structure MtS (lab : Nat → Nat) (h : Heap) (mp tp sp dp : Nat) (c : Config) (D : List (List UInt8)) (V : Nat → List UInt8) (S : Nat → Bool) (root : Nat) (ps : List Pair) (rd wr : BitVec 64) : Prop where
  blk : Blk h mp [ptr dp 0, ptr tp 0]
  tr : TrS lab h tp sp dp c D V S root ps rd wr
  l14 : lab mp = 14
theorem MtS.ext (k : MtS lab h mp tp sp dp c D V S root ps rd wr) (e : Ext h h') : MtS lab h' mp tp sp dp c D V S root ps rd wr :=
  ⟨k.blk.ext e, k.tr.ext e, k.l14⟩
theorem MtS.lat (k : MtS lab h mp tp sp dp c D V S root ps rd wr) (a : Lat lab lab' h) : MtS lab' h mp tp sp dp c D V S root ps rd wr :=
  ⟨k.blk, k.tr.lat a, (a _ k.blk.lt).trans k.l14⟩
theorem MtS.ex15 {lo hi : Nat} (k : MtS lab h mp tp sp dp c D V S root ps rd wr) (e : Ex (Lb lab lo hi) h h') (hl : 15 ≤ lo) : MtS lab h' mp tp sp dp c D V S root ps rd wr :=
  ⟨k.blk.ex e (nLb k.l14 (by omega)), k.tr.ex14 e (by omega), k.l14⟩
theorem c_mount_none {cs : List Value} {d : Value} (k : Blk h mp (d :: ptr tp 0 :: cs)) (r : K (.bool false) h) : Ca f_mount_Mount_none #[ptr mp 0] h K := by
  refine m_mount_Mount_none_ok (eq_ptr_nil (by kernel_rfl) (fl (by rw [k.get]; rfl) ?_))
  unfold m_mount_Mount_none_j11
  exact eq_ptr_nil (by kernel_rfl) r
theorem c_mount_Head (k : MtS lab h mp tp sp dp c D V S root ps rd wr) (r : ∀ h', Ext h h' → K (.agg (hdv c root 1).toArray) h') : Ca f_mount_Mount_Head #[ptr mp 0] h K := by
  refine m_mount_Mount_Head_ok (ala (cs := [int 0, int 0, int 0, int 0, int 0, int 0, int 0, int 0, .int .u32 0, int 0]) fun b h1 e1 hb kb _ => ?_)
  have k1 := k.ext e1
  refine c_mount_none k1.blk ?_
  rw [CdP_false]
  refine ⟨fun b' _ => b' = mp, ?_⟩
  simp only [NilP_ptr, FaP_ptr]
  refine LdX_b k1.blk (v := ptr tp 0) rfl (fun _ => rfl) ?_
  refine LdX_b k1.blk (v := ptr tp 0) rfl (fun _ => rfl) ?_
  refine LdX_b k1.blk (v := ptr tp 0) rfl (fun _ => rfl) ?_
  refine c_tree_Shelf k1.tr ⟨agr_b (Ex.refl (fun _ => False) _) k1.blk.lt id, ?_⟩
  refine c_shelf_Config k1.tr.sh fun h2 e2 => ⟨agr_b e2 k1.blk.lt id, ?_⟩
  have k2 := k1.ext e2
  refine c_tree_Root k2.tr ⟨agr_b e2 k1.blk.lt id, ?_⟩
  refine c_tree_Height k2.tr ⟨trivial, ?_⟩
  refine ⟨_, (hdv c root 1).toArray, rfl, by kernel_rfl, ?_⟩
  refine StA_b (kb.ext e2) rfl rfl rfl fun h3 hs3 e3 k3 => ⟨trivial, ?_⟩
  refine (LdA_b k3 rfl).2 (r h3 ?_)
  have e12 := e1.trans e2
  exact e12.andThen e3 fun x hx he => by omega
structure ImgD (c : Config) (root : Nat) (ps : List Pair) (D : List (List UInt8)) : Prop where
  hd : D[0]? = some (headOf c root 1)
  lf : D[root]? = some (leafOf c (nl ps))
theorem c_mount_Sync (k : MtS lab h mp tp sp dp c D V S root ps rd wr) (hnf : c.frames.toNat ≤ 12)
    (r : ∀ lab' h' D' V' wr', Lat lab lab' h → MtS lab' h' mp tp sp dp c D' V' S root ps rd wr' → ImgD c root ps D' → Ex (Lb lab 1 12) h h' → K (int 0) h') : Ca f_mount_Mount_Sync #[ptr mp 0] h K := by
  have hr := k.tr.sh.right
  have hb := blocks_eq hr
  have hrl := k.tr.sh.kl
  have hr0 := k.tr.r0
  refine m_mount_Mount_Sync_ok (c_mount_none k.blk ?_)
  rw [CdP_false]
  refine c_mount_Head k fun h1 e1 => ?_
  refine c_head_Encode ⟨hr, by omega, by omega, by decide, by decide⟩ fun y h2 o2 e2 => ?_
  have e12 := e1.trans e2
  rw [ex20, ex21, BiP_neq]
  refine cdp (fun h => absurd rfl h) fun _ => ?_
  have a2 := frl_lat lab h
  have k2 := (k.lat a2).ext e12
  have sy : Sl (Use (frl lab h)) h2 y (headOf c root 1) := Sl.l0 o2 fun b hb => frl_new (by have := e1.le; omega)
  refine fl (by rw [k2.blk.get]; rfl) (c_tree_Shelf k2.tr ?_)
  obtain ⟨kb, ⟨⟨u, t1⟩, t2, t3, t4, t5, t6⟩, l14⟩ := k2
  refine c_shelf_Flush t2 hnf fun l3 h3 D3 w3 a3 hD3 t2' e3 => ?_
  rw [BiP_neq]
  refine cdp (fun h => absurd rfl h) fun _ => ?_
  have kb3 := kb.ex e3 (nLb l14 (by decide))
  refine fl (by rw [kb3.get]; rfl) ?_
  refine t2'.write0 (sy.lat e3 (by decide) a3) (head_len hr) fun h4 t2'' e4 => ?_
  have l14' : l3 mp = 14 := (a3 _ kb.lt).trans l14
  have l13' : l3 tp = 13 := (a3 _ t1.lt).trans t3
  have kb4 := kb3.ex e4 (nLb l14' (by decide))
  have t14 := (t1.ex e3 (nLb t3 (by decide))).ex e4 (nLb l13' (by decide))
  refine r l3 h4 _ _ _ (a2.trans a3 e12.le) ⟨kb4, ⟨⟨u, t14⟩, t2'', l13', hr0, ?_, t6⟩, l14'⟩ ⟨?_, ?_⟩ ?_
  · rw [upd_ne (by omega)]; exact t5
  · rw [List.getElem?_set_self (by have := t2'.dl; omega)]
  · rw [List.getElem?_set_ne (by omega), hD3 root (by have := t2.dl; omega), t5]
  · have e34 : Ex (Lb (frl lab h) 1 12) h2 h4 := a3.ex (Lb.wide e3 (by decide) (by decide)) (Lb.wide e4 (by decide) (by decide))
    exact a2.ex (Ex.toM e12) e34
theorem c_mount_Tree (k : MtS lab h mp tp sp dp c D V S root ps rd wr) (r : K (ptr tp 0) h) : Ca f_mount_Mount_Tree #[ptr mp 0] h K := by
  refine m_mount_Mount_Tree_ok (c_mount_none k.blk ?_)
  rw [CdP_false]
  exact fl (by rw [k.blk.get]; rfl) r
end
end Go.Sg
namespace Go.Sg
open Go Vc
section
variable {lab lab' : Nat → Nat} {h h' : Heap} {c : Config} {K : Kt}
theorem cnt_one {n : Nat} (hn : 2 ≤ n) : cnt n (upd (fun _ => false) 0 true) < n := by
  rcases Nat.lt_or_ge (cnt n (upd (fun _ => false) 0 true)) n with h | h
  · exact h
  · have h2 : cnt n (upd (fun _ => false) 0 true) = n := Nat.le_antisymm cnt_le h
    have := List.countP_eq_length.1 (h2.trans (List.length_range (n := n)).symm) 1 (List.mem_range.2 (by omega))
    rw [upd_ne (by decide)] at this
    cases this
theorem Ex.lab0 {M : Nat → Nat} {h0 h h' : Heap} {lo hi : Nat} (a : Ext h0 h) (e : Ex (Lb M lo hi) h h') (h1 : 0 < lo) (hz : ∀ b, b < h0.size → M b = 0) : Ext h0 h' :=
  a.andThen e fun x hx hm => by
    have := hz x hx
    obtain ⟨q1, q2⟩ := hm
    omega
theorem c_mount_Format (hr : c.Right) (ho : lok c []) (hnf : c.frames.toNat ≤ 12) (h24 : c.blocks.toNat * c.bytes.toNat ≤ 2 ^ 24) (t : Tz h)
    (r : ∀ lab' h' mp tp sp dp D V S root rd wr, MtS lab' h' mp tp sp dp c D V S root [] rd wr → (∀ b, b < h.size → lab' b = 0) → Ext h h' → h.size ≤ dp → K (.tuple #[ptr mp 0, int 0]) h') : Ca f_mount_Format #[c.v] h K := by
  have hb := blocks_eq hr
  have h64 := bytes64 hr
  have h65 := hr.2.2.2.2.2.1
  refine m_mount_Format_ok (bxa (cs := c.cs) fun b h1 e1 hb1 kb _ => ?_)
  refine (LdA_b kb rfl).2 (c_conf_Check (c := c) fun h2 e2 => ?_)
  have kb := kb.ext e2
  rw [if_pos hr, BiP_neq]
  refine cdp (fun h => absurd rfl h) fun _ => ?_
  refine fv (v := int c.blocks) (by rw [kb.get]; rfl) ?_
  refine fv (v := int c.bytes) (by rw [kb.get]; rfl) ?_
  rw [hb.1, hb.2.1]
  refine c_dev_New hb.2.2.2.1 hb.2.2.2.2.1 (by omega) (by omega) h24 fun dg dp h3 hdg hdp d3 e3 => ?_
  have kb := kb.ext e3
  rw [ex20, ex21, BiP_neq]
  refine cdp (fun h => absurd rfl h) fun _ => ?_
  refine (LdA_b kb rfl).2 ?_
  have e03 : Ext h h3 := (e1.trans e2).trans e3
  have t3 := t.ext e03
  have tl := t.lt
  have l02 : h.size ≤ h2.size := (e1.trans e2).le
  refine c_shelf_New d3 hr (by rw [List.length_replicate]) rfl t3 (by omega) (by omega) fun l4 sp h4 a4 k4 hsp e4 => ?_
  rw [ex20, ex21, BiP_neq]
  refine cdp (fun h => absurd rfl h) fun _ => ?_
  have hz : ∀ x, x < h.size → l4 x = 0 := fun x hx => by
    rw [a4 x (Nat.lt_of_lt_of_le hx e03.le)]
    unfold dlab
    rw [if_neg (by omega), if_neg (by omega)]
  have e04 : Ext h h4 := e03.andThen e4 fun x hx hm => by rcases hm with h | h <;> omega
  refine c_tree_New k4 (cnt_one (by omega)) upd_same ho fun tp root l5 h5 D5 V5 rd5 wr5 a5 htp hroot hS k5 e5 => ?_
  have e05 : Ext h h5 := Ex.lab0 e04 e5 (by decide) hz
  rw [ex20, ex21, BiP_neq]
  refine cdp (fun h => absurd rfl h) fun _ => ?_
  refine ⟨_, #[ptr dp 0, ptr tp 0], rfl, rfl, ?_⟩
  refine bxa (cs := [ptr dp 0, ptr tp 0]) fun mp h6 e6 hmp k6 _ => ?_
  let l6 := upd (frl l5 h5) mp 14
  have a6 : Lat l5 l6 h5 := fun x hx => (upd_ne (by omega)).trans (frl_lat l5 h5 x hx)
  have m6 : MtS l6 h6 mp tp sp dp c D5 V5 _ root [] rd5 wr5 := ⟨k6, (k5.lat a6).ext e6, upd_same⟩
  have e06 := e05.trans e6
  have hz6 : ∀ x, x < h.size → l6 x = 0 := fun x hx => by
    have h1 := e04.le
    have h2 := e05.le
    rw [a6 x (by omega), a5 x (by omega), hz x hx]
  refine c_mount_Sync m6 hnf fun l7 h7 D7 V7 wr7 a7 m7 _ e7 => ?_
  rw [BiP_neq]
  refine cdp (fun h => absurd rfl h) fun _ => ?_
  refine r l7 h7 mp tp sp dp D7 V7 _ root rd5 wr7 m7 (fun x hx => ?_) (Ex.lab0 e06 e7 (by decide) hz6) (by omega)
  have := e06.le
  rw [a7 x (by omega), hz6 x hx]
end
end Go.Sg
namespace Go.Sg
open Go Vc
section
variable {t : TypeId} {xo yo : Operand} {h : Heap} {K : Kt} {k : IntKind} {xs ys : List Int}
theorem neq_ptr_same {b o n : Nat} (ht : Pg.underlying t = some (.pointer (Pg.pointee t))) (hn : (Pg.info? (Pg.pointee t)).map (·.size) = some (n + 1)) (r : K (.bool false) h) : EqP .neq t xo yo (ptr b o) (ptr b o) h K := by
  refine eqp (v := .bool false) (fun w => by simp [eqGuard]) (fun w => ?_) r
  cases hq : Pg.info? (Pg.pointee t) with
  | none => rw [hq] at hn; cases hn
  | some inf =>
    rw [hq] at hn
    have hs : inf.size = n + 1 := by simpa using hn
    have he : ∀ d, (Op.equalIn (d + 1) t (ptr b o) (ptr b o)).run Pg w = .ok true w := fun d => by
      simp [Op.equalIn, run_underlying ht, sizeOf, typeInfo, hq, hs, run_sameAddr_same]
    have he : (Op.equal t (ptr b o) (ptr b o)).run Pg w = .ok true w := he 9999
    simp only [binOp]
    simp [he]
end
end Go.Sg
set_option maxRecDepth 100000
namespace Go.Sg
open Go Vc Go.Proofs
def m_kv_Store_Close (x0_ : Value) (h : Heap) (K : Kt) : Prop :=
 BxP t_P_kv_Store x0_ h fun x2 h1 =>
 AlP t_S_uint8 zt_S_uint8 h1 fun x4 h3 =>
 LdP x2 h3 fun x5 =>
 Ca f_kv_Store_count #[x5, (.func (.func f_kv_Store_Close_1) #[] #[x2, x4])] h3 fun x7 h6 =>
 LdP x4 h6 fun x8 =>
 K (.tuple #[x8, x7]) h6
theorem m_kv_Store_Close_ok {x0_ : Value} {h : Heap} {K : Kt} (hh : m_kv_Store_Close x0_ h K) : Ca f_kv_Store_Close #[x0_] h K := cv Tryz.func12 (by kernel_rfl) hh
def m_kv_Store_Range (x0_ x1_ x2_ x3_ : Value) (h : Heap) (K : Kt) : Prop :=
 BxP t_P_kv_Store x0_ h fun x2 h1 =>
 BxP t_string x1_ h1 fun x4 h3 =>
 BxP t_string x2_ h3 fun x6 h5 =>
 BxP t_int x3_ h5 fun x8 h7 =>
 AlP t_S_api_Pair zt_S_api_Pair h7 fun x10 h9 =>
 LdP x2 h9 fun x11 =>
 Ca f_kv_Store_count #[x11, (.func (.func f_kv_Store_Range_1) #[] #[x4, x6, x2, x8, x10])] h9 fun x13 h12 =>
 LdP x10 h12 fun x14 =>
 K (.tuple #[x14, x13]) h12
theorem m_kv_Store_Range_ok {x0_ x1_ x2_ x3_ : Value} {h : Heap} {K : Kt} (hh : m_kv_Store_Range x0_ x1_ x2_ x3_ h K) : Ca f_kv_Store_Range #[x0_, x1_, x2_, x3_] h K := cv Tryz.func30 (by kernel_rfl) hh
def m_kv_New (x0_ : Value) (h : Heap) (K : Kt) : Prop :=
 BxP t_api_Config x0_ h fun x2 h1 =>
 LdA 8 x2 h1 fun x3 =>
 Ca f_mount_Format #[x3] h1 fun x5 h4 =>
 ExP x5 0 fun x6 =>
 ExP x5 1 fun x7 =>
 BiP .neq x7 (.int .i64 0) fun x8 =>
 CdP x8
 (K (.tuple #[(.pointer none), x7]) h4)
 (Ca f_kv_begin #[x6] h4 fun x10 h9 =>
 K (.tuple #[x10, (.int .i64 0)]) h9)
theorem m_kv_New_ok {x0_ : Value} {h : Heap} {K : Kt} (hh : m_kv_New x0_ h K) : Ca f_kv_New #[x0_] h K := cv Tryz.func33 (by kernel_rfl) hh
def m_kv_Store_count_j11 (x5_ : Value) (h : Heap) (K : Kt) : Prop :=
 K x5_ h
def m_kv_Store_count_j67 (x0_ x8_ : Value) (h : Heap) (K : Kt) : Prop :=
 Fla 12 2 x0_ h fun x71 =>
 Fla 10 2 x0_ h fun x74 =>
 Ca f_kv_plus #[x71, x74] h fun x76 h75 =>
 True ∧ (NilP x0_ fun x77 =>
 FaP (some 12) x77 fun x78 =>
 StA 2 x78 x76 h75 fun h79 =>
 True ∧ (K x8_ h79))
def m_kv_Store_count_j50 (x0_ x8_ x49_ : Value) (h : Heap) (K : Kt) : Prop :=
 CdP x49_
 (∃ X51 : XS,
 NilP x0_ fun x52 =>
 FaP (some 10) x52 fun x53 =>
 LaX X51 2 x53 h fun x54 =>
 NilP x0_ fun x55 =>
 FaP (some 8) x55 fun x56 =>
 LdX X51 x56 h fun x57 =>
 Ca f_mount_Mount_Device #[x57] h fun x59 h58 =>
 Agr X51 h h58 ∧ (Ca f_dev_Device_Stats #[x59] h58 fun x61 h60 =>
 Agr X51 h h60 ∧ (Ca f_kv_plus #[x54, x61] h60 fun x63 h62 =>
 True ∧ (NilP x0_ fun x64 =>
 FaP (some 10) x64 fun x65 =>
 StA 2 x65 x63 h62 fun h66 =>
 True ∧ (m_kv_Store_count_j67 x0_ x8_ h66 K)))))
 (m_kv_Store_count_j67 x0_ x8_ h K)
def m_kv_Store_count (x0_ x1_ : Value) (h : Heap) (K : Kt) : Prop :=
 Ca f_kv_Store_open #[x0_] h fun x2 h1 =>
 BiP .neq x2 (.int .i64 0) fun x3 =>
 CdP x3
 (EqP .neq t_P_kv_Store (.tmp 13) (.const (.pointer none)) x0_ (.pointer none) h1 fun x6 h5 =>
 CdP x6
 (BlP bt_api_Stats [] fun x7 =>
 NilP x0_ fun x8 =>
 FaP (some 10) x8 fun x9 =>
 StA 2 x9 x7 h5 fun h10 =>
 m_kv_Store_count_j11 x2 h10 K)
 (m_kv_Store_count_j11 x2 h5 K))
 (Fl 8 x0_ h1 fun x14 =>
 Ca f_mount_Mount_Device #[x14] h1 fun x16 h15 =>
 Ca f_dev_Device_Stats #[x16] h15 fun x18 h17 =>
 AlP t_api_Stats zt_api_Stats h17 fun x20 h19 =>
 StA 2 x20 x18 h19 fun h21 =>
 CvH Pg x1_ #[] h21 fun x23 h22 =>
 ∃ X25 : XS,
 LaX X25 2 x20 h22 fun x26 =>
 Ca f_dev_Device_Stats #[x16] h22 fun x28 h27 =>
 Agr X25 h22 h27 ∧ (Ca f_kv_minus #[x28, x26] h27 fun x30 h29 =>
 True ∧ (NilP x0_ fun x31 =>
 FaP (some 10) x31 fun x32 =>
 StA 2 x32 x30 h29 fun h33 =>
 True ∧ (Fl 8 x0_ h33 fun x38 =>
 EqP .neq t_P_mount_Mount (.tmp 39) (.const (.pointer none)) x38 (.pointer none) h33 fun x40 h39 =>
 CdP x40
 (Fl 8 x0_ h39 fun x43 =>
 Ca f_mount_Mount_Device #[x43] h39 fun x45 h44 =>
 EqP .neq t_P_dev_Device (.tmp 46) (.tmp 47) x45 x16 h44 fun x47 h46 =>
 m_kv_Store_count_j50 x0_ x23 x47 h46 K)
 (m_kv_Store_count_j50 x0_ x23 (.bool false) h39 K)))))
theorem m_kv_Store_count_ok {x0_ x1_ : Value} {h : Heap} {K : Kt} (hh : m_kv_Store_count x0_ x1_ h K) : Ca f_kv_Store_count #[x0_, x1_] h K := cv Tryz.func37 (by kernel_rfl) hh
def m_kv_Store_Close_1 (x0_ x1_ : Value) (h : Heap) (K : Kt) : Prop :=
 LdP x0_ h fun x1 =>
 Fl 8 x1 h fun x4 =>
 Ca f_mount_Mount_Sync #[x4] h fun x6 h5 =>
 BiP .neq x6 (.int .i64 0) fun x7 =>
 CdP x7
 (K x6 h5)
 (LdP x0_ h5 fun x8 =>
 Fl 8 x8 h5 fun x11 =>
 Ca f_mount_Mount_Device #[x11] h5 fun x13 h12 =>
 Ca f_dev_Device_Image #[x13] h12 fun x15 h14 =>
 StP x1_ x15 h14 fun h16 =>
 LdP x0_ h16 fun x17 =>
 Fs 8 x17 (.pointer none) h16 fun h20 =>
 K (.int .i64 0) h20)
theorem m_kv_Store_Close_1_ok {x0_ x1_ : Value} {h : Heap} {K : Kt} (hh : m_kv_Store_Close_1 x0_ x1_ h K) : Ca f_kv_Store_Close_1 #[x0_, x1_] h K := cv Tryz.func38 (by kernel_rfl) hh
def m_kv_Store_Config (x0_ : Value) (h : Heap) (K : Kt) : Prop :=
 AlP t_api_Config zt_api_Config h fun x2 h1 =>
 EqP .eql t_P_kv_Store (.tmp 3) (.const (.pointer none)) x0_ (.pointer none) h1 fun x4 h3 =>
 CdP x4
 (BlP bt_api_Config [] fun x5 =>
 StA 8 x2 x5 h3 fun h6 =>
 LdA 8 x2 h6 fun x7 =>
 K x7 h6)
 (Fla 0 8 x0_ h3 fun x10 =>
 StA 8 x2 x10 h3 fun h11 =>
 LdA 8 x2 h11 fun x12 =>
 K x12 h11)
theorem m_kv_Store_Config_ok {x0_ : Value} {h : Heap} {K : Kt} (hh : m_kv_Store_Config x0_ h K) : Ca f_kv_Store_Config #[x0_] h K := cv Tryz.func48 (by kernel_rfl) hh
def m_kv_Open (x0_ x1_ : Value) (h : Heap) (K : Kt) : Prop :=
 Ca f_dev_From #[x0_, x1_] h fun x2 h1 =>
 ExP x2 0 fun x3 =>
 ExP x2 1 fun x4 =>
 BiP .neq x4 (.int .i64 0) fun x5 =>
 CdP x5
 (K (.tuple #[(.pointer none), x4]) h1)
 (Ca f_mount_Open #[x3] h1 fun x7 h6 =>
 ExP x7 0 fun x8 =>
 ExP x7 1 fun x9 =>
 BiP .neq x9 (.int .i64 0) fun x10 =>
 CdP x10
 (K (.tuple #[(.pointer none), x9]) h6)
 (Ca f_kv_begin #[x8] h6 fun x12 h11 =>
 K (.tuple #[x12, (.int .i64 0)]) h11))
theorem m_kv_Open_ok {x0_ x1_ : Value} {h : Heap} {K : Kt} (hh : m_kv_Open x0_ x1_ h K) : Ca f_kv_Open #[x0_, x1_] h K := cv Tryz.func49 (by kernel_rfl) hh
def m_kv_Store_Left (x0_ : Value) (h : Heap) (K : Kt) : Prop :=
 Ca f_kv_Store_open #[x0_] h fun x2 h1 =>
 BiP .neq x2 (.int .i64 0) fun x3 =>
 CdP x3
 (K (.int .i64 0) h1)
 (Fl 8 x0_ h1 fun x6 =>
 Ca f_mount_Mount_Tree #[x6] h1 fun x8 h7 =>
 Ca f_tree_Tree_Shelf #[x8] h7 fun x10 h9 =>
 Ca f_shelf_Shelf_Left #[x10] h9 fun x12 h11 =>
 K x12 h11)
theorem m_kv_Store_Left_ok {x0_ : Value} {h : Heap} {K : Kt} (hh : m_kv_Store_Left x0_ h K) : Ca f_kv_Store_Left #[x0_] h K := cv Tryz.func56 (by kernel_rfl) hh
def m_kv_Store_Range_1_j33 (x6_ : Value) (h : Heap) (K : Kt) : Prop :=
 K x6_ h
def m_kv_Store_Range_1 (x0_ x1_ x2_ x3_ x4_ : Value) (h : Heap) (K : Kt) : Prop :=
 LdP x0_ h fun x2 =>
 LdP x1_ h fun x3 =>
 Ca f_lex_Compare #[x2, x3] h fun x5 h4 =>
 BiP .lss x5 (.int .i64 0) fun x6 =>
 CdP x6
 (∃ X7 : XS,
 LdX X7 x2_ h4 fun x8 =>
 NilP x8 fun x9 =>
 FaP (some 8) x9 fun x10 =>
 LdX X7 x10 h4 fun x11 =>
 LdX X7 x2_ h4 fun x12 =>
 NilP x12 fun x13 =>
 FaP (some 8) x13 fun x14 =>
 LdX X7 x14 h4 fun x15 =>
 LdX X7 x0_ h4 fun x16 =>
 LdX X7 x1_ h4 fun x17 =>
 BlP bt_api_Span [(0, x16), (1, x17)] fun x18 =>
 LdX X7 x3_ h4 fun x19 =>
 Ca f_mount_Mount_Tree #[x11] h4 fun x21 h20 =>
 Agr X7 h4 h20 ∧ (Ca f_tree_Tree_Shelf #[x21] h20 fun x23 h22 =>
 Agr X7 h4 h22 ∧ (Ca f_mount_Mount_Tree #[x15] h22 fun x25 h24 =>
 Agr X7 h4 h24 ∧ (Ca f_tree_Tree_Root #[x25] h24 fun x27 h26 =>
 Agr X7 h4 h26 ∧ (Ca f_scan_Range #[x23, x27, x18, x19] h26 fun x29 h28 =>
 True ∧ (ExP x29 0 fun x30 =>
 ExP x29 1 fun x31 =>
 StP x4_ x30 h28 fun h32 =>
 True ∧ (m_kv_Store_Range_1_j33 x31 h32 K)))))))
 (m_kv_Store_Range_1_j33 (.int .i64 0) h4 K)
theorem m_kv_Store_Range_1_ok {x0_ x1_ x2_ x3_ x4_ : Value} {h : Heap} {K : Kt} (hh : m_kv_Store_Range_1 x0_ x1_ x2_ x3_ x4_ h K) : Ca f_kv_Store_Range_1 #[x0_, x1_, x2_, x3_, x4_] h K := cv Tryz.func57 (by kernel_rfl) hh
def m_kv_begin (x0_ : Value) (h : Heap) (K : Kt) : Prop :=
 Ca f_mount_Mount_Head #[x0_] h fun x2 h1 =>
 FdT (some 0) (.agg 8) x2 fun x3 =>
 BlP bt_kv_Store [(0, x3), (1, x0_), (2, (.bool true))] fun x4 =>
 BxP t_kv_Store x4 h1 fun x6 h5 =>
 K x6 h5
theorem m_kv_begin_ok {x0_ : Value} {h : Heap} {K : Kt} (hh : m_kv_begin x0_ h K) : Ca f_kv_begin #[x0_] h K := cv Tryz.func65 (by kernel_rfl) hh
def m_kv_Store_Put (x0_ x1_ x2_ : Value) (h : Heap) (K : Kt) : Prop :=
 BlP bt_api_Msg [(0, x1_), (2, x2_)] fun x1 =>
 Ca f_kv_Store_put #[x0_, x1] h fun x3 h2 =>
 K x3 h2
theorem m_kv_Store_Put_ok {x0_ x1_ x2_ : Value} {h : Heap} {K : Kt} (hh : m_kv_Store_Put x0_ x1_ x2_ h K) : Ca f_kv_Store_Put #[x0_, x1_, x2_] h K := cv Tryz.func66 (by kernel_rfl) hh
def m_kv_Store_Delete (x0_ x1_ : Value) (h : Heap) (K : Kt) : Prop :=
 BlP bt_api_Msg [(0, x1_), (1, (.bool true))] fun x1 =>
 Ca f_kv_Store_put #[x0_, x1] h fun x3 h2 =>
 K x3 h2
theorem m_kv_Store_Delete_ok {x0_ x1_ : Value} {h : Heap} {K : Kt} (hh : m_kv_Store_Delete x0_ x1_ h K) : Ca f_kv_Store_Delete #[x0_, x1_] h K := cv Tryz.func67 (by kernel_rfl) hh
def m_kv_Store_open_j17 (h : Heap) (K : Kt) : Prop :=
 K (.int .i64 0) h
def m_kv_Store_open_j11 (x0_ x3_ : Value) (h : Heap) (K : Kt) : Prop :=
 CdP x3_
 (K (.int .i64 1) h)
 (Fl 8 x0_ h fun x14 =>
 EqP .eql t_P_mount_Mount (.tmp 17) (.const (.pointer none)) x14 (.pointer none) h fun x16 h15 =>
 CdP x16
 (K (.int .i64 13) h15)
 (m_kv_Store_open_j17 h15 K))
def m_kv_Store_open (x0_ : Value) (h : Heap) (K : Kt) : Prop :=
 EqP .eql t_P_kv_Store (.tmp 4) (.const (.pointer none)) x0_ (.pointer none) h fun x4 h3 =>
 CdP x4
 (m_kv_Store_open_j11 x0_ (.bool true) h3 K)
 (Fl 9 x0_ h3 fun x8 =>
 UnP .not x8 fun x9 =>
 m_kv_Store_open_j11 x0_ x9 h3 K)
theorem m_kv_Store_open_ok {x0_ : Value} {h : Heap} {K : Kt} (hh : m_kv_Store_open x0_ h K) : Ca f_kv_Store_open #[x0_] h K := cv Tryz.func76 (by kernel_rfl) hh
def m_kv_minus (x0_ x1_ : Value) (h : Heap) (K : Kt) : Prop :=
 BxP t_api_Stats x0_ h fun x2 h1 =>
 BxP t_api_Stats x1_ h1 fun x4 h3 =>
 AlP t_api_Stats zt_api_Stats h3 fun x6 h5 =>
 Fv 0 x2 h5 fun x8 =>
 Fv 0 x4 h5 fun x10 =>
 BiP .sub x8 x10 fun x11 =>
 Fv 1 x2 h5 fun x13 =>
 Fv 1 x4 h5 fun x15 =>
 BiP .sub x13 x15 fun x16 =>
 BlP bt_api_Stats [(0, x11), (1, x16)] fun x17 =>
 StA 2 x6 x17 h5 fun h18 =>
 LdA 2 x6 h18 fun x19 =>
 K x19 h18
theorem m_kv_minus_ok {x0_ x1_ : Value} {h : Heap} {K : Kt} (hh : m_kv_minus x0_ x1_ h K) : Ca f_kv_minus #[x0_, x1_] h K := cv Tryz.func78 (by kernel_rfl) hh
def m_kv_plus (x0_ x1_ : Value) (h : Heap) (K : Kt) : Prop :=
 BxP t_api_Stats x0_ h fun x2 h1 =>
 BxP t_api_Stats x1_ h1 fun x4 h3 =>
 AlP t_api_Stats zt_api_Stats h3 fun x6 h5 =>
 Fv 0 x2 h5 fun x8 =>
 Fv 0 x4 h5 fun x10 =>
 BiP .add x8 x10 fun x11 =>
 Fv 1 x2 h5 fun x13 =>
 Fv 1 x4 h5 fun x15 =>
 BiP .add x13 x15 fun x16 =>
 BlP bt_api_Stats [(0, x11), (1, x16)] fun x17 =>
 StA 2 x6 x17 h5 fun h18 =>
 LdA 2 x6 h18 fun x19 =>
 K x19 h18
theorem m_kv_plus_ok {x0_ x1_ : Value} {h : Heap} {K : Kt} (hh : m_kv_plus x0_ x1_ h K) : Ca f_kv_plus #[x0_, x1_] h K := cv Tryz.func79 (by kernel_rfl) hh
def m_kv_Store_put (x0_ x1_ : Value) (h : Heap) (K : Kt) : Prop :=
 BxP t_P_kv_Store x0_ h fun x2 h1 =>
 BxP t_api_Msg x1_ h1 fun x4 h3 =>
 LdP x2 h3 fun x5 =>
 Ca f_kv_Store_count #[x5, (.func (.func f_kv_Store_put_1) #[] #[x2, x4])] h3 fun x7 h6 =>
 K x7 h6
theorem m_kv_Store_put_ok {x0_ x1_ : Value} {h : Heap} {K : Kt} (hh : m_kv_Store_put x0_ x1_ h K) : Ca f_kv_Store_put #[x0_, x1_] h K := cv Tryz.func115 (by kernel_rfl) hh
def m_kv_Store_put_1_j24 (x0_ x1_ : Value) (h : Heap) (K : Kt) : Prop :=
 ∃ X26 : XS,
 LdX X26 x0_ h fun x27 =>
 NilP x27 fun x28 =>
 FaP (some 8) x28 fun x29 =>
 LdX X26 x29 h fun x30 =>
 LaX X26 3 x1_ h fun x31 =>
 Ca f_mount_Mount_Tree #[x30] h fun x33 h32 =>
 Agr X26 h h32 ∧ (Ca f_tree_Tree_Put #[x33, x31] h32 fun x35 h34 =>
 True ∧ (K x35 h34))
def m_kv_Store_put_1_j23 (x0_ x1_ x21_ : Value) (h : Heap) (K : Kt) : Prop :=
 CdP x21_
 (K (.int .i64 2) h)
 (m_kv_Store_put_1_j24 x0_ x1_ h K)
def m_kv_Store_put_1 (x0_ x1_ : Value) (h : Heap) (K : Kt) : Prop :=
 LdP x0_ h fun x3 =>
 Fla 0 8 x3 h fun x6 =>
 Fv 0 x1_ h fun x8 =>
 Ca f_node_Key #[x6, x8] h fun x10 h9 =>
 True ∧ (UnP .not x10 fun x11 =>
 CdP x11
 (m_kv_Store_put_1_j23 x0_ x1_ (.bool true) h9 K)
 (Fv 2 x1_ h9 fun x14 =>
 LenP (some false) x14 fun x15 =>
 LdP x0_ h9 fun x16 =>
 NilP x16 fun x17 =>
 FaP (some 0) x17 fun x18 =>
 Fv 7 x18 h9 fun x20 =>
 BiP .gtr x15 x20 fun x21 =>
 m_kv_Store_put_1_j23 x0_ x1_ x21 h9 K))
theorem m_kv_Store_put_1_ok {x0_ x1_ : Value} {h : Heap} {K : Kt} (hh : m_kv_Store_put_1 x0_ x1_ h K) : Ca f_kv_Store_put_1 #[x0_, x1_] h K := cv Tryz.func165 (by kernel_rfl) hh
end Go.Sg
namespace Go.Sg
open Go Vc
def kvc (c : Config) (m : Value) (made : Bool) (a b d e : BitVec 64) : List Value := c.cs ++ [m, .bool made, w64 a, w64 b, w64 d, w64 e]
def Config.zero : Config := ⟨0, 0, 0, 0, 0, 0, 0, 0⟩
def kz : List Value := kvc .zero (.pointer none) false 0 0 0 0
def Nob (h : Heap) (s : Value) : Prop := s = .pointer none ∨ ∃ b, s = ptr b 0 ∧ Blk h b kz
def own1 (s : Value) : Nat → Prop := fun x => s = ptr x 0
section
variable {h h' : Heap} {K : Kt} {s : Value} {H : Heap → Prop}
theorem StA_at {b o n} {vs cs ds : List Value} (k : Blk h b cs) (ho : o + n ≤ cs.length) (hl : vs.length = n) (hv : vs.all one' = true) (hd : over cs o vs = ds) (r : ∀ h', h'.size = h.size → Ex (fun x => x = b) h h' → Blk h' b ds → H h') : StA n (ptr b o) (.agg vs.toArray) h H :=
  StA_blk k ho hl hv (r _ (size_hsets _ _ _ _) (hsets_ex rfl) (by have := hsets_blk vs o k; rwa [hd] at this))
theorem Nob.ext (n : Nob h s) (e : Ext h h') : Nob h' s := n.imp id fun ⟨b, h1, h2⟩ => ⟨b, h1, h2.ext e⟩
theorem Nob.ptr (n : Nob h s) : one' s = true := by rcases n with rfl | ⟨b, rfl, _⟩ <;> rfl
theorem Nob.lt (n : Nob h s) {x : Nat} (hx : own1 s x) : x < h.size := by
  rcases n with rfl | ⟨b, rfl, k⟩
  · cases hx
  · cases hx; exact k.lt
theorem own1_new {b : Nat} (n : Nob h s) (hb : h.size ≤ b) : ¬ own1 s b := fun hx => by have := n.lt hx; omega
theorem c_kv_open_nob (n : Nob h s) (r : K (int 1) h) : Ca f_kv_Store_open #[s] h K := by
  rcases n with rfl | ⟨b, rfl, k⟩
  · refine m_kv_Store_open_ok (eq_ptr_nil (by kernel_rfl) ?_)
    exact r
  · refine m_kv_Store_open_ok (eq_ptr_nil (by kernel_rfl) (fl (v := .bool false) (by rw [k.get]; rfl) ?_))
    rw [UnP_not]
    exact r
theorem c_kv_count_nob {f : Value} (n : Nob h s) (r : ∀ h', Nob h' s → Ex (own1 s) h h' → K (int 1) h') : Ca f_kv_Store_count #[s, f] h K := by
  refine m_kv_Store_count_ok (c_kv_open_nob n ?_)
  rw [BiP_neq]
  refine cdp (fun _ => ?_) fun h => absurd (by decide) h
  rcases n with rfl | ⟨b, rfl, k⟩
  · refine neq_ptr_nil (by kernel_rfl) ?_
    exact r h (.inl rfl) (Ex.refl _ _)
  · refine neq_ptr_nil (by kernel_rfl) ?_
    refine ⟨_, #[w64 0, w64 0], rfl, rfl, ?_⟩
    show NilP (ptr b 0) _
    rw [NilP_ptr, FaP_ptr]
    refine StA_at (vs := [w64 0, w64 0]) k (by decide) rfl rfl (ds := kz) rfl fun h1 hs1 e1 k1 => ?_
    exact r h1 (.inr ⟨b, rfl, k1⟩) (e1.mono fun x _ hx => by subst hx; rfl)
theorem Nob.cells (n : Nob h s) : s.cells.toList = [s] := by rcases n with rfl | ⟨b, rfl, k⟩ <;> rfl
theorem c_kv_Range_nob {lo hi : Str} {m : Int} (n : Nob h s) (r : ∀ h', Nob h' s → Ex (own1 s) h h' → K (.tuple #[.slice none 0 0, int 1]) h') : Ca f_kv_Store_Range #[s, str lo, str hi, int m] h K := by
  refine m_kv_Store_Range_ok (bx (fun b1 h1 e1 hb1 k1 _ => bx fun b2 h2 e2 hb2 k2 _ => bx fun b3 h3 e3 hb3 k3 _ => bx fun b4 h4 e4 hb4 k4 _ => al fun b5 h5 e5 hb5 k5 _ => ?_))
  rw [n.cells] at k1
  have e15 : Ext h1 h5 := ((e2.trans e3).trans e4).trans e5
  have k1 := k1.ext e15
  have hl := (((e1.trans e2).trans e3).trans e4).le
  refine ld (v := s) (by rw [k1.get]; rfl) ?_
  refine c_kv_count_nob ((n.ext e1).ext e15) fun h6 n6 e6 => ?_
  have k5 := k5.ex e6 (own1_new n (by omega))
  refine ld (v := .slice none 0 0) (by rw [k5.get]; rfl) ?_
  exact r h6 n6 ((Ex.toM (e1.trans e15)).trans e6)
theorem c_kv_Config_nob (n : Nob h s) (r : ∀ h', Ext h h' → K Config.zero.v h') : Ca f_kv_Store_Config #[s] h K := by
  refine m_kv_Store_Config_ok (al (fun b1 h1 e1 hb1 k1 _ => ?_))
  rcases n with rfl | ⟨b, rfl, k⟩
  · refine eq_ptr_nil (by kernel_rfl) ?_
    refine ⟨_, Config.zero.cs.toArray, rfl, rfl, ?_⟩
    refine StA_b (vs := Config.zero.cs) k1 rfl rfl rfl fun h2 _ e2 k2 => ?_
    refine (LdA_b k2 rfl).2 (r h2 ?_)
    exact e1.andThen e2 fun x hx he => by omega
  · refine eq_ptr_nil (by kernel_rfl) ?_
    have k := k.ext e1
    unfold Fla
    rw [NilP_ptr, FaP_ptr]
    show CdP (.bool false) _ _
    rw [CdP_false]
    refine LdA_at (cs := Config.zero.cs) (fun j v hj => ?_) rfl ?_
    · rw [k.get]
      have hlt := (List.getElem?_eq_some_iff.1 hj).1
      unfold kz kvc
      rw [Nat.zero_add, List.getElem?_append_left hlt]; exact hj
    refine StA_b (vs := Config.zero.cs) k1 rfl rfl rfl fun h2 _ e2 k2 => ?_
    refine (LdA_b k2 rfl).2 (r h2 ?_)
    exact e1.andThen e2 fun x hx he => by omega
end
end Go.Sg
namespace Go.Sg
open Go Vc
section
variable {lab lab' : Nat → Nat} {h h' : Heap} {K : Kt} {s mp tp sp dp root : Nat} {c : Config} {D D' : List (List UInt8)} {V V' : Nat → List UInt8} {S : Nat → Bool} {rd wr rd' wr' x y u v a b d e : BitVec 64} {ps : List Pair}
theorem c_kv_open (k : Blk h s (kvc c (ptr mp 0) true a b d e)) (r : K (int 0) h) : Ca f_kv_Store_open #[ptr s 0] h K := by
  refine m_kv_Store_open_ok (eq_ptr_nil (by kernel_rfl) (fl (v := .bool true) (by rw [k.get]; rfl) ?_))
  rw [UnP_not]
  refine fl (v := ptr mp 0) (by rw [k.get]; rfl) ?_
  exact eq_ptr_nil (by kernel_rfl) r
theorem c_kv_open_closed (k : Blk h s (kvc c (.pointer none) true a b d e)) (r : K (int 13) h) : Ca f_kv_Store_open #[ptr s 0] h K := by
  refine m_kv_Store_open_ok (eq_ptr_nil (by kernel_rfl) (fl (v := .bool true) (by rw [k.get]; rfl) ?_))
  rw [UnP_not]
  refine fl (v := .pointer none) (by rw [k.get]; rfl) ?_
  exact eq_ptr_nil (by kernel_rfl) r
theorem c_kv_plus (r : ∀ h', Ext h h' → K (.agg #[w64 (x + u), w64 (y + v)]) h') : Ca f_kv_plus #[.agg #[w64 x, w64 y], .agg #[w64 u, w64 v]] h K := by
  refine m_kv_plus_ok (bxa (cs := [w64 x, w64 y]) fun b1 h1 e1 hb1 k1 _ => bxa (cs := [w64 u, w64 v]) fun b2 h2 e2 hb2 k2 _ => ala (cs := [w64 0, w64 0]) fun b3 h3 e3 hb3 k3 _ => ?_)
  have k1 := (k1.ext e2).ext e3
  have k2 := k2.ext e3
  refine fv (v := w64 x) (by rw [k1.get]; rfl) (fv (v := w64 u) (by rw [k2.get]; rfl) ?_)
  rw [bv_add]
  refine fv (v := w64 y) (by rw [k1.get]; rfl) (fv (v := w64 v) (by rw [k2.get]; rfl) ?_)
  rw [bv_add]
  refine ⟨_, #[w64 (x + u), w64 (y + v)], rfl, rfl, ?_⟩
  refine StA_b (vs := [w64 (x + u), w64 (y + v)]) k3 rfl rfl rfl fun h4 _ e4 k4 => ?_
  refine (LdA_b k4 rfl).2 (r h4 ?_)
  exact ((e1.trans e2).trans e3).andThen e4 fun z hz he => by have := (e1.trans e2).le; omega
theorem c_kv_minus (r : ∀ h', Ext h h' → K (.agg #[w64 (x - u), w64 (y - v)]) h') : Ca f_kv_minus #[.agg #[w64 x, w64 y], .agg #[w64 u, w64 v]] h K := by
  refine m_kv_minus_ok (bxa (cs := [w64 x, w64 y]) fun b1 h1 e1 hb1 k1 _ => bxa (cs := [w64 u, w64 v]) fun b2 h2 e2 hb2 k2 _ => ala (cs := [w64 0, w64 0]) fun b3 h3 e3 hb3 k3 _ => ?_)
  have k1 := (k1.ext e2).ext e3
  have k2 := k2.ext e3
  refine fv (v := w64 x) (by rw [k1.get]; rfl) (fv (v := w64 u) (by rw [k2.get]; rfl) ?_)
  rw [bv_sub]
  refine fv (v := w64 y) (by rw [k1.get]; rfl) (fv (v := w64 v) (by rw [k2.get]; rfl) ?_)
  rw [bv_sub]
  refine ⟨_, #[w64 (x - u), w64 (y - v)], rfl, rfl, ?_⟩
  refine StA_b (vs := [w64 (x - u), w64 (y - v)]) k3 rfl rfl rfl fun h4 _ e4 k4 => ?_
  refine (LdA_b k4 rfl).2 (r h4 ?_)
  exact ((e1.trans e2).trans e3).andThen e4 fun z hz he => by have := (e1.trans e2).le; omega
theorem c_mount_Device' (k : Blk h mp [ptr dp 0, ptr tp 0]) (r : K (ptr dp 0) h) : Ca f_mount_Mount_Device #[ptr mp 0] h K := by
  refine m_mount_Mount_Device_ok (c_mount_none k ?_)
  rw [CdP_false]
  exact fl (by rw [k.get]; rfl) r
theorem c_kv_count {f : Value} {dg n : Nat} (k : Blk h s (kvc c (ptr mp 0) true a b d e)) (km : Blk h mp [ptr dp 0, ptr tp 0]) (kd : Dv dg dp h n D rd wr) (hne : mp ≠ s) (l15 : lab s = 15)
    (r : ∀ h1 Q, Ext h h1 → (∀ ev h2 m2 dg' n' D' rd' wr', Blk h2 s (kvc c m2 true a b d e) → (m2 = .pointer none ∨ m2 = ptr mp 0 ∧ Blk h2 mp [ptr dp 0, ptr tp 0]) → Dv dg' dp h2 n' D' rd' wr' → dp ≠ s ∧ dg' ≠ s → Ex (Lb (frl lab h) 1 99) h1 h2 →
      (∀ h3 a' b' d' e', Ex (fun x => x = s) h2 h3 → Blk h3 s (kvc c m2 true a' b' d' e') → K ev h3) → Q ev h2) → CvH Pg f #[] h1 Q) :
    Ca f_kv_Store_count #[ptr s 0, f] h K := by
  refine m_kv_Store_count_ok (c_kv_open k ?_)
  rw [BiP_neq]
  refine cdp (fun h => absurd rfl h) fun _ => ?_
  refine fl (v := ptr mp 0) (by rw [k.get]; rfl) (c_mount_Device' km ?_)
  refine c_dev_Stats kd fun h1 e1 => ?_
  refine alst (vs := [w64 rd, w64 wr]) rfl rfl rfl fun b2 h2 e2 hb2 k2 _ => ?_
  have e12 := e1.trans e2
  have hl1 := e1.le
  refine r h2 _ e12 fun ev h3 m2 dg' n' D' rd' wr' ks km2 kd' hds e3 hK => ?_
  have k2 := k2.ex e3 (nLb (frl_new (by omega)) (by decide))
  have hb2l := k2.lt
  have hsl := k.lt
  have hml := km.lt
  have hb2s : b2 ≠ s := by omega
  refine ⟨fun b' _ => b' = b2, ?_⟩
  refine LaX_b k2 rfl (fun _ => rfl) ?_
  refine c_dev_Stats kd' fun h4 e4 => ⟨agr_b e4 k2.lt id, ?_⟩
  refine c_kv_minus fun h5 e5 => ⟨trivial, ?_⟩
  have e35 := e4.trans e5
  rw [NilP_ptr, FaP_ptr]
  refine StA_at (vs := [w64 _, w64 _]) (ks.ext e35) (show 0 + 10 + 2 ≤ 14 by decide) rfl rfl (ds := kvc c m2 true (rd' - rd) (wr' - wr) d e) rfl fun h6 hs6 e6 ks6 => ⟨trivial, ?_⟩
  have e36 : Ex (fun x => x = s) h3 h6 := (Ex.toM e35).trans e6
  have fin : ∀ (h' : Heap) (Q : Heap → Prop), Ex (fun x => x = s) h6 h' → Blk h' s (kvc c m2 true (rd' - rd) (wr' - wr) d e) → (m_kv_Store_count_j67 (ptr s 0) ev h' K) := fun h' _ e7 k7 => by
    unfold m_kv_Store_count_j67 Fla
    rw [NilP_ptr, FaP_ptr]
    refine LdA_at (cs := [w64 d, w64 e]) (fun j v hj => ?_) rfl ?_
    · rw [k7.get]
      match j, hj with
      | 0, hj => exact hj
      | 1, hj => exact hj
    rw [NilP_ptr, FaP_ptr]
    refine LdA_at (cs := [w64 (rd' - rd), w64 (wr' - wr)]) (fun j v hj => ?_) rfl ?_
    · rw [k7.get]
      match j, hj with
      | 0, hj => exact hj
      | 1, hj => exact hj
    refine c_kv_plus fun h8 e8 => ⟨trivial, ?_⟩
    rw [NilP_ptr, FaP_ptr]
    refine StA_at (vs := [w64 _, w64 _]) (k7.ext e8) (show 0 + 12 + 2 ≤ 14 by decide) rfl rfl (ds := kvc c m2 true (rd' - rd) (wr' - wr) (d + (rd' - rd)) (e + (wr' - wr))) rfl fun h9 hs9 e9 ks9 => ⟨trivial, ?_⟩
    exact hK h9 _ _ _ _ (((e36.trans e7).trans (Ex.toM e8)).trans e9) ks9
  have hm2 : hget h6 s (0 + 8) = some m2 := by rw [ks6.get]; rfl
  rcases km2 with rfl | ⟨rfl, km2⟩
  · refine fl (v := .pointer none) hm2 ?_
    refine neq_ptr_nil (by kernel_rfl) ?_
    exact fin h6 (fun _ => True) (Ex.refl _ _) ks6
  · refine fl (v := ptr mp 0) hm2 ?_
    refine neq_ptr_nil (by kernel_rfl) ?_
    show CdP (.bool true) _ _
    rw [CdP_true]
    refine fl (v := ptr mp 0) hm2 ?_
    have km6 := (km2.ext e35).ex e6 (by exact hne)
    refine c_mount_Device' km6 ?_
    refine neq_ptr_same (n := 3) (by kernel_rfl) (by kernel_rfl) ?_
    unfold m_kv_Store_count_j50
    rw [CdP_false]
    exact fin h6 (fun _ => True) (Ex.refl _ _) ks6
end
end Go.Sg
namespace Go.Sg
open Go Vc
structure KvS (lab : Nat → Nat) (h : Heap) (s : Nat) (c : Config) (ps : List Pair) : Prop where
  out : ∃ mp tp sp dp D V S root rd wr a b d e, Blk h s (kvc c (ptr mp 0) true a b d e) ∧ MtS lab h mp tp sp dp c D V S root ps rd wr ∧ lab s = 15
structure KvX (h : Heap) (s : Nat) (c : Config) : Prop where
  out : ∃ a b d e, Blk h s (kvc c (.pointer none) true a b d e)
section
variable {lab lab' : Nat → Nat} {h h' : Heap} {K : Kt} {s mp tp sp dp root : Nat} {c : Config} {D D' : List (List UInt8)} {V V' : Nat → List UInt8} {S : Nat → Bool} {rd wr rd' wr' a b d e : BitVec 64} {ps : List Pair} {key : Str}
theorem KvS.ext (k : KvS lab h s c ps) (e : Ext h h') : KvS lab h' s c ps := by
  obtain ⟨mp, tp, sp, dp, D, V, S, root, rd, wr, a, b, d, e', k1, k2, k3⟩ := k
  exact ⟨mp, tp, sp, dp, D, V, S, root, rd, wr, a, b, d, e', k1.ext e, k2.ext e, k3⟩
theorem KvS.lat (k : KvS lab h s c ps) (l : Lat lab lab' h) : KvS lab' h s c ps := by
  obtain ⟨mp, tp, sp, dp, D, V, S, root, rd, wr, a, b, d, e', k1, k2, k3⟩ := k
  exact ⟨mp, tp, sp, dp, D, V, S, root, rd, wr, a, b, d, e', k1, k2.lat l, (l _ k1.lt).trans k3⟩
theorem KvX.ext (k : KvX h s c) (e : Ext h h') : KvX h' s c := by
  obtain ⟨a, b, d, e', k1⟩ := k
  exact ⟨a, b, d, e', k1.ext e⟩
theorem MtS.ds (k : MtS lab h mp tp sp dp c D V S root ps rd wr) (l15 : lab s = 15) : ∃ dg, Dv dg dp h c.bytes.toNat D rd wr ∧ dp ≠ s ∧ dg ≠ s := by
  obtain ⟨dg, q1, q2, q3⟩ := k.tr.sh.dv
  exact ⟨dg, q1, fun h => by subst h; omega, fun h => by subst h; omega⟩
theorem MtS.ne (k : MtS lab h mp tp sp dp c D V S root ps rd wr) (l15 : lab s = 15) : mp ≠ s := fun h => by
  have := k.l14; subst h; omega
theorem Kvc.cfg {m : Value} {md : Bool} (k : Blk h s (kvc c m md a b d e)) {R : Value → Prop} (r : R c.v) : Fla 0 8 (ptr s 0) h R := by
  unfold Fla
  rw [NilP_ptr, FaP_ptr]
  refine LdA_at (cs := c.cs) (fun j v hj => ?_) rfl r
  rw [k.get]
  have hlt := (List.getElem?_eq_some_iff.1 hj).1
  unfold kvc
  rw [Nat.zero_add, List.getElem?_append_left hlt]; exact hj
theorem c_kv_begin (k : MtS lab h mp tp sp dp c D V S root ps rd wr) (r : ∀ lab' s h', Lat lab lab' h → KvS lab' h' s c ps → Ext h h' → h.size ≤ s → K (ptr s 0) h') : Ca f_kv_begin #[ptr mp 0] h K := by
  refine m_kv_begin_ok (c_mount_Head k fun h1 e1 => ?_)
  refine ⟨_, rfl, ?_⟩
  refine ⟨_, (kvc c (ptr mp 0) true 0 0 0 0).toArray, rfl, by kernel_rfl, ?_⟩
  refine bxa (cs := kvc c (ptr mp 0) true 0 0 0 0) fun s h2 e2 hs k2 _ => ?_
  let l2 := upd (frl lab h1) s 15
  have a2 : Lat lab l2 h1 := fun x hx => (upd_ne (by omega)).trans (frl_lat lab h1 x hx)
  have hl := e1.le
  exact r l2 s h2 (fun x hx => a2 x (by omega)) ⟨mp, tp, sp, dp, D, V, S, root, rd, wr, 0, 0, 0, 0, k2, ((k.ext e1).lat a2).ext e2, upd_same⟩ (e1.trans e2) (by omega)
theorem c_kv_New (hr : c.Right) (ho : lok c []) (hnf : c.frames.toNat ≤ 12) (h24 : c.blocks.toNat * c.bytes.toNat ≤ 2 ^ 24) (t : Tz h)
    (r : ∀ lab' s h', KvS lab' h' s c [] → (∀ b, b < h.size → lab' b = 0) → Ext h h' → h.size ≤ s → K (.tuple #[ptr s 0, int 0]) h') : Ca f_kv_New #[c.v] h K := by
  refine m_kv_New_ok (bxa (cs := c.cs) fun b h1 e1 hb1 kb _ => ?_)
  refine (LdA_b kb rfl).2 (c_mount_Format hr ho hnf h24 (t.ext e1) fun l2 h2 mp tp sp dp D V S root rd wr m2 z2 e2 hdp => ?_)
  rw [ex20, ex21, BiP_neq]
  refine cdp (fun h => absurd rfl h) fun _ => ?_
  refine c_kv_begin m2 fun l3 s h3 a3 k3 e3 hs => ?_
  have hl1 := e1.le
  have hl2 := e2.le
  exact r l3 s h3 k3 (fun x hx => (a3 x (by omega)).trans (z2 x (by omega))) ((e1.trans e2).trans e3) (by omega)
theorem c_kv_put {m : Msg} (k : KvS lab h s c ps) (hk : keyOk c m.key = true) (hv : (m.val.length : Int) ≤ c.val) (hd : m.del = true → m.val = []) (ho : lok c (applyP ps m))
    (r : ∀ lab' h', Lat lab lab' h → KvS lab' h' s c (applyP ps m) → Ex (Lb lab 1 15) h h' → K (int 0) h') : Ca f_kv_Store_put #[ptr s 0, m.v] h K := by
  refine m_kv_Store_put_ok (bx (v := ptr s 0) (fun b1 h1 e1 hb1 k1 _ => bxa (cs := [str m.key, .bool m.del, str m.val]) fun b2 h2 e2 hb2 k2 _ => ?_))
  have k1 := k1.ext e2
  have e12 := e1.trans e2
  have hl1 := e1.le
  refine ld (v := ptr s 0) (by rw [k1.get]; rfl) ?_
  have a0 := frl_lat lab h
  have kk := (k.lat a0).ext e12
  obtain ⟨mp, tp, sp, dp, D, V, S, root, rd, wr, a, b, d, e, ks, km, l15⟩ := kk
  obtain ⟨dg, kd, _, _⟩ := km.ds l15
  refine c_kv_count ks km.blk kd (km.ne l15) l15 fun h3 Q e3 hQ => cvhc (by kernel_rfl) ?_
  show Ca f_kv_Store_put_1 #[ptr b1 0, ptr b2 0] h3 Q
  let l3 := frl (frl lab h) h2
  have a3 : Lat (frl lab h) l3 h2 := frl_lat _ _
  have km3 := (km.lat a3).ext e3
  have ks3 := ks.ext e3
  have k13 := k1.ext e3
  have k23 := k2.ext e3
  refine m_kv_Store_put_1_ok (ld (v := ptr s 0) (by rw [k13.get]; rfl) (Kvc.cfg ks3 ?_))
  refine fv (v := str m.key) (by rw [k23.get]; rfl) ?_
  refine c_node_Key (c := c) fun h4 e4 => ⟨trivial, ?_⟩
  have km4 := km3.ext e4
  have ks4 := ks3.ext e4
  have k14 := k13.ext e4
  have k24 := k23.ext e4
  rw [hk, UnP_not]
  refine cd (fun h => absurd h (by decide)) fun _ => ?_
  refine fv (v := str m.val) (by rw [k24.get]; rfl) ?_
  rw [LenP_str]
  refine ld (v := ptr s 0) (by rw [k14.get]; rfl) ?_
  rw [NilP_ptr, FaP_ptr]
  refine fv (v := int c.val) (by rw [ks4.get]; rfl) ?_
  rw [BiP_gtr]
  unfold m_kv_Store_put_1_j23
  refine cdp (fun h => absurd h (by omega)) fun _ => ?_
  unfold m_kv_Store_put_1_j24
  refine ⟨fun b' _ => b' = b1 ∨ b' = b2 ∨ b' = s, ?_⟩
  refine LdX_b k14 (v := ptr s 0) rfl (fun _ => .inl rfl) ?_
  rw [NilP_ptr, FaP_ptr]
  refine LdX_b ks4 (v := ptr mp 0) rfl (fun _ => .inr (.inr rfl)) ?_
  refine LaX_b k24 rfl (fun _ => .inr (.inl rfl)) ?_
  refine c_mount_Tree km4 ⟨fun b o _ => rfl, ?_⟩
  have l15' : l3 s = 15 := (a3 _ ks.lt).trans l15
  have l14' : l3 mp = 14 := km3.l14
  refine c_tree_Put km4.tr hk hv hd ho fun l5 h5 D5 V5 rd5 wr5 a5 tr5 e5 => ⟨trivial, ?_⟩
  have ks5 := ks4.ex e5 (nLb l15' (by decide))
  have kb5 := km4.blk.ex e5 (nLb l14' (by decide))
  have l155 : l5 s = 15 := (a5 _ ks4.lt).trans l15'
  have km5 : MtS l5 h5 mp tp sp dp c D5 V5 S root (applyP ps m) rd5 wr5 := ⟨kb5, tr5, (a5 _ km4.blk.lt).trans l14'⟩
  obtain ⟨dg5, kd5, n1, n2⟩ := km5.ds l155
  have e35 : Ex (Lb l3 1 99) h3 h5 := (Ex.toM e4).trans (Lb.wide e5 (by decide) (by decide))
  refine hQ (int 0) h5 (ptr mp 0) dg5 _ _ _ _ ks5 (.inr ⟨rfl, kb5⟩) kd5 ⟨n1, n2⟩ e35 fun h6 a' b' d' e' e6 ks6 => ?_
  have e6' : Ex (Lb l5 15 15) h5 h6 := one_lb e6 ⟨by rw [l155]; decide, by rw [l155]; decide⟩
  have a05 : Lat lab l5 h := (a0.trans a3 e12.le).trans a5 (by have := (e12.trans (e3.trans e4)).le; omega)
  refine r l5 h6 a05 ⟨mp, tp, sp, dp, D5, V5, S, root, rd5, wr5, a', b', d', e', ks6, km5.ex15 e6' (by decide), l155⟩ ?_
  have e04 : Ext h h4 := e12.trans (e3.trans e4)
  have a03 : Lat lab l3 h := a0.trans a3 e12.le
  have e46 : Ex (Lb l3 1 15) h4 h6 := a5.ex (Lb.wide e5 (by decide) (by decide)) (Lb.wide e6' (by decide) (by decide))
  exact a03.ex (Ex.toM e04) e46
theorem c_kv_Put {val : Str} (k : KvS lab h s c ps) (hk : keyOk c key = true) (hv : (val.length : Int) ≤ c.val) (ho : lok c (applyP ps ⟨key, false, val⟩))
    (r : ∀ lab' h', Lat lab lab' h → KvS lab' h' s c (applyP ps ⟨key, false, val⟩) → Ex (Lb lab 1 15) h h' → K (int 0) h') : Ca f_kv_Store_Put #[ptr s 0, str key, str val] h K :=
  m_kv_Store_Put_ok ⟨_, #[str key, .bool false, str val], rfl, rfl, c_kv_put (m := ⟨key, false, val⟩) k hk hv (fun h => by cases h) ho r⟩
theorem c_kv_Delete (k : KvS lab h s c ps) (hk : keyOk c key = true) (h0 : 0 ≤ c.val) (ho : lok c (applyP ps ⟨key, true, []⟩))
    (r : ∀ lab' h', Lat lab lab' h → KvS lab' h' s c (applyP ps ⟨key, true, []⟩) → Ex (Lb lab 1 15) h h' → K (int 0) h') : Ca f_kv_Store_Delete #[ptr s 0, str key] h K :=
  m_kv_Store_Delete_ok ⟨_, #[str key, .bool true, str []], rfl, rfl, c_kv_put (m := ⟨key, true, []⟩) k hk h0 (fun _ => rfl) ho r⟩
end
end Go.Sg
namespace Go.Sg
open Go Vc
theorem Ex.fresh {M N : Nat → Prop} {h1 h2 h3 : Heap} (a : Ex M h1 h2) (e : Ex N h2 h3) (hn : ∀ x, x < h1.size → ¬ N x) : Ex M h1 h3 :=
  ⟨Nat.le_trans a.le e.le, fun x hx hm => (e.eq x (Nat.lt_of_lt_of_le hx a.le) (hn x hx)).trans (a.eq x hx hm)⟩
end Go.Sg
namespace Go.Sg
open Go Vc
section
variable {lab lab' : Nat → Nat} {h h' : Heap} {K : Kt} {s mp tp sp dp root : Nat} {c : Config} {D D' : List (List UInt8)} {V V' : Nat → List UInt8} {S : Nat → Bool} {rd wr rd' wr' a b d e : BitVec 64} {ps : List Pair} {key : Str}
theorem c_kv_Close (k : KvS lab h s c ps) (hnf : c.frames.toNat ≤ 12)
    (r : ∀ x h' root D, KvX h' s c → ImgD c root ps D → 0 < root ∧ root < c.blocks.toNat ∧ D.length = c.blocks.toNat ∧ (∀ b ∈ D, b.length = c.bytes.toNat) → Ow h.size t_uint8 h' x D.flatten → Ex (Lb lab 1 15) h h' → K (.tuple #[x, int 0]) h') : Ca f_kv_Store_Close #[ptr s 0] h K := by
  refine m_kv_Store_Close_ok (bx (v := ptr s 0) (fun b1 h1 e1 hb1 k1 _ => al fun b3 h3 e3 hb3 k3 _ => ?_))
  have hl1 := e1.le
  have k1 := k1.ext e3
  have e03 := e1.trans e3
  refine ld (v := ptr s 0) (by rw [k1.get]; rfl) ?_
  let lab0 := loc lab h b3
  have a0 : Lat lab lab0 h := loc_lat lab (by omega)
  have q3 : lab0 b3 = 99 := loc_at
  have q1 : lab0 b1 = 0 := (upd_ne (by omega)).trans (frl_new (by omega))
  have kk := (k.lat a0).ext e03
  obtain ⟨mp, tp, sp, dp, D, V, S, root, rd, wr, a, b, d, e, ks, km, l15⟩ := kk
  obtain ⟨dg, kd, _, _⟩ := km.ds l15
  refine c_kv_count ks km.blk kd (km.ne l15) l15 fun h4 Q e4 hQ => cvhc (by kernel_rfl) ?_
  show Ca f_kv_Store_Close_1 #[ptr b1 0, ptr b3 0] h4 Q
  let l4 := frl lab0 h3
  have a4 : Lat lab0 l4 h3 := frl_lat _ _
  have km4 := (km.lat a4).ext e4
  have ks4 := ks.ext e4
  have k14 := k1.ext e4
  have k34 := k3.ext e4
  have l15' : l4 s = 15 := (a4 _ ks.lt).trans l15
  have q3' : l4 b3 = 99 := (a4 _ k3.lt).trans q3
  have q1' : l4 b1 = 0 := (a4 _ k1.lt).trans q1
  refine m_kv_Store_Close_1_ok (ld (v := ptr s 0) (by rw [k14.get]; rfl) ?_)
  refine fl (v := ptr mp 0) (by rw [ks4.get]; rfl) ?_
  refine c_mount_Sync km4 hnf fun l5 h5 D5 V5 wr5 a5 km5 img5 e5 => ?_
  rw [BiP_neq]
  refine cdp (fun h => absurd rfl h) fun _ => ?_
  have ks5 := ks4.ex e5 (nLb l15' (by decide))
  have k15 := k14.ex e5 (nLb q1' (by decide))
  have k35 := k34.ex e5 (nLb q3' (by decide))
  have l155 : l5 s = 15 := (a5 _ ks4.lt).trans l15'
  have q35 : l5 b3 = 99 := (a5 _ k34.lt).trans q3'
  refine ld (v := ptr s 0) (by rw [k15.get]; rfl) ?_
  refine fl (v := ptr mp 0) (by rw [ks5.get]; rfl) ?_
  obtain ⟨dg5, kd5, n51, n52⟩ := km5.ds l155
  refine c_mount_Device' km5.blk ?_
  refine c_dev_Image kd5 fun x h6 o6 e6 => ?_
  have ks6 := ks5.ext e6
  have k16 := k15.ext e6
  have k36 := k35.ext e6
  have km6 := km5.ext e6
  refine StP_b k36 (show 0 < 1 by decide) (by rw [one_eq]; exact o6.one) fun h7 _ e7 k7 => ?_
  have hb1l := k1.lt
  have hsl := k.out
  have hs0 : s < h.size := by
    obtain ⟨_, _, _, _, _, _, _, _, _, _, _, _, _, _, q, _⟩ := hsl; exact q.lt
  have hbs : b3 ≠ s := by omega
  have hb1s : b1 ≠ s := by omega
  have hb31 : b1 ≠ b3 := by omega
  have ks7 := ks6.ex e7 (fun h => hbs h.symm)
  have k17 := k16.ex e7 hb31
  refine ld (v := ptr s 0) (by rw [k17.get]; rfl) ?_
  refine Fs_b ks7 (show 0 + 8 < 14 by decide) rfl fun h8 _ e8 ks8 => ?_
  have ks8 : Blk h8 s (kvc c (.pointer none) true a b d e) := ks8
  have k78 := k7.ex e8 hbs
  have e7' : Ex (Lb l5 99 99) h6 h7 := one_lb e7 ⟨by rw [q35]; decide, by rw [q35]; decide⟩
  have e8' : Ex (Lb l5 15 15) h7 h8 := one_lb e8 ⟨by rw [l155]; decide, by rw [l155]; decide⟩
  obtain ⟨dg6, kd6, m1, m2⟩ := km6.ds l155
  have km7 := km6.ex15 e7' (by decide)
  have km8 := km7.ex15 e8' (by decide)
  obtain ⟨dg8, kd8, n1, n2⟩ := km8.ds l155
  have e58 : Ex (Lb l5 1 99) h5 h8 := ((Ex.toM e6).trans (Lb.wide e7' (by decide) (by decide))).trans (Lb.wide e8' (by decide) (by decide))
  have e48 : Ex (Lb l4 1 99) h4 h8 := a5.ex (Lb.wide e5 (by decide) (by decide)) e58
  refine hQ (int 0) h8 (.pointer none) dg8 _ _ _ _ ks8 (.inl rfl) kd8 ⟨n1, n2⟩ e48 fun h9 a' b' d' e' e9 ks9 => ?_
  have k39 := k78.ex e9 hbs
  refine ld (v := x) (by rw [k39.get]; rfl) ?_
  have hl05 : h.size ≤ h5.size := by have h1 := e03.le; have h2 := e4.le; have h3 := e5.le; omega
  have ob := o6.block
  have hb35 : b3 < h5.size := k35.lt
  have hs5 : s < h5.size := ks5.lt
  have o9 : Ow h5.size t_uint8 h9 x D5.flatten := ((o6.exb e7 fun y hy he => by have := ob y hy; omega).exb e8 fun y hy he => by have := ob y hy; omega).exb e9 fun y hy he => by have := ob y hy; omega
  refine r x h9 root D5 ⟨a', b', d', e', ks9⟩ img5 ⟨km5.tr.r0, km5.tr.sh.kl, km5.tr.sh.dl, kd5.all⟩ (o9.low hl05) ?_
  have a04 : Lat lab l4 h := a0.trans a4 e03.le
  have e04 : Ext h h4 := e03.trans e4
  have e05 : Ex (Lb lab 1 15) h h5 := a04.ex (Ex.toM e04) (Lb.wide e5 (by decide) (by decide))
  have e06 : Ex (Lb lab 1 15) h h6 := e05.trans (Ex.toM e6)
  have e07 : Ex (Lb lab 1 15) h h7 := e06.fresh e7 fun y hy he => by omega
  have l0 : lab s = 15 := by rw [← a0 s hs0]; exact l15
  have e08 : Ex (Lb lab 1 15) h h8 := e07.trans (e8.mono fun y _ he => by subst he; exact ⟨by rw [l0]; decide, by rw [l0]; decide⟩)
  exact e08.trans (e9.mono fun y _ he => by subst he; exact ⟨by rw [l0]; decide, by rw [l0]; decide⟩)
theorem c_kv_count_closed {f : Value} (k : KvX h s c) (r : ∀ h', KvX h' s c → Ex (fun x => x = s) h h' → K (int 13) h') : Ca f_kv_Store_count #[ptr s 0, f] h K := by
  obtain ⟨a, b, d, e, k1⟩ := k
  refine m_kv_Store_count_ok (c_kv_open_closed k1 ?_)
  rw [BiP_neq]
  refine cdp (fun _ => ?_) fun h => absurd (by decide) h
  refine neq_ptr_nil (by kernel_rfl) ?_
  refine ⟨_, #[w64 0, w64 0], rfl, rfl, ?_⟩
  show NilP (ptr s 0) _
  rw [NilP_ptr, FaP_ptr]
  refine StA_at (vs := [w64 0, w64 0]) k1 (show 0 + 10 + 2 ≤ 14 by decide) rfl rfl (ds := kvc c (.pointer none) true 0 0 d e) rfl fun h1 hs1 e1 k1 => ?_
  exact r h1 ⟨0, 0, d, e, k1⟩ e1
end
end Go.Sg
set_option maxRecDepth 100000
namespace Go.Sg
open Go Vc Go.Proofs
def m_law34_SqueezeNone_j116 (x4_ : Value) (h : Heap) (K : Kt) : Prop :=
 K x4_ h
def m_law34_SqueezeNone_j71 (x1_ x2_ : Value) (h : Heap) (K : Kt) : Prop :=
 BlP bt_api_Config [(0, (.int .i64 9)), (1, (.int .i64 200)), (2, (.int .i64 8)), (3, (.int .i64 8)), (4, (.int .i64 16)), (5, (.int .i64 16)), (6, (.int .i64 2)), (7, (.int .i64 1))] fun x72 =>
 Ca f_law34_Stored #[x72, (.slice none 0 0)] h fun x74 h73 =>
 ExP x74 0 fun x75 =>
 ExP x74 1 fun x76 =>
 EqP .eql t_P_kv_Store (.tmp 81) (.const (.pointer none)) x75 (.pointer none) h73 fun x78 h77 =>
 CdP x78
 (K (.bool false) h77)
 (Ca f_squeeze_Missing #[x75, (.pointer none)] h77 fun x80 h79 =>
 ExP x80 0 fun x81 =>
 ExP x80 1 fun x82 =>
 Ca f_kv_Store_Close #[x75] h79 fun x84 h83 =>
 Ca f_squeeze_Pairs #[x75] h83 fun x86 h85 =>
 ExP x86 0 fun x87 =>
 ExP x86 1 fun x88 =>
 LdA 8 x2_ h85 fun x89 =>
 Ca f_squeeze_Squeeze #[x75, x89, x1_] h85 fun x91 h90 =>
 ExP x91 0 fun x92 =>
 ExP x91 1 fun x93 =>
 LenP (some true) x81 fun x95 =>
 BiP .eql x95 (.int .i64 0) fun x96 =>
 CdP x96
 (BiP .eql x82 (.int .i64 1) fun x97 =>
 CdP x97
 (BiP .eql x88 (.int .i64 13) fun x99 =>
 CdP x99
 (BiP .eql x93 (.int .i64 13) fun x101 =>
 CdP x101
 (Ca f_law34_awake #[] h90 fun x104 h103 =>
 m_law34_SqueezeNone_j116 x104 h103 K)
 (m_law34_SqueezeNone_j116 (.bool false) h90 K))
 (m_law34_SqueezeNone_j116 (.bool false) h90 K))
 (m_law34_SqueezeNone_j116 (.bool false) h90 K))
 (m_law34_SqueezeNone_j116 (.bool false) h90 K))
def m_law34_SqueezeNone_j70 (x1_ x2_ x75_ : Value) (h : Heap) (K : Kt) : Prop :=
 CdP x75_
 (K (.bool false) h)
 (m_law34_SqueezeNone_j71 x1_ x2_ h K)
def m_law34_SqueezeNone (x0_ x1_ : Value) (h : Heap) (K : Kt) : Prop :=
 BxP t_api_Config x0_ h fun x2 h1 =>
 Ca f_squeeze_Pairs #[(.pointer none)] h1 fun x4 h3 =>
 ExP x4 0 fun x5 =>
 ExP x4 1 fun x6 =>
 BlP bt_kv_Store [] fun x7 =>
 BxP t_kv_Store x7 h3 fun x9 h8 =>
 Ca f_squeeze_Pairs #[x9] h8 fun x11 h10 =>
 ExP x11 0 fun x12 =>
 ExP x11 1 fun x13 =>
 LdA 8 x2 h10 fun x14 =>
 Ca f_squeeze_Squeeze #[(.pointer none), x14, x1_] h10 fun x16 h15 =>
 ExP x16 0 fun x17 =>
 ExP x16 1 fun x18 =>
 LdA 8 x2 h15 fun x19 =>
 BlP bt_kv_Store [] fun x20 =>
 BxP t_kv_Store x20 h15 fun x22 h21 =>
 BsP st_S_P_kv_Store 1 [(0, x22)] h21 fun x24 h23 =>
 Ca f_squeeze_Union #[x19, x1_, x24] h23 fun x26 h25 =>
 ExP x26 0 fun x27 =>
 ExP x26 1 fun x28 =>
 LenP (some true) x5 fun x31 =>
 LenP (some true) x12 fun x32 =>
 BiP .add x31 x32 fun x33 =>
 BiP .neq x33 (.int .i64 0) fun x34 =>
 CdP x34
 (m_law34_SqueezeNone_j70 x1_ x2 (.bool true) h25 K)
 (BiP .neq x6 (.int .i64 1) fun x41 =>
 CdP x41
 (m_law34_SqueezeNone_j70 x1_ x2 (.bool true) h25 K)
 (BiP .neq x13 (.int .i64 1) fun x48 =>
 CdP x48
 (m_law34_SqueezeNone_j70 x1_ x2 (.bool true) h25 K)
 (EqP .neq t_P_kv_Store (.tmp 61) (.const (.pointer none)) x17 (.pointer none) h25 fun x55 h54 =>
 CdP x55
 (m_law34_SqueezeNone_j70 x1_ x2 (.bool true) h54 K)
 (BiP .neq x18 (.int .i64 1) fun x60 =>
 CdP x60
 (m_law34_SqueezeNone_j70 x1_ x2 (.bool true) h54 K)
 (EqP .neq t_P_kv_Store (.tmp 69) (.const (.pointer none)) x27 (.pointer none) h54 fun x65 h64 =>
 CdP x65
 (m_law34_SqueezeNone_j70 x1_ x2 (.bool true) h64 K)
 (BiP .neq x28 (.int .i64 1) fun x68 =>
 m_law34_SqueezeNone_j70 x1_ x2 x68 h64 K))))))
theorem m_law34_SqueezeNone_ok {x0_ x1_ : Value} {h : Heap} {K : Kt} (hh : m_law34_SqueezeNone x0_ x1_ h K) : Ca f_law34_SqueezeNone #[x0_, x1_] h K := cv Tryz.func5 (by kernel_rfl) hh
def m_law34_Stored_j45 (x1_ x2_ x4_ x5_ x6_ x8_ x9_ : Value) (h : Heap) (nx17 : Nt) (K : Kt) : Prop :=
 BiP .add x9_ (.int .i64 1) fun x46 =>
 nx17 [x4_, x5_, x8_, x46] h
def m_law34_Stored_j26 (x1_ x2_ x4_ x5_ x6_ x8_ x9_ : Value) (h : Heap) (nx17 : Nt) (K : Kt) : Prop :=
 Ea 4 x1_ x9_ h fun x29 =>
 Ca f_law27_Long #[x29] h fun x31 h30 =>
 CdP x31
 (K (.tuple #[(.pointer none), (.slice none 0 0)]) h30)
 (Ea 4 x1_ x9_ h30 fun x33 =>
 Ca f_law27_Step #[x6_, x33] h30 fun x35 h34 =>
 FdT (some 0) .one x35 fun x36 =>
 BiP .eql x36 (.int .i64 0) fun x37 =>
 CdP x37
 (LdA 8 x2_ h34 fun x38 =>
 Ea 4 x1_ x9_ h34 fun x40 =>
 Ca f_ref27_Do #[x38, x8_, x40] h34 fun x42 h41 =>
 True ∧ (ExP x42 0 fun x43 =>
 ExP x42 1 fun x44 =>
 m_law34_Stored_j45 x1_ x2_ x4_ x5_ x6_ x43 x9_ h41 nx17 K))
 (m_law34_Stored_j45 x1_ x2_ x4_ x5_ x6_ x8_ x9_ h34 nx17 K))
def m_law34_Stored_j47 (x6_ x8_ : Value) (h : Heap) (K : Kt) : Prop :=
 K (.tuple #[x6_, x8_]) h
def m_law34_Stored_j25 (x1_ x2_ x4_ x5_ x6_ x8_ x9_ x28_ : Value) (h : Heap) (nx17 : Nt) (K : Kt) : Prop :=
 CdP x28_
 (m_law34_Stored_j26 x1_ x2_ x4_ x5_ x6_ x8_ x9_ h nx17 K)
 (m_law34_Stored_j47 x6_ x8_ h K)
def m_law34_Stored_l16 (vs : List Value) (x1_ x2_ x6_ : Value) (h : Heap) (nx17 : Nt) (K : Kt) : Prop :=
 LenP (some true) x1_ fun x20 =>
 BiP .lss (gv vs 3) x20 fun x21 =>
 CdP x21
 (BiP .lss (gv vs 3) (.int .i64 200) fun x22 =>
 m_law34_Stored_j25 x1_ x2_ (gv vs 0) (gv vs 1) x6_ (gv vs 2) (gv vs 3) x22 h nx17 K)
 (m_law34_Stored_j25 x1_ x2_ (gv vs 0) (gv vs 1) x6_ (gv vs 2) (gv vs 3) (.bool false) h nx17 K)
def m_law34_Stored (x0_ x1_ : Value) (h : Heap) (K : Kt) : Prop :=
 BxP t_api_Config x0_ h fun x2 h1 =>
 LdA 8 x2 h1 fun x3 =>
 Ca f_law18_Light #[x3] h1 fun x5 h4 =>
 UnP .not x5 fun x6 =>
 CdP x6
 (K (.tuple #[(.pointer none), (.slice none 0 0)]) h4)
 (LdA 8 x2 h4 fun x7 =>
 Ca f_kv_New #[x7] h4 fun x9 h8 =>
 ExP x9 0 fun x10 =>
 ExP x9 1 fun x11 =>
 BiP .neq x11 (.int .i64 0) fun x12 =>
 CdP x12
 (K (.tuple #[(.pointer none), (.slice none 0 0)]) h8)
 (BsP st_S_api_Pair 0 [] h8 fun x14 h13 =>
 LoP (fun vt h nx17 => m_law34_Stored_l16 vt x1_ x2 x10 h nx17 K) [(.pointer none), (.slice none 0 0), x14, (.int .i64 0)] h13))
theorem m_law34_Stored_ok {x0_ x1_ : Value} {h : Heap} {K : Kt} (hh : m_law34_Stored x0_ x1_ h K) : Ca f_law34_Stored #[x0_, x1_] h K := cv Tryz.func20 (by kernel_rfl) hh
def m_law34_awake_j31 (x0_ : Value) (h : Heap) (K : Kt) : Prop :=
 K x0_ h
def m_law34_awake (h : Heap) (K : Kt) : Prop :=
 BlP bt_api_Config [(0, (.int .i64 9)), (1, (.int .i64 200)), (2, (.int .i64 8)), (3, (.int .i64 8)), (4, (.int .i64 16)), (5, (.int .i64 16)), (6, (.int .i64 2)), (7, (.int .i64 1))] fun x1 =>
 AlP t_api_Config zt_api_Config h fun x3 h2 =>
 StA 8 x3 x1 h2 fun h4 =>
 LdA 8 x3 h4 fun x5 =>
 BlP bt_api_Op [(0, (.int .i64 1)), (1, (.string { data := #[98] }))] fun x6 =>
 BlP bt_api_Op [(0, (.int .i64 2)), (1, (.string { data := #[98] }))] fun x7 =>
 BsP st_S_api_Op 2 [(0, x6), (1, x7)] h4 fun x9 h8 =>
 Ca f_law34_Stored #[x5, x9] h8 fun x11 h10 =>
 ExP x11 0 fun x12 =>
 ExP x11 1 fun x13 =>
 LdA 8 x3 h10 fun x14 =>
 Ca f_squeeze_Squeeze #[x12, x14, (.int .i64 3)] h10 fun x16 h15 =>
 ExP x16 0 fun x17 =>
 ExP x16 1 fun x18 =>
 BiP .eql x18 (.int .i64 0) fun x20 =>
 CdP x20
 (EqP .neq t_P_kv_Store (.tmp 24) (.const (.pointer none)) x17 (.pointer none) h15 fun x22 h21 =>
 CdP x22
 (Ca f_kv_Store_Left #[x17] h21 fun x25 h24 =>
 BiP .eql x25 (.int .i64 7) fun x26 =>
 m_law34_awake_j31 x26 h24 K)
 (m_law34_awake_j31 (.bool false) h21 K))
 (m_law34_awake_j31 (.bool false) h15 K)
theorem m_law34_awake_ok {h : Heap} {K : Kt} (hh : m_law34_awake h K) : Ca f_law34_awake #[] h K := cv Tryz.func28 (by kernel_rfl) hh
def m_law18_Light_j18 (x2_ : Value) (h : Heap) (K : Kt) : Prop :=
 K x2_ h
def m_law18_Light (x0_ : Value) (h : Heap) (K : Kt) : Prop :=
 BxP t_api_Config x0_ h fun x2 h1 =>
 LdA 8 x2 h1 fun x4 =>
 Ca f_ref09_Right #[x4] h1 fun x6 h5 =>
 CdP x6
 (Fv 1 x2 h5 fun x8 =>
 BiP .leq x8 (.int .i64 3000) fun x9 =>
 CdP x9
 (Fv 0 x2 h5 fun x12 =>
 BiP .leq x12 (.int .i64 400) fun x13 =>
 m_law18_Light_j18 x13 h5 K)
 (m_law18_Light_j18 (.bool false) h5 K))
 (m_law18_Light_j18 (.bool false) h5 K)
theorem m_law18_Light_ok {x0_ : Value} {h : Heap} {K : Kt} (hh : m_law18_Light x0_ h K) : Ca f_law18_Light #[x0_] h K := cv Tryz.func32 (by kernel_rfl) hh
def m_law27_Long_j14 (x2_ : Value) (h : Heap) (K : Kt) : Prop :=
 K x2_ h
def m_law27_Long (x0_ : Value) (h : Heap) (K : Kt) : Prop :=
 BxP t_api_Op x0_ h fun x2 h1 =>
 Fv 1 x2 h1 fun x5 =>
 LenP (some false) x5 fun x6 =>
 BiP .gtr x6 (.int .i64 200) fun x7 =>
 CdP x7
 (m_law27_Long_j14 (.bool true) h1 K)
 (Fv 2 x2 h1 fun x10 =>
 LenP (some false) x10 fun x11 =>
 BiP .gtr x11 (.int .i64 400) fun x12 =>
 m_law27_Long_j14 x12 h1 K)
theorem m_law27_Long_ok {x0_ : Value} {h : Heap} {K : Kt} (hh : m_law27_Long x0_ h K) : Ca f_law27_Long #[x0_] h K := cv Tryz.func34 (by kernel_rfl) hh
def m_law27_Step (x0_ x1_ : Value) (h : Heap) (K : Kt) : Prop :=
 BxP t_api_Op x1_ h fun x2 h1 =>
 AlP t_sluicegateref27_Answer zt_sluicegateref27_Answer h1 fun x4 h3 =>
 Fv 0 x2 h3 fun x6 =>
 BiP .eql x6 (.int .i64 1) fun x7 =>
 CdP x7
 (Fv 1 x2 h3 fun x9 =>
 Fv 2 x2 h3 fun x11 =>
 Ca f_kv_Store_Put #[x0_, x9, x11] h3 fun x13 h12 =>
 BlP bt_sluicegateref27_Answer [(0, x13)] fun x14 =>
 StA 3 x4 x14 h12 fun h15 =>
 LdA 3 x4 h15 fun x16 =>
 K x16 h15)
 (BiP .eql x6 (.int .i64 2) fun x17 =>
 CdP x17
 (Fv 1 x2 h3 fun x19 =>
 Ca f_kv_Store_Delete #[x0_, x19] h3 fun x21 h20 =>
 BlP bt_sluicegateref27_Answer [(0, x21)] fun x22 =>
 StA 3 x4 x22 h20 fun h23 =>
 LdA 3 x4 h23 fun x24 =>
 K x24 h23)
 (BiP .eql x6 (.int .i64 3) fun x25 =>
 CdP x25
 (Fv 1 x2 h3 fun x27 =>
 Ca f_kv_Store_Get #[x0_, x27] h3 fun x29 h28 =>
 ExP x29 0 fun x30 =>
 ExP x29 1 fun x31 =>
 BlP bt_sluicegateref27_Answer [(0, x31), (1, x30)] fun x32 =>
 StA 3 x4 x32 h28 fun h33 =>
 LdA 3 x4 h33 fun x34 =>
 K x34 h33)
 (BiP .eql x6 (.int .i64 4) fun x35 =>
 CdP x35
 (Fv 1 x2 h3 fun x37 =>
 Fv 2 x2 h3 fun x39 =>
 Fv 3 x2 h3 fun x41 =>
 Ca f_kv_Store_Range #[x0_, x37, x39, x41] h3 fun x43 h42 =>
 ExP x43 0 fun x44 =>
 ExP x43 1 fun x45 =>
 BlP bt_sluicegateref27_Answer [(0, x45), (2, x44)] fun x46 =>
 StA 3 x4 x46 h42 fun h47 =>
 LdA 3 x4 h47 fun x48 =>
 K x48 h47)
 (BiP .eql x6 (.int .i64 5) fun x49 =>
 CdP x49
 (Ca f_kv_Store_Sync #[x0_] h3 fun x51 h50 =>
 BlP bt_sluicegateref27_Answer [(0, x51)] fun x52 =>
 StA 3 x4 x52 h50 fun h53 =>
 LdA 3 x4 h53 fun x54 =>
 K x54 h53)
 (BiP .eql x6 (.int .i64 6) fun x55 =>
 CdP x55
 (Ca f_kv_Store_Reopen #[x0_] h3 fun x57 h56 =>
 BlP bt_sluicegateref27_Answer [(0, x57)] fun x58 =>
 StA 3 x4 x58 h56 fun h59 =>
 LdA 3 x4 h59 fun x60 =>
 K x60 h59)
 (BlP bt_sluicegateref27_Answer [] fun x61 =>
 StA 3 x4 x61 h3 fun h62 =>
 LdA 3 x4 h62 fun x63 =>
 K x63 h62))))))
theorem m_law27_Step_ok {x0_ x1_ : Value} {h : Heap} {K : Kt} (hh : m_law27_Step x0_ x1_ h K) : Ca f_law27_Step #[x0_, x1_] h K := cv Tryz.func35 (by kernel_rfl) hh
end Go.Sg
namespace Go.Sg
open Go Vc
def leastC : Config := ⟨9, 200, 8, 8, 16, 16, 2, 1⟩
section
variable {h : Heap} {K : Kt}
theorem least_right : leastC.Right := by decide
def one : Str := [49]
end
end Go.Sg
namespace Go.Sg
open Go Vc
def rangeOf (ps : List Pair) (p : Span) (most : Int) : List Pair := if most < 1 ∨ p.empty = true then [] else (partOf Pair.key ps p).take most.toNat
section
variable {lab lab' : Nat → Nat} {h h' : Heap} {tp sp dp cp kept i root b : Nat} {c : Config} {D D' : List (List UInt8)} {V : Nat → List UInt8} {S : Nat → Bool} {rd wr rd' wr' : BitVec 64} {K : Kt} {ps : List Pair} {p : Span} {most : Int}
theorem c_scan_visit (k : ShS lab h sp dp c D V S kept rd wr) (h0 : 0 < i) (hi : i < c.blocks.toNat) (hV : V i = leafOf c (nl ps)) (ho : lok c ps) (kb : Blk h b [ptr sp 0, int most, .slice none 0 0]) (hb99 : lab b = 99) (hm : 1 ≤ most) (hm2 : most < 9223372036854775808) (hp : p.empty = false)
    (r : ∀ lab' h' D' rd' wr' v, Lat lab lab' h → ShS lab' h' sp dp c D' V S kept rd' wr' → Blk h' b [ptr sp 0, int most, v] → Ow h.size t_api_Pair h' v (rangeOf ps p most) → (∀ x, v.ownBlock = some x → lab' x = 0) → Ex (fun x => Lb lab 1 12 x ∨ x = b) h h' → K (int 0) h') :
    Ca f_scan_scanner_visit #[ptr b 0, .int .u32 i, int (-1), p.v, .slice none 0 0] h K := by
  have hr := k.right
  have hasc := lok_asc ho
  have hps : ps.length ≤ 2 ^ 30 := by have : ps.length ≤ 1024 := (outer_fits hr ho).2.1; omega
  refine m_scan_scanner_visit_ok (bxa (cs := p.cs) fun b1 h1 e1 hb1 k1 _ => ?_)
  have a1 := frl_lat lab h
  have kk := (k.lat a1).ext e1
  have kb1 := kb.ext e1
  have hbl := kb.lt
  have w1 : frl lab h b1 = 0 := frl_new (by omega)
  have wb : frl lab h b = 99 := (a1 b hbl).trans hb99
  refine fl (v := ptr sp 0) (by rw [kb1.get]; rfl) ?_
  refine c_shelf_Load kk h0 hi hV rfl ho fun l1 h2 D2 rd2 wr2 v2 a2 k2 d2 e2 _ _ => ?_
  let l2 := frl l1 h2
  have a2 : Lat (frl lab h) l2 h1 := a2.trans (frl_lat l1 h2) e2.le
  have k2 := k2.lat (frl_lat l1 h2)
  have kb2 := kb1.ex e2 (nLb wb (by decide))
  have k12 := k1.ex e2 (nLb w1 (by decide))
  obtain ⟨vk, vp, vb, vl, rfl, q1, q2, q3, q4⟩ := d2.out
  rw [ex20, ex21]
  refine alst (vs := [int 0, vk, vp, vb, vl]) rfl rfl (by simp [one_eq, q1.one, q2.one, q3.one, q4.one]; rfl) fun b3 h3 e3 hb3 k3 _ => ?_
  rw [BiP_neq]
  refine cdp (fun h => absurd rfl h) fun _ => ?_
  rw [BiP_geq]
  refine cdp (fun h => absurd h (by decide)) fun _ => ?_
  unfold m_scan_scanner_visit_j22
  rw [CdP_false]
  unfold m_scan_scanner_visit_j23
  refine fv (v := int 0) (by rw [k3.get]; rfl) ?_
  rw [BiP_eql]
  refine cdp (fun _ => ?_) fun h => absurd rfl h
  refine fv (v := vl) (by rw [k3.get]; rfl) ?_
  refine (LdA_b (k12.ext e3) rfl).2 ?_
  refine fv (v := vl) (by rw [k3.get]; rfl) ?_
  have s4 : Sl (Use l1) h3 vl ps := q4.ext e3
  refine s4.len ?_
  refine c_leaf_Part (s := p) s4 hasc (by omega) fun v5 h5 o5 e5 => ?_
  have hpl : (if p.empty then [] else takeInt (partOf Pair.key ps p) (ps.length : Int)) = partOf Pair.key ps p := by
    rw [hp]
    unfold takeInt
    rw [if_neg (by decide), Int.toNat_natCast]
    exact List.take_of_length_le (by unfold partOf; exact List.length_filter_le _ _)
  rw [hpl] at o5
  have hpa : Asc Pair.key (partOf Pair.key ps p) := hasc.filter _
  have hpll : (partOf Pair.key ps p).length ≤ 2 ^ 30 := Nat.le_trans (List.length_filter_le _ _) hps
  refine c_leaf_Apply (ms := []) (o5.sl (U := No) fun _ _ h => h) (Sl.nil No h5) hpa (by simp; omega) fun v6 h6 o6 e6 => ?_
  have e36 := (e5.trans e6)
  have kb6 := (kb2.ext e3).ext e36
  refine ⟨fun b' _ => b' = b, ?_⟩
  rw [NilP_ptr, FaP_ptr]
  refine LdX_b kb6 (v := .slice none 0 0) rfl (fun _ => rfl) ?_
  have s6 : Sl No h6 v6 (partOf Pair.key ps p) := o6.sl fun _ _ h => h
  refine s6.len ?_
  rw [NilP_ptr, FaP_ptr]
  refine LdX_b kb6 (v := int most) rfl (fun _ => rfl) ?_
  rw [NilP_ptr, FaP_ptr]
  refine LdX_b kb6 (v := .slice none 0 0) rfl (fun _ => rfl) ?_
  refine (Sl.nil (α := Pair) No h6).len ?_
  refine sub64 (by simp; omega) ?_
  refine min_int ⟨agr_b (Ex.refl (fun _ => False) _) kb6.lt id, ?_⟩
  have hk : min ((partOf Pair.key ps p).length : Int) (most - (([] : List Pair).length : Int)) = ((min (partOf Pair.key ps p).length most.toNat : Nat) : Int) := by
    show min ((partOf Pair.key ps p).length : Int) (most - 0) = _
    omega
  rw [hk]
  refine s6.part (a := 0) (b := min (partOf Pair.key ps p).length most.toNat) rfl (by simp [bnd]) (Nat.zero_le _) (Nat.min_le_left _ _) fun x7 s7 => ?_
  have hpt : ((partOf Pair.key ps p).take (min (partOf Pair.key ps p).length most.toNat)).drop 0 = rangeOf ps p most := by
    unfold rangeOf
    rw [List.drop_zero, if_neg (by rw [hp]; intro h; rcases h with h | h; omega; cases h)]
    rcases Nat.le_total (partOf Pair.key ps p).length most.toNat with h | h
    · rw [Nat.min_eq_left h, List.take_length, List.take_of_length_le h]
    · rw [Nat.min_eq_right h]
  rw [hpt] at s7
  have hrl : (rangeOf ps p most).length ≤ 2 ^ 30 := by rw [← hpt]; simp; omega
  refine app T_Pair (n0 := h6.size) (Ow.nil _ _ _) s7 (Nat.le_refl _) (by simp; omega) (by decide) fun v8 h8 o8 _ hx8 => ⟨trivial, ?_⟩
  have e8 : Ext h6 h8 := hx8 rfl
  rw [List.nil_append] at o8
  refine Fs_b (kb6.ext e8) (show 0 + 2 < 3 by decide) (by rw [one_eq]; exact o8.one) fun h9 _ e9 kb9 => ⟨trivial, ?_⟩
  have e28 : Ext h2 h8 := (e3.trans e36).trans e8
  have l2b : l2 b = 99 := (a2 b kb1.lt).trans wb
  have k9 := (k2.ext e28).ex13 (one_lb e9 ⟨by rw [l2b]; decide, by rw [l2b]; decide⟩ : Ex (Lb l2 99 99) h8 h9) (by decide)
  have hl16 : h.size ≤ h6.size := by have h1 := e1.le; have h2 := e2.le; have h3 := (e3.trans e36).le; omega
  have o9 : Ow h.size t_api_Pair h9 v8 (rangeOf ps p most) := (o8.exb e9 fun x hx he => by have := o8.block x hx; omega).low hl16
  have a12 : Lat lab l2 h := a1.trans a2 e1.le
  refine r l2 h9 D2 rd2 wr2 v8 a12 k9 kb9 o9 (fun x hx => frl_new (by have h1 := o8.block x hx; have h2 := (e3.trans e36).le; omega)) ?_
  have e02 : Ex (Lb lab 1 12) h h2 := a1.ex (Ex.toM e1) e2
  exact ((e02.mono fun _ _ h => .inl h).trans (Ex.toM e28)).trans (e9.mono fun y _ he => .inr he)
theorem c_scan_Range (k : ShS lab h sp dp c D V S kept rd wr) (h0 : 0 < i) (hi : i < c.blocks.toNat) (hV : V i = leafOf c (nl ps)) (ho : lok c ps) (hm2 : most < 9223372036854775808)
    (r : ∀ lab' h' D' rd' wr' v, Lat lab lab' h → ShS lab' h' sp dp c D' V S kept rd' wr' → Ow h.size t_api_Pair h' v (rangeOf ps p most) → (∀ x, v.ownBlock = some x → lab' x = 0) → Ex (Lb lab 1 12) h h' → K (.tuple #[v, int 0]) h') :
    Ca f_scan_Range #[ptr sp 0, .int .u32 i, p.v, int most] h K := by
  refine m_scan_Range_ok (bxa (cs := p.cs) fun b1 h1 e1 hb1 k1 _ => ?_)
  have no : ∀ h2, Ext h h2 → (most < 1 ∨ p.empty = true) → m_scan_Range_j11 (ptr sp 0) (.int .u32 i) (int most) (ptr b1 0) (.bool true) h2 K := fun h2 e2 hn => by
    unfold m_scan_Range_j11
    rw [CdP_true]
    refine r lab h2 D rd wr _ (Lat.refl _ _) (k.ext e2) ?_ (fun x hx => by cases hx) e2.toM
    have : rangeOf ps p most = [] := if_pos hn
    rw [this]; exact Ow.nil _ _ _
  rw [BiP_lss]
  refine cdp (fun hlt => no h1 e1 (.inl hlt)) (fun hge => (LdA_b k1 rfl).2 (c_lex_Empty (s := p) fun h2 e2 => ?_))
  have e12 := e1.trans e2
  cases hp : p.empty with
  | true => exact no h2 e12 (.inr hp)
  | false =>
    unfold m_scan_Range_j11
    rw [CdP_false]
    unfold m_scan_Range_j12
    refine ⟨_, #[ptr sp 0, int most, .slice none 0 0], rfl, rfl, ?_⟩
    refine bxa (cs := [ptr sp 0, int most, .slice none 0 0]) fun b h3 e3 hb3 k3 _ => ?_
    have hl := e12.le
    have a1 : Lat lab (loc lab h b) h := loc_lat lab (by omega)
    have kk := (k.lat a1).ext (e12.trans e3)
    refine (LdA_b ((k1.ext e2).ext e3) rfl).2 ?_
    refine c_scan_visit kk h0 hi hV ho k3 loc_at (by omega) hm2 hp fun l4 h4 D4 rd4 wr4 v a4 k4 kb4 o4 z4 e4 => ?_
    rw [BiP_neq]
    refine cdp (fun h => absurd rfl h) fun _ => ?_
    refine fl (v := v) (by rw [kb4.get]; rfl) ?_
    have e03 := e12.trans e3
    refine r l4 h4 D4 rd4 wr4 v (a1.trans a4 e03.le) k4 (o4.low e03.le) z4 ?_
    have hl3 := e03.le
    refine ⟨Nat.le_trans hl3 e4.le, fun x hx hn => (e4.eq x (by omega) fun hm => ?_).trans (e03.eq x hx id)⟩
    rcases hm with ⟨h1, h2⟩ | h1
    · rw [a1 x hx] at h1 h2; exact hn ⟨h1, h2⟩
    · omega
end
end Go.Sg
