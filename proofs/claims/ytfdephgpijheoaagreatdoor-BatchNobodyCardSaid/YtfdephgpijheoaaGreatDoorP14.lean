/-
  Part 14 of a proof: own texts, merged by program.
-/
import Derived.Test.YtfdephgpijheoaaGreatDoorP13
set_option linter.unusedVariables false
set_option linter.unusedSimpArgs false
namespace Go.Sg
open Go Vc
section
variable {lab lab' : Nat → Nat} {h h' : Heap} {K : Kt} {s mp tp sp dp root : Nat} {c : Config} {D D' : List (List UInt8)} {V V' : Nat → List UInt8} {S : Nat → Bool} {rd wr rd' wr' x y u v a b d e : BitVec 64} {ps : List Pair}
theorem c_kv_open (k : Blk h s (kvc c (ptr mp 0) true a b d e)) (r : K (int 0) h) : Ca f_kv_Store_open #[ptr s 0] h K := by
  refine m_kv_Store_open_ok (eq_ptr_nil (by kernel_rfl) (fl (v := .bool true) (by rw [k.get]; rfl) ?_))
  rw [UnP_not]
  refine fl (v := ptr mp 0) (by rw [k.get]; rfl) ?_
  exact eq_ptr_nil (by kernel_rfl) r
theorem c_kv_open_closed (k : Blk h s (kvc c (.pointer none) true a b d e)) (r : K (int 13) h) : Ca f_kv_Store_open #[ptr s 0] h K := by
  refine m_kv_Store_open_ok (eq_ptr_nil (by kernel_rfl) (fl (v := .bool true) (by rw [k.get]; rfl) ?_))
  rw [UnP_not]
  refine fl (v := .pointer none) (by rw [k.get]; rfl) ?_
  exact eq_ptr_nil (by kernel_rfl) r
theorem c_kv_plus (r : ∀ h', Ext h h' → K (.agg #[w64 (x + u), w64 (y + v)]) h') : Ca f_kv_plus #[.agg #[w64 x, w64 y], .agg #[w64 u, w64 v]] h K := by
  refine m_kv_plus_ok (bxa (cs := [w64 x, w64 y]) fun b1 h1 e1 hb1 k1 _ => bxa (cs := [w64 u, w64 v]) fun b2 h2 e2 hb2 k2 _ => ala (cs := [w64 0, w64 0]) fun b3 h3 e3 hb3 k3 _ => ?_)
  have k1 := (k1.ext e2).ext e3
  have k2 := k2.ext e3
  refine fv (v := w64 x) (by rw [k1.get]; rfl) (fv (v := w64 u) (by rw [k2.get]; rfl) ?_)
  rw [bv_add]
  refine fv (v := w64 y) (by rw [k1.get]; rfl) (fv (v := w64 v) (by rw [k2.get]; rfl) ?_)
  rw [bv_add]
  refine ⟨_, #[w64 (x + u), w64 (y + v)], rfl, rfl, ?_⟩
  refine StA_b (vs := [w64 (x + u), w64 (y + v)]) k3 rfl rfl rfl fun h4 _ e4 k4 => ?_
  refine (LdA_b k4 rfl).2 (r h4 ?_)
  exact ((e1.trans e2).trans e3).andThen e4 fun z hz he => by have := (e1.trans e2).le; omega
theorem c_kv_minus (r : ∀ h', Ext h h' → K (.agg #[w64 (x - u), w64 (y - v)]) h') : Ca f_kv_minus #[.agg #[w64 x, w64 y], .agg #[w64 u, w64 v]] h K := by
  refine m_kv_minus_ok (bxa (cs := [w64 x, w64 y]) fun b1 h1 e1 hb1 k1 _ => bxa (cs := [w64 u, w64 v]) fun b2 h2 e2 hb2 k2 _ => ala (cs := [w64 0, w64 0]) fun b3 h3 e3 hb3 k3 _ => ?_)
  have k1 := (k1.ext e2).ext e3
  have k2 := k2.ext e3
  refine fv (v := w64 x) (by rw [k1.get]; rfl) (fv (v := w64 u) (by rw [k2.get]; rfl) ?_)
  rw [bv_sub]
  refine fv (v := w64 y) (by rw [k1.get]; rfl) (fv (v := w64 v) (by rw [k2.get]; rfl) ?_)
  rw [bv_sub]
  refine ⟨_, #[w64 (x - u), w64 (y - v)], rfl, rfl, ?_⟩
  refine StA_b (vs := [w64 (x - u), w64 (y - v)]) k3 rfl rfl rfl fun h4 _ e4 k4 => ?_
  refine (LdA_b k4 rfl).2 (r h4 ?_)
  exact ((e1.trans e2).trans e3).andThen e4 fun z hz he => by have := (e1.trans e2).le; omega
theorem c_mount_Device' (k : Blk h mp [ptr dp 0, ptr tp 0]) (r : K (ptr dp 0) h) : Ca f_mount_Mount_Device #[ptr mp 0] h K := by
  refine m_mount_Mount_Device_ok (c_mount_none k ?_)
  rw [CdP_false]
  exact fl (by rw [k.get]; rfl) r
theorem c_kv_count {f : Value} {dg n : Nat} (k : Blk h s (kvc c (ptr mp 0) true a b d e)) (km : Blk h mp [ptr dp 0, ptr tp 0]) (kd : Dv dg dp h n D rd wr) (hne : mp ≠ s) (l15 : lab s = 15)
    (r : ∀ h1 Q, Ext h h1 → (∀ ev h2 m2 dg' n' D' rd' wr', Blk h2 s (kvc c m2 true a b d e) → (m2 = .pointer none ∨ m2 = ptr mp 0 ∧ Blk h2 mp [ptr dp 0, ptr tp 0]) → Dv dg' dp h2 n' D' rd' wr' → dp ≠ s ∧ dg' ≠ s → Ex (Lb (frl lab h) 1 99) h1 h2 →
      (∀ h3 a' b' d' e', Ex (fun x => x = s) h2 h3 → Blk h3 s (kvc c m2 true a' b' d' e') → K ev h3) → Q ev h2) → CvH Pg f #[] h1 Q) :
    Ca f_kv_Store_count #[ptr s 0, f] h K := by
  refine m_kv_Store_count_ok (c_kv_open k ?_)
  rw [BiP_neq]
  refine cdp (fun h => absurd rfl h) fun _ => ?_
  refine fl (v := ptr mp 0) (by rw [k.get]; rfl) (c_mount_Device' km ?_)
  refine c_dev_Stats kd fun h1 e1 => ?_
  refine alst (vs := [w64 rd, w64 wr]) rfl rfl rfl fun b2 h2 e2 hb2 k2 _ => ?_
  have e12 := e1.trans e2
  have hl1 := e1.le
  refine r h2 _ e12 fun ev h3 m2 dg' n' D' rd' wr' ks km2 kd' hds e3 hK => ?_
  have k2 := k2.ex e3 (nLb (frl_new (by omega)) (by decide))
  have hb2l := k2.lt
  have hsl := k.lt
  have hml := km.lt
  have hb2s : b2 ≠ s := by omega
  refine ⟨fun b' _ => b' = b2, ?_⟩
  refine LaX_b k2 rfl (fun _ => rfl) ?_
  refine c_dev_Stats kd' fun h4 e4 => ⟨agr_b e4 k2.lt id, ?_⟩
  refine c_kv_minus fun h5 e5 => ⟨trivial, ?_⟩
  have e35 := e4.trans e5
  rw [NilP_ptr, FaP_ptr]
  refine StA_at (vs := [w64 _, w64 _]) (ks.ext e35) (show 0 + 10 + 2 ≤ 14 by decide) rfl rfl (ds := kvc c m2 true (rd' - rd) (wr' - wr) d e) rfl fun h6 hs6 e6 ks6 => ⟨trivial, ?_⟩
  have e36 : Ex (fun x => x = s) h3 h6 := (Ex.toM e35).trans e6
  have fin : ∀ (h' : Heap) (Q : Heap → Prop), Ex (fun x => x = s) h6 h' → Blk h' s (kvc c m2 true (rd' - rd) (wr' - wr) d e) → (m_kv_Store_count_j67 (ptr s 0) ev h' K) := fun h' _ e7 k7 => by
    unfold m_kv_Store_count_j67 Fla
    rw [NilP_ptr, FaP_ptr]
    refine LdA_at (cs := [w64 d, w64 e]) (fun j v hj => ?_) rfl ?_
    · rw [k7.get]
      match j, hj with
      | 0, hj => exact hj
      | 1, hj => exact hj
    rw [NilP_ptr, FaP_ptr]
    refine LdA_at (cs := [w64 (rd' - rd), w64 (wr' - wr)]) (fun j v hj => ?_) rfl ?_
    · rw [k7.get]
      match j, hj with
      | 0, hj => exact hj
      | 1, hj => exact hj
    refine c_kv_plus fun h8 e8 => ⟨trivial, ?_⟩
    rw [NilP_ptr, FaP_ptr]
    refine StA_at (vs := [w64 _, w64 _]) (k7.ext e8) (show 0 + 12 + 2 ≤ 14 by decide) rfl rfl (ds := kvc c m2 true (rd' - rd) (wr' - wr) (d + (rd' - rd)) (e + (wr' - wr))) rfl fun h9 hs9 e9 ks9 => ⟨trivial, ?_⟩
    exact hK h9 _ _ _ _ (((e36.trans e7).trans (Ex.toM e8)).trans e9) ks9
  have hm2 : hget h6 s (0 + 8) = some m2 := by rw [ks6.get]; rfl
  rcases km2 with rfl | ⟨rfl, km2⟩
  · refine fl (v := .pointer none) hm2 ?_
    refine neq_ptr_nil (by kernel_rfl) ?_
    exact fin h6 (fun _ => True) (Ex.refl _ _) ks6
  · refine fl (v := ptr mp 0) hm2 ?_
    refine neq_ptr_nil (by kernel_rfl) ?_
    show CdP (.bool true) _ _
    rw [CdP_true]
    refine fl (v := ptr mp 0) hm2 ?_
    have km6 := (km2.ext e35).ex e6 (by exact hne)
    refine c_mount_Device' km6 ?_
    refine neq_ptr_same (n := 3) (by kernel_rfl) (by kernel_rfl) ?_
    unfold m_kv_Store_count_j50
    rw [CdP_false]
    exact fin h6 (fun _ => True) (Ex.refl _ _) ks6
end
end Go.Sg
namespace Go.Sg
open Go Vc
structure KvS (lab : Nat → Nat) (h : Heap) (s : Nat) (c : Config) (ps : List Pair) : Prop where
  out : ∃ mp tp sp dp D V S root rd wr a b d e, Blk h s (kvc c (ptr mp 0) true a b d e) ∧ MtS lab h mp tp sp dp c D V S root ps rd wr ∧ lab s = 15
structure KvX (h : Heap) (s : Nat) (c : Config) : Prop where
  out : ∃ a b d e, Blk h s (kvc c (.pointer none) true a b d e)
section
variable {lab lab' : Nat → Nat} {h h' : Heap} {K : Kt} {s mp tp sp dp root : Nat} {c : Config} {D D' : List (List UInt8)} {V V' : Nat → List UInt8} {S : Nat → Bool} {rd wr rd' wr' a b d e : BitVec 64} {ps : List Pair} {key : Str}
theorem KvS.ext (k : KvS lab h s c ps) (e : Ext h h') : KvS lab h' s c ps := by
  obtain ⟨mp, tp, sp, dp, D, V, S, root, rd, wr, a, b, d, e', k1, k2, k3⟩ := k
  exact ⟨mp, tp, sp, dp, D, V, S, root, rd, wr, a, b, d, e', k1.ext e, k2.ext e, k3⟩
theorem KvS.lat (k : KvS lab h s c ps) (l : Lat lab lab' h) : KvS lab' h s c ps := by
  obtain ⟨mp, tp, sp, dp, D, V, S, root, rd, wr, a, b, d, e', k1, k2, k3⟩ := k
  exact ⟨mp, tp, sp, dp, D, V, S, root, rd, wr, a, b, d, e', k1, k2.lat l, (l _ k1.lt).trans k3⟩
theorem KvX.ext (k : KvX h s c) (e : Ext h h') : KvX h' s c := by
  obtain ⟨a, b, d, e', k1⟩ := k
  exact ⟨a, b, d, e', k1.ext e⟩
theorem MtS.ds (k : MtS lab h mp tp sp dp c D V S root ps rd wr) (l15 : lab s = 15) : ∃ dg, Dv dg dp h c.bytes.toNat D rd wr ∧ dp ≠ s ∧ dg ≠ s := by
  obtain ⟨dg, q1, q2, q3⟩ := k.tr.sh.dv
  exact ⟨dg, q1, fun h => by subst h; omega, fun h => by subst h; omega⟩
theorem MtS.ne (k : MtS lab h mp tp sp dp c D V S root ps rd wr) (l15 : lab s = 15) : mp ≠ s := fun h => by
  have := k.l14; subst h; omega
theorem Kvc.cfg {m : Value} {md : Bool} (k : Blk h s (kvc c m md a b d e)) {R : Value → Prop} (r : R c.v) : Fla 0 8 (ptr s 0) h R := by
  unfold Fla
  rw [NilP_ptr, FaP_ptr]
  refine LdA_at (cs := c.cs) (fun j v hj => ?_) rfl r
  rw [k.get]
  have hlt := (List.getElem?_eq_some_iff.1 hj).1
  unfold kvc
  rw [Nat.zero_add, List.getElem?_append_left hlt]; exact hj
theorem c_kv_begin (k : MtS lab h mp tp sp dp c D V S root ps rd wr) (r : ∀ lab' s h', Lat lab lab' h → KvS lab' h' s c ps → Ext h h' → h.size ≤ s → K (ptr s 0) h') : Ca f_kv_begin #[ptr mp 0] h K := by
  refine m_kv_begin_ok (c_mount_Head k fun h1 e1 => ?_)
  refine ⟨_, rfl, ?_⟩
  refine ⟨_, (kvc c (ptr mp 0) true 0 0 0 0).toArray, rfl, by kernel_rfl, ?_⟩
  refine bxa (cs := kvc c (ptr mp 0) true 0 0 0 0) fun s h2 e2 hs k2 _ => ?_
  let l2 := upd (frl lab h1) s 15
  have a2 : Lat lab l2 h1 := fun x hx => (upd_ne (by omega)).trans (frl_lat lab h1 x hx)
  have hl := e1.le
  exact r l2 s h2 (fun x hx => a2 x (by omega)) ⟨mp, tp, sp, dp, D, V, S, root, rd, wr, 0, 0, 0, 0, k2, ((k.ext e1).lat a2).ext e2, upd_same⟩ (e1.trans e2) (by omega)
theorem c_kv_New (hr : c.Right) (ho : lok c []) (hnf : c.frames.toNat ≤ 12) (h24 : c.blocks.toNat * c.bytes.toNat ≤ 2 ^ 24) (t : Tz h)
    (r : ∀ lab' s h', KvS lab' h' s c [] → (∀ b, b < h.size → lab' b = 0) → Ext h h' → h.size ≤ s → K (.tuple #[ptr s 0, int 0]) h') : Ca f_kv_New #[c.v] h K := by
  refine m_kv_New_ok (bxa (cs := c.cs) fun b h1 e1 hb1 kb _ => ?_)
  refine (LdA_b kb rfl).2 (c_mount_Format hr ho hnf h24 (t.ext e1) fun l2 h2 mp tp sp dp D V S root rd wr m2 z2 e2 hdp => ?_)
  rw [ex20, ex21, BiP_neq]
  refine cdp (fun h => absurd rfl h) fun _ => ?_
  refine c_kv_begin m2 fun l3 s h3 a3 k3 e3 hs => ?_
  have hl1 := e1.le
  have hl2 := e2.le
  exact r l3 s h3 k3 (fun x hx => (a3 x (by omega)).trans (z2 x (by omega))) ((e1.trans e2).trans e3) (by omega)
theorem c_kv_put {m : Msg} (k : KvS lab h s c ps) (hk : keyOk c m.key = true) (hv : (m.val.length : Int) ≤ c.val) (hd : m.del = true → m.val = []) (ho : lok c (applyP ps m))
    (r : ∀ lab' h', Lat lab lab' h → KvS lab' h' s c (applyP ps m) → Ex (Lb lab 1 15) h h' → K (int 0) h') : Ca f_kv_Store_put #[ptr s 0, m.v] h K := by
  refine m_kv_Store_put_ok (bx (v := ptr s 0) (fun b1 h1 e1 hb1 k1 _ => bxa (cs := [str m.key, .bool m.del, str m.val]) fun b2 h2 e2 hb2 k2 _ => ?_))
  have k1 := k1.ext e2
  have e12 := e1.trans e2
  have hl1 := e1.le
  refine ld (v := ptr s 0) (by rw [k1.get]; rfl) ?_
  have a0 := frl_lat lab h
  have kk := (k.lat a0).ext e12
  obtain ⟨mp, tp, sp, dp, D, V, S, root, rd, wr, a, b, d, e, ks, km, l15⟩ := kk
  obtain ⟨dg, kd, _, _⟩ := km.ds l15
  refine c_kv_count ks km.blk kd (km.ne l15) l15 fun h3 Q e3 hQ => cvhc (by kernel_rfl) ?_
  show Ca f_kv_Store_put_1 #[ptr b1 0, ptr b2 0] h3 Q
  let l3 := frl (frl lab h) h2
  have a3 : Lat (frl lab h) l3 h2 := frl_lat _ _
  have km3 := (km.lat a3).ext e3
  have ks3 := ks.ext e3
  have k13 := k1.ext e3
  have k23 := k2.ext e3
  refine m_kv_Store_put_1_ok (ld (v := ptr s 0) (by rw [k13.get]; rfl) (Kvc.cfg ks3 ?_))
  refine fv (v := str m.key) (by rw [k23.get]; rfl) ?_
  refine c_node_Key (c := c) fun h4 e4 => ⟨trivial, ?_⟩
  have km4 := km3.ext e4
  have ks4 := ks3.ext e4
  have k14 := k13.ext e4
  have k24 := k23.ext e4
  rw [hk, UnP_not]
  refine cd (fun h => absurd h (by decide)) fun _ => ?_
  refine fv (v := str m.val) (by rw [k24.get]; rfl) ?_
  rw [LenP_str]
  refine ld (v := ptr s 0) (by rw [k14.get]; rfl) ?_
  rw [NilP_ptr, FaP_ptr]
  refine fv (v := int c.val) (by rw [ks4.get]; rfl) ?_
  rw [BiP_gtr]
  unfold m_kv_Store_put_1_j23
  refine cdp (fun h => absurd h (by omega)) fun _ => ?_
  unfold m_kv_Store_put_1_j24
  refine ⟨fun b' _ => b' = b1 ∨ b' = b2 ∨ b' = s, ?_⟩
  refine LdX_b k14 (v := ptr s 0) rfl (fun _ => .inl rfl) ?_
  rw [NilP_ptr, FaP_ptr]
  refine LdX_b ks4 (v := ptr mp 0) rfl (fun _ => .inr (.inr rfl)) ?_
  refine LaX_b k24 rfl (fun _ => .inr (.inl rfl)) ?_
  refine c_mount_Tree km4 ⟨fun b o _ => rfl, ?_⟩
  have l15' : l3 s = 15 := (a3 _ ks.lt).trans l15
  have l14' : l3 mp = 14 := km3.l14
  refine c_tree_Put km4.tr hk hv hd ho fun l5 h5 D5 V5 rd5 wr5 a5 tr5 e5 => ⟨trivial, ?_⟩
  have ks5 := ks4.ex e5 (nLb l15' (by decide))
  have kb5 := km4.blk.ex e5 (nLb l14' (by decide))
  have l155 : l5 s = 15 := (a5 _ ks4.lt).trans l15'
  have km5 : MtS l5 h5 mp tp sp dp c D5 V5 S root (applyP ps m) rd5 wr5 := ⟨kb5, tr5, (a5 _ km4.blk.lt).trans l14'⟩
  obtain ⟨dg5, kd5, n1, n2⟩ := km5.ds l155
  have e35 : Ex (Lb l3 1 99) h3 h5 := (Ex.toM e4).trans (Lb.wide e5 (by decide) (by decide))
  refine hQ (int 0) h5 (ptr mp 0) dg5 _ _ _ _ ks5 (.inr ⟨rfl, kb5⟩) kd5 ⟨n1, n2⟩ e35 fun h6 a' b' d' e' e6 ks6 => ?_
  have e6' : Ex (Lb l5 15 15) h5 h6 := one_lb e6 ⟨by rw [l155]; decide, by rw [l155]; decide⟩
  have a05 : Lat lab l5 h := (a0.trans a3 e12.le).trans a5 (by have := (e12.trans (e3.trans e4)).le; omega)
  refine r l5 h6 a05 ⟨mp, tp, sp, dp, D5, V5, S, root, rd5, wr5, a', b', d', e', ks6, km5.ex15 e6' (by decide), l155⟩ ?_
  have e04 : Ext h h4 := e12.trans (e3.trans e4)
  have a03 : Lat lab l3 h := a0.trans a3 e12.le
  have e46 : Ex (Lb l3 1 15) h4 h6 := a5.ex (Lb.wide e5 (by decide) (by decide)) (Lb.wide e6' (by decide) (by decide))
  exact a03.ex (Ex.toM e04) e46
theorem c_kv_Put {val : Str} (k : KvS lab h s c ps) (hk : keyOk c key = true) (hv : (val.length : Int) ≤ c.val) (ho : lok c (applyP ps ⟨key, false, val⟩))
    (r : ∀ lab' h', Lat lab lab' h → KvS lab' h' s c (applyP ps ⟨key, false, val⟩) → Ex (Lb lab 1 15) h h' → K (int 0) h') : Ca f_kv_Store_Put #[ptr s 0, str key, str val] h K :=
  m_kv_Store_Put_ok ⟨_, #[str key, .bool false, str val], rfl, rfl, c_kv_put (m := ⟨key, false, val⟩) k hk hv (fun h => by cases h) ho r⟩
theorem c_kv_Delete (k : KvS lab h s c ps) (hk : keyOk c key = true) (h0 : 0 ≤ c.val) (ho : lok c (applyP ps ⟨key, true, []⟩))
    (r : ∀ lab' h', Lat lab lab' h → KvS lab' h' s c (applyP ps ⟨key, true, []⟩) → Ex (Lb lab 1 15) h h' → K (int 0) h') : Ca f_kv_Store_Delete #[ptr s 0, str key] h K :=
  m_kv_Store_Delete_ok ⟨_, #[str key, .bool true, str []], rfl, rfl, c_kv_put (m := ⟨key, true, []⟩) k hk h0 (fun _ => rfl) ho r⟩
end
end Go.Sg
namespace Go.Sg
open Go Vc
theorem Ex.fresh {M N : Nat → Prop} {h1 h2 h3 : Heap} (a : Ex M h1 h2) (e : Ex N h2 h3) (hn : ∀ x, x < h1.size → ¬ N x) : Ex M h1 h3 :=
  ⟨Nat.le_trans a.le e.le, fun x hx hm => (e.eq x (Nat.lt_of_lt_of_le hx a.le) (hn x hx)).trans (a.eq x hx hm)⟩
end Go.Sg
namespace Go.Sg
open Go Vc
section
variable {lab lab' : Nat → Nat} {h h' : Heap} {K : Kt} {s mp tp sp dp root : Nat} {c : Config} {D D' : List (List UInt8)} {V V' : Nat → List UInt8} {S : Nat → Bool} {rd wr rd' wr' a b d e : BitVec 64} {ps : List Pair} {key : Str}
theorem c_kv_Close (k : KvS lab h s c ps) (hnf : c.frames.toNat ≤ 12)
    (r : ∀ x h' root D, KvX h' s c → ImgD c root ps D → 0 < root ∧ root < c.blocks.toNat ∧ D.length = c.blocks.toNat ∧ (∀ b ∈ D, b.length = c.bytes.toNat) → Ow h.size t_uint8 h' x D.flatten → Ex (Lb lab 1 15) h h' → K (.tuple #[x, int 0]) h') : Ca f_kv_Store_Close #[ptr s 0] h K := by
  refine m_kv_Store_Close_ok (bx (v := ptr s 0) (fun b1 h1 e1 hb1 k1 _ => al fun b3 h3 e3 hb3 k3 _ => ?_))
  have hl1 := e1.le
  have k1 := k1.ext e3
  have e03 := e1.trans e3
  refine ld (v := ptr s 0) (by rw [k1.get]; rfl) ?_
  let lab0 := loc lab h b3
  have a0 : Lat lab lab0 h := loc_lat lab (by omega)
  have q3 : lab0 b3 = 99 := loc_at
  have q1 : lab0 b1 = 0 := (upd_ne (by omega)).trans (frl_new (by omega))
  have kk := (k.lat a0).ext e03
  obtain ⟨mp, tp, sp, dp, D, V, S, root, rd, wr, a, b, d, e, ks, km, l15⟩ := kk
  obtain ⟨dg, kd, _, _⟩ := km.ds l15
  refine c_kv_count ks km.blk kd (km.ne l15) l15 fun h4 Q e4 hQ => cvhc (by kernel_rfl) ?_
  show Ca f_kv_Store_Close_1 #[ptr b1 0, ptr b3 0] h4 Q
  let l4 := frl lab0 h3
  have a4 : Lat lab0 l4 h3 := frl_lat _ _
  have km4 := (km.lat a4).ext e4
  have ks4 := ks.ext e4
  have k14 := k1.ext e4
  have k34 := k3.ext e4
  have l15' : l4 s = 15 := (a4 _ ks.lt).trans l15
  have q3' : l4 b3 = 99 := (a4 _ k3.lt).trans q3
  have q1' : l4 b1 = 0 := (a4 _ k1.lt).trans q1
  refine m_kv_Store_Close_1_ok (ld (v := ptr s 0) (by rw [k14.get]; rfl) ?_)
  refine fl (v := ptr mp 0) (by rw [ks4.get]; rfl) ?_
  refine c_mount_Sync km4 hnf fun l5 h5 D5 V5 wr5 a5 km5 img5 e5 => ?_
  rw [BiP_neq]
  refine cdp (fun h => absurd rfl h) fun _ => ?_
  have ks5 := ks4.ex e5 (nLb l15' (by decide))
  have k15 := k14.ex e5 (nLb q1' (by decide))
  have k35 := k34.ex e5 (nLb q3' (by decide))
  have l155 : l5 s = 15 := (a5 _ ks4.lt).trans l15'
  have q35 : l5 b3 = 99 := (a5 _ k34.lt).trans q3'
  refine ld (v := ptr s 0) (by rw [k15.get]; rfl) ?_
  refine fl (v := ptr mp 0) (by rw [ks5.get]; rfl) ?_
  obtain ⟨dg5, kd5, n51, n52⟩ := km5.ds l155
  refine c_mount_Device' km5.blk ?_
  refine c_dev_Image kd5 fun x h6 o6 e6 => ?_
  have ks6 := ks5.ext e6
  have k16 := k15.ext e6
  have k36 := k35.ext e6
  have km6 := km5.ext e6
  refine StP_b k36 (show 0 < 1 by decide) (by rw [one_eq]; exact o6.one) fun h7 _ e7 k7 => ?_
  have hb1l := k1.lt
  have hsl := k.out
  have hs0 : s < h.size := by
    obtain ⟨_, _, _, _, _, _, _, _, _, _, _, _, _, _, q, _⟩ := hsl; exact q.lt
  have hbs : b3 ≠ s := by omega
  have hb1s : b1 ≠ s := by omega
  have hb31 : b1 ≠ b3 := by omega
  have ks7 := ks6.ex e7 (fun h => hbs h.symm)
  have k17 := k16.ex e7 hb31
  refine ld (v := ptr s 0) (by rw [k17.get]; rfl) ?_
  refine Fs_b ks7 (show 0 + 8 < 14 by decide) rfl fun h8 _ e8 ks8 => ?_
  have ks8 : Blk h8 s (kvc c (.pointer none) true a b d e) := ks8
  have k78 := k7.ex e8 hbs
  have e7' : Ex (Lb l5 99 99) h6 h7 := one_lb e7 ⟨by rw [q35]; decide, by rw [q35]; decide⟩
  have e8' : Ex (Lb l5 15 15) h7 h8 := one_lb e8 ⟨by rw [l155]; decide, by rw [l155]; decide⟩
  obtain ⟨dg6, kd6, m1, m2⟩ := km6.ds l155
  have km7 := km6.ex15 e7' (by decide)
  have km8 := km7.ex15 e8' (by decide)
  obtain ⟨dg8, kd8, n1, n2⟩ := km8.ds l155
  have e58 : Ex (Lb l5 1 99) h5 h8 := ((Ex.toM e6).trans (Lb.wide e7' (by decide) (by decide))).trans (Lb.wide e8' (by decide) (by decide))
  have e48 : Ex (Lb l4 1 99) h4 h8 := a5.ex (Lb.wide e5 (by decide) (by decide)) e58
  refine hQ (int 0) h8 (.pointer none) dg8 _ _ _ _ ks8 (.inl rfl) kd8 ⟨n1, n2⟩ e48 fun h9 a' b' d' e' e9 ks9 => ?_
  have k39 := k78.ex e9 hbs
  refine ld (v := x) (by rw [k39.get]; rfl) ?_
  have hl05 : h.size ≤ h5.size := by have h1 := e03.le; have h2 := e4.le; have h3 := e5.le; omega
  have ob := o6.block
  have hb35 : b3 < h5.size := k35.lt
  have hs5 : s < h5.size := ks5.lt
  have o9 : Ow h5.size t_uint8 h9 x D5.flatten := ((o6.exb e7 fun y hy he => by have := ob y hy; omega).exb e8 fun y hy he => by have := ob y hy; omega).exb e9 fun y hy he => by have := ob y hy; omega
  refine r x h9 root D5 ⟨a', b', d', e', ks9⟩ img5 ⟨km5.tr.r0, km5.tr.sh.kl, km5.tr.sh.dl, kd5.all⟩ (o9.low hl05) ?_
  have a04 : Lat lab l4 h := a0.trans a4 e03.le
  have e04 : Ext h h4 := e03.trans e4
  have e05 : Ex (Lb lab 1 15) h h5 := a04.ex (Ex.toM e04) (Lb.wide e5 (by decide) (by decide))
  have e06 : Ex (Lb lab 1 15) h h6 := e05.trans (Ex.toM e6)
  have e07 : Ex (Lb lab 1 15) h h7 := e06.fresh e7 fun y hy he => by omega
  have l0 : lab s = 15 := by rw [← a0 s hs0]; exact l15
  have e08 : Ex (Lb lab 1 15) h h8 := e07.trans (e8.mono fun y _ he => by subst he; exact ⟨by rw [l0]; decide, by rw [l0]; decide⟩)
  exact e08.trans (e9.mono fun y _ he => by subst he; exact ⟨by rw [l0]; decide, by rw [l0]; decide⟩)
theorem c_kv_count_closed {f : Value} (k : KvX h s c) (r : ∀ h', KvX h' s c → Ex (fun x => x = s) h h' → K (int 13) h') : Ca f_kv_Store_count #[ptr s 0, f] h K := by
  obtain ⟨a, b, d, e, k1⟩ := k
  refine m_kv_Store_count_ok (c_kv_open_closed k1 ?_)
  rw [BiP_neq]
  refine cdp (fun _ => ?_) fun h => absurd (by decide) h
  refine neq_ptr_nil (by kernel_rfl) ?_
  refine ⟨_, #[w64 0, w64 0], rfl, rfl, ?_⟩
  show NilP (ptr s 0) _
  rw [NilP_ptr, FaP_ptr]
  refine StA_at (vs := [w64 0, w64 0]) k1 (show 0 + 10 + 2 ≤ 14 by decide) rfl rfl (ds := kvc c (.pointer none) true 0 0 d e) rfl fun h1 hs1 e1 k1 => ?_
  exact r h1 ⟨0, 0, d, e, k1⟩ e1
end
end Go.Sg
set_option maxRecDepth 100000
namespace Go.Sg
open Go Vc Go.Proofs
def m_law34_Stored_j45 (x1_ x2_ x4_ x5_ x6_ x8_ x9_ : Value) (h : Heap) (nx17 : Nt) (K : Kt) : Prop :=
 BiP .add x9_ (.int .i64 1) fun x46 =>
 nx17 [x4_, x5_, x8_, x46] h
def m_law34_Stored_j26 (x1_ x2_ x4_ x5_ x6_ x8_ x9_ : Value) (h : Heap) (nx17 : Nt) (K : Kt) : Prop :=
 Ea 4 x1_ x9_ h fun x29 =>
 Ca f_law27_Long #[x29] h fun x31 h30 =>
 CdP x31
 (K (.tuple #[(.pointer none), (.slice none 0 0)]) h30)
 (Ea 4 x1_ x9_ h30 fun x33 =>
 Ca f_law27_Step #[x6_, x33] h30 fun x35 h34 =>
 FdT (some 0) .one x35 fun x36 =>
 BiP .eql x36 (.int .i64 0) fun x37 =>
 CdP x37
 (LdA 8 x2_ h34 fun x38 =>
 Ea 4 x1_ x9_ h34 fun x40 =>
 Ca f_ref27_Do #[x38, x8_, x40] h34 fun x42 h41 =>
 True ∧ (ExP x42 0 fun x43 =>
 ExP x42 1 fun x44 =>
 m_law34_Stored_j45 x1_ x2_ x4_ x5_ x6_ x43 x9_ h41 nx17 K))
 (m_law34_Stored_j45 x1_ x2_ x4_ x5_ x6_ x8_ x9_ h34 nx17 K))
def m_law34_Stored_j47 (x6_ x8_ : Value) (h : Heap) (K : Kt) : Prop :=
 K (.tuple #[x6_, x8_]) h
def m_law34_Stored_j25 (x1_ x2_ x4_ x5_ x6_ x8_ x9_ x28_ : Value) (h : Heap) (nx17 : Nt) (K : Kt) : Prop :=
 CdP x28_
 (m_law34_Stored_j26 x1_ x2_ x4_ x5_ x6_ x8_ x9_ h nx17 K)
 (m_law34_Stored_j47 x6_ x8_ h K)
def m_law34_Stored_l16 (vs : List Value) (x1_ x2_ x6_ : Value) (h : Heap) (nx17 : Nt) (K : Kt) : Prop :=
 LenP (some true) x1_ fun x20 =>
 BiP .lss (gv vs 3) x20 fun x21 =>
 CdP x21
 (BiP .lss (gv vs 3) (.int .i64 200) fun x22 =>
 m_law34_Stored_j25 x1_ x2_ (gv vs 0) (gv vs 1) x6_ (gv vs 2) (gv vs 3) x22 h nx17 K)
 (m_law34_Stored_j25 x1_ x2_ (gv vs 0) (gv vs 1) x6_ (gv vs 2) (gv vs 3) (.bool false) h nx17 K)
def m_law34_Stored (x0_ x1_ : Value) (h : Heap) (K : Kt) : Prop :=
 BxP t_api_Config x0_ h fun x2 h1 =>
 LdA 8 x2 h1 fun x3 =>
 Ca f_law18_Light #[x3] h1 fun x5 h4 =>
 UnP .not x5 fun x6 =>
 CdP x6
 (K (.tuple #[(.pointer none), (.slice none 0 0)]) h4)
 (LdA 8 x2 h4 fun x7 =>
 Ca f_kv_New #[x7] h4 fun x9 h8 =>
 ExP x9 0 fun x10 =>
 ExP x9 1 fun x11 =>
 BiP .neq x11 (.int .i64 0) fun x12 =>
 CdP x12
 (K (.tuple #[(.pointer none), (.slice none 0 0)]) h8)
 (BsP st_S_api_Pair 0 [] h8 fun x14 h13 =>
 LoP (fun vt h nx17 => m_law34_Stored_l16 vt x1_ x2 x10 h nx17 K) [(.pointer none), (.slice none 0 0), x14, (.int .i64 0)] h13))
theorem m_law34_Stored_ok {x0_ x1_ : Value} {h : Heap} {K : Kt} (hh : m_law34_Stored x0_ x1_ h K) : Ca f_law34_Stored #[x0_, x1_] h K := cv Tryz.func20 (by kernel_rfl) hh
def m_law18_Light_j18 (x2_ : Value) (h : Heap) (K : Kt) : Prop :=
 K x2_ h
def m_law18_Light (x0_ : Value) (h : Heap) (K : Kt) : Prop :=
 BxP t_api_Config x0_ h fun x2 h1 =>
 LdA 8 x2 h1 fun x4 =>
 Ca f_ref09_Right #[x4] h1 fun x6 h5 =>
 CdP x6
 (Fv 1 x2 h5 fun x8 =>
 BiP .leq x8 (.int .i64 3000) fun x9 =>
 CdP x9
 (Fv 0 x2 h5 fun x12 =>
 BiP .leq x12 (.int .i64 400) fun x13 =>
 m_law18_Light_j18 x13 h5 K)
 (m_law18_Light_j18 (.bool false) h5 K))
 (m_law18_Light_j18 (.bool false) h5 K)
theorem m_law18_Light_ok {x0_ : Value} {h : Heap} {K : Kt} (hh : m_law18_Light x0_ h K) : Ca f_law18_Light #[x0_] h K := cv Tryz.func32 (by kernel_rfl) hh
def m_law27_Long_j14 (x2_ : Value) (h : Heap) (K : Kt) : Prop :=
 K x2_ h
def m_law27_Long (x0_ : Value) (h : Heap) (K : Kt) : Prop :=
 BxP t_api_Op x0_ h fun x2 h1 =>
 Fv 1 x2 h1 fun x5 =>
 LenP (some false) x5 fun x6 =>
 BiP .gtr x6 (.int .i64 200) fun x7 =>
 CdP x7
 (m_law27_Long_j14 (.bool true) h1 K)
 (Fv 2 x2 h1 fun x10 =>
 LenP (some false) x10 fun x11 =>
 BiP .gtr x11 (.int .i64 400) fun x12 =>
 m_law27_Long_j14 x12 h1 K)
theorem m_law27_Long_ok {x0_ : Value} {h : Heap} {K : Kt} (hh : m_law27_Long x0_ h K) : Ca f_law27_Long #[x0_] h K := cv Tryz.func34 (by kernel_rfl) hh
def m_law27_Step (x0_ x1_ : Value) (h : Heap) (K : Kt) : Prop :=
 BxP t_api_Op x1_ h fun x2 h1 =>
 AlP t_sluicegateref27_Answer zt_sluicegateref27_Answer h1 fun x4 h3 =>
 Fv 0 x2 h3 fun x6 =>
 BiP .eql x6 (.int .i64 1) fun x7 =>
 CdP x7
 (Fv 1 x2 h3 fun x9 =>
 Fv 2 x2 h3 fun x11 =>
 Ca f_kv_Store_Put #[x0_, x9, x11] h3 fun x13 h12 =>
 BlP bt_sluicegateref27_Answer [(0, x13)] fun x14 =>
 StA 3 x4 x14 h12 fun h15 =>
 LdA 3 x4 h15 fun x16 =>
 K x16 h15)
 (BiP .eql x6 (.int .i64 2) fun x17 =>
 CdP x17
 (Fv 1 x2 h3 fun x19 =>
 Ca f_kv_Store_Delete #[x0_, x19] h3 fun x21 h20 =>
 BlP bt_sluicegateref27_Answer [(0, x21)] fun x22 =>
 StA 3 x4 x22 h20 fun h23 =>
 LdA 3 x4 h23 fun x24 =>
 K x24 h23)
 (BiP .eql x6 (.int .i64 3) fun x25 =>
 CdP x25
 (Fv 1 x2 h3 fun x27 =>
 Ca f_kv_Store_Get #[x0_, x27] h3 fun x29 h28 =>
 ExP x29 0 fun x30 =>
 ExP x29 1 fun x31 =>
 BlP bt_sluicegateref27_Answer [(0, x31), (1, x30)] fun x32 =>
 StA 3 x4 x32 h28 fun h33 =>
 LdA 3 x4 h33 fun x34 =>
 K x34 h33)
 (BiP .eql x6 (.int .i64 4) fun x35 =>
 CdP x35
 (Fv 1 x2 h3 fun x37 =>
 Fv 2 x2 h3 fun x39 =>
 Fv 3 x2 h3 fun x41 =>
 Ca f_kv_Store_Range #[x0_, x37, x39, x41] h3 fun x43 h42 =>
 ExP x43 0 fun x44 =>
 ExP x43 1 fun x45 =>
 BlP bt_sluicegateref27_Answer [(0, x45), (2, x44)] fun x46 =>
 StA 3 x4 x46 h42 fun h47 =>
 LdA 3 x4 h47 fun x48 =>
 K x48 h47)
 (BiP .eql x6 (.int .i64 5) fun x49 =>
 CdP x49
 (Ca f_kv_Store_Sync #[x0_] h3 fun x51 h50 =>
 BlP bt_sluicegateref27_Answer [(0, x51)] fun x52 =>
 StA 3 x4 x52 h50 fun h53 =>
 LdA 3 x4 h53 fun x54 =>
 K x54 h53)
 (BiP .eql x6 (.int .i64 6) fun x55 =>
 CdP x55
 (Ca f_kv_Store_Reopen #[x0_] h3 fun x57 h56 =>
 BlP bt_sluicegateref27_Answer [(0, x57)] fun x58 =>
 StA 3 x4 x58 h56 fun h59 =>
 LdA 3 x4 h59 fun x60 =>
 K x60 h59)
 (BlP bt_sluicegateref27_Answer [] fun x61 =>
 StA 3 x4 x61 h3 fun h62 =>
 LdA 3 x4 h62 fun x63 =>
 K x63 h62))))))
theorem m_law27_Step_ok {x0_ x1_ : Value} {h : Heap} {K : Kt} (hh : m_law27_Step x0_ x1_ h K) : Ca f_law27_Step #[x0_, x1_] h K := cv Tryz.func35 (by kernel_rfl) hh
end Go.Sg
namespace Go.Sg
open Go Vc
def leastC : Config := ⟨9, 200, 8, 8, 16, 16, 2, 1⟩
section
variable {h : Heap} {K : Kt}
theorem least_right : leastC.Right := by decide
def one : Str := [49]
end
end Go.Sg
namespace Go.Sg
open Go Vc
def rangeOf (ps : List Pair) (p : Span) (most : Int) : List Pair := if most < 1 ∨ p.empty = true then [] else (partOf Pair.key ps p).take most.toNat
section
variable {lab lab' : Nat → Nat} {h h' : Heap} {tp sp dp cp kept i root b : Nat} {c : Config} {D D' : List (List UInt8)} {V : Nat → List UInt8} {S : Nat → Bool} {rd wr rd' wr' : BitVec 64} {K : Kt} {ps : List Pair} {p : Span} {most : Int}
theorem c_scan_visit (k : ShS lab h sp dp c D V S kept rd wr) (h0 : 0 < i) (hi : i < c.blocks.toNat) (hV : V i = leafOf c (nl ps)) (ho : lok c ps) (kb : Blk h b [ptr sp 0, int most, .slice none 0 0]) (hb99 : lab b = 99) (hm : 1 ≤ most) (hm2 : most < 9223372036854775808) (hp : p.empty = false)
    (r : ∀ lab' h' D' rd' wr' v, Lat lab lab' h → ShS lab' h' sp dp c D' V S kept rd' wr' → Blk h' b [ptr sp 0, int most, v] → Ow h.size t_api_Pair h' v (rangeOf ps p most) → (∀ x, v.ownBlock = some x → lab' x = 0) → Ex (fun x => Lb lab 1 12 x ∨ x = b) h h' → K (int 0) h') :
    Ca f_scan_scanner_visit #[ptr b 0, .int .u32 i, int (-1), p.v, .slice none 0 0] h K := by
  have hr := k.right
  have hasc := lok_asc ho
  have hps : ps.length ≤ 2 ^ 30 := by have : ps.length ≤ 1024 := (outer_fits hr ho).2.1; omega
  refine m_scan_scanner_visit_ok (bxa (cs := p.cs) fun b1 h1 e1 hb1 k1 _ => ?_)
  have a1 := frl_lat lab h
  have kk := (k.lat a1).ext e1
  have kb1 := kb.ext e1
  have hbl := kb.lt
  have w1 : frl lab h b1 = 0 := frl_new (by omega)
  have wb : frl lab h b = 99 := (a1 b hbl).trans hb99
  refine fl (v := ptr sp 0) (by rw [kb1.get]; rfl) ?_
  refine c_shelf_Load kk h0 hi hV rfl ho fun l1 h2 D2 rd2 wr2 v2 a2 k2 d2 e2 _ _ => ?_
  let l2 := frl l1 h2
  have a2 : Lat (frl lab h) l2 h1 := a2.trans (frl_lat l1 h2) e2.le
  have k2 := k2.lat (frl_lat l1 h2)
  have kb2 := kb1.ex e2 (nLb wb (by decide))
  have k12 := k1.ex e2 (nLb w1 (by decide))
  obtain ⟨vk, vp, vb, vl, rfl, q1, q2, q3, q4⟩ := d2.out
  rw [ex20, ex21]
  refine alst (vs := [int 0, vk, vp, vb, vl]) rfl rfl (by simp [one_eq, q1.one, q2.one, q3.one, q4.one]; rfl) fun b3 h3 e3 hb3 k3 _ => ?_
  rw [BiP_neq]
  refine cdp (fun h => absurd rfl h) fun _ => ?_
  rw [BiP_geq]
  refine cdp (fun h => absurd h (by decide)) fun _ => ?_
  unfold m_scan_scanner_visit_j22
  rw [CdP_false]
  unfold m_scan_scanner_visit_j23
  refine fv (v := int 0) (by rw [k3.get]; rfl) ?_
  rw [BiP_eql]
  refine cdp (fun _ => ?_) fun h => absurd rfl h
  refine fv (v := vl) (by rw [k3.get]; rfl) ?_
  refine (LdA_b (k12.ext e3) rfl).2 ?_
  refine fv (v := vl) (by rw [k3.get]; rfl) ?_
  have s4 : Sl (Use l1) h3 vl ps := q4.ext e3
  refine s4.len ?_
  refine c_leaf_Part (s := p) s4 hasc (by omega) fun v5 h5 o5 e5 => ?_
  have hpl : (if p.empty then [] else takeInt (partOf Pair.key ps p) (ps.length : Int)) = partOf Pair.key ps p := by
    rw [hp]
    unfold takeInt
    rw [if_neg (by decide), Int.toNat_natCast]
    exact List.take_of_length_le (by unfold partOf; exact List.length_filter_le _ _)
  rw [hpl] at o5
  have hpa : Asc Pair.key (partOf Pair.key ps p) := hasc.filter _
  have hpll : (partOf Pair.key ps p).length ≤ 2 ^ 30 := Nat.le_trans (List.length_filter_le _ _) hps
  refine c_leaf_Apply (ms := []) (o5.sl (U := No) fun _ _ h => h) (Sl.nil No h5) hpa (by simp; omega) fun v6 h6 o6 e6 => ?_
  have e36 := (e5.trans e6)
  have kb6 := (kb2.ext e3).ext e36
  refine ⟨fun b' _ => b' = b, ?_⟩
  rw [NilP_ptr, FaP_ptr]
  refine LdX_b kb6 (v := .slice none 0 0) rfl (fun _ => rfl) ?_
  have s6 : Sl No h6 v6 (partOf Pair.key ps p) := o6.sl fun _ _ h => h
  refine s6.len ?_
  rw [NilP_ptr, FaP_ptr]
  refine LdX_b kb6 (v := int most) rfl (fun _ => rfl) ?_
  rw [NilP_ptr, FaP_ptr]
  refine LdX_b kb6 (v := .slice none 0 0) rfl (fun _ => rfl) ?_
  refine (Sl.nil (α := Pair) No h6).len ?_
  refine sub64 (by simp; omega) ?_
  refine min_int ⟨agr_b (Ex.refl (fun _ => False) _) kb6.lt id, ?_⟩
  have hk : min ((partOf Pair.key ps p).length : Int) (most - (([] : List Pair).length : Int)) = ((min (partOf Pair.key ps p).length most.toNat : Nat) : Int) := by
    show min ((partOf Pair.key ps p).length : Int) (most - 0) = _
    omega
  rw [hk]
  refine s6.part (a := 0) (b := min (partOf Pair.key ps p).length most.toNat) rfl (by simp [bnd]) (Nat.zero_le _) (Nat.min_le_left _ _) fun x7 s7 => ?_
  have hpt : ((partOf Pair.key ps p).take (min (partOf Pair.key ps p).length most.toNat)).drop 0 = rangeOf ps p most := by
    unfold rangeOf
    rw [List.drop_zero, if_neg (by rw [hp]; intro h; rcases h with h | h; omega; cases h)]
    rcases Nat.le_total (partOf Pair.key ps p).length most.toNat with h | h
    · rw [Nat.min_eq_left h, List.take_length, List.take_of_length_le h]
    · rw [Nat.min_eq_right h]
  rw [hpt] at s7
  have hrl : (rangeOf ps p most).length ≤ 2 ^ 30 := by rw [← hpt]; simp; omega
  refine app T_Pair (n0 := h6.size) (Ow.nil _ _ _) s7 (Nat.le_refl _) (by simp; omega) (by decide) fun v8 h8 o8 _ hx8 => ⟨trivial, ?_⟩
  have e8 : Ext h6 h8 := hx8 rfl
  rw [List.nil_append] at o8
  refine Fs_b (kb6.ext e8) (show 0 + 2 < 3 by decide) (by rw [one_eq]; exact o8.one) fun h9 _ e9 kb9 => ⟨trivial, ?_⟩
  have e28 : Ext h2 h8 := (e3.trans e36).trans e8
  have l2b : l2 b = 99 := (a2 b kb1.lt).trans wb
  have k9 := (k2.ext e28).ex13 (one_lb e9 ⟨by rw [l2b]; decide, by rw [l2b]; decide⟩ : Ex (Lb l2 99 99) h8 h9) (by decide)
  have hl16 : h.size ≤ h6.size := by have h1 := e1.le; have h2 := e2.le; have h3 := (e3.trans e36).le; omega
  have o9 : Ow h.size t_api_Pair h9 v8 (rangeOf ps p most) := (o8.exb e9 fun x hx he => by have := o8.block x hx; omega).low hl16
  have a12 : Lat lab l2 h := a1.trans a2 e1.le
  refine r l2 h9 D2 rd2 wr2 v8 a12 k9 kb9 o9 (fun x hx => frl_new (by have h1 := o8.block x hx; have h2 := (e3.trans e36).le; omega)) ?_
  have e02 : Ex (Lb lab 1 12) h h2 := a1.ex (Ex.toM e1) e2
  exact ((e02.mono fun _ _ h => .inl h).trans (Ex.toM e28)).trans (e9.mono fun y _ he => .inr he)
theorem c_scan_Range (k : ShS lab h sp dp c D V S kept rd wr) (h0 : 0 < i) (hi : i < c.blocks.toNat) (hV : V i = leafOf c (nl ps)) (ho : lok c ps) (hm2 : most < 9223372036854775808)
    (r : ∀ lab' h' D' rd' wr' v, Lat lab lab' h → ShS lab' h' sp dp c D' V S kept rd' wr' → Ow h.size t_api_Pair h' v (rangeOf ps p most) → (∀ x, v.ownBlock = some x → lab' x = 0) → Ex (Lb lab 1 12) h h' → K (.tuple #[v, int 0]) h') :
    Ca f_scan_Range #[ptr sp 0, .int .u32 i, p.v, int most] h K := by
  refine m_scan_Range_ok (bxa (cs := p.cs) fun b1 h1 e1 hb1 k1 _ => ?_)
  have no : ∀ h2, Ext h h2 → (most < 1 ∨ p.empty = true) → m_scan_Range_j11 (ptr sp 0) (.int .u32 i) (int most) (ptr b1 0) (.bool true) h2 K := fun h2 e2 hn => by
    unfold m_scan_Range_j11
    rw [CdP_true]
    refine r lab h2 D rd wr _ (Lat.refl _ _) (k.ext e2) ?_ (fun x hx => by cases hx) e2.toM
    have : rangeOf ps p most = [] := if_pos hn
    rw [this]; exact Ow.nil _ _ _
  rw [BiP_lss]
  refine cdp (fun hlt => no h1 e1 (.inl hlt)) (fun hge => (LdA_b k1 rfl).2 (c_lex_Empty (s := p) fun h2 e2 => ?_))
  have e12 := e1.trans e2
  cases hp : p.empty with
  | true => exact no h2 e12 (.inr hp)
  | false =>
    unfold m_scan_Range_j11
    rw [CdP_false]
    unfold m_scan_Range_j12
    refine ⟨_, #[ptr sp 0, int most, .slice none 0 0], rfl, rfl, ?_⟩
    refine bxa (cs := [ptr sp 0, int most, .slice none 0 0]) fun b h3 e3 hb3 k3 _ => ?_
    have hl := e12.le
    have a1 : Lat lab (loc lab h b) h := loc_lat lab (by omega)
    have kk := (k.lat a1).ext (e12.trans e3)
    refine (LdA_b ((k1.ext e2).ext e3) rfl).2 ?_
    refine c_scan_visit kk h0 hi hV ho k3 loc_at (by omega) hm2 hp fun l4 h4 D4 rd4 wr4 v a4 k4 kb4 o4 z4 e4 => ?_
    rw [BiP_neq]
    refine cdp (fun h => absurd rfl h) fun _ => ?_
    refine fl (v := v) (by rw [kb4.get]; rfl) ?_
    have e03 := e12.trans e3
    refine r l4 h4 D4 rd4 wr4 v (a1.trans a4 e03.le) k4 (o4.low e03.le) z4 ?_
    have hl3 := e03.le
    refine ⟨Nat.le_trans hl3 e4.le, fun x hx hn => (e4.eq x (by omega) fun hm => ?_).trans (e03.eq x hx id)⟩
    rcases hm with ⟨h1, h2⟩ | h1
    · rw [a1 x hx] at h1 h2; exact hn ⟨h1, h2⟩
    · omega
end
end Go.Sg
namespace Go.Sg
open Go Vc
def rangeK (ps : List Pair) (lo hi : Str) (n : Int) : List Pair := if lo < hi then rangeOf ps ⟨lo, hi, false⟩ n else []
section
variable {lab lab' : Nat → Nat} {h h' : Heap} {K : Kt} {s : Nat} {c : Config} {ps : List Pair} {lo hi : Str} {n : Int}
theorem c_kv_Range (k : KvS lab h s c ps) (hn : n < 9223372036854775808)
    (r : ∀ lab' h' v, Lat lab lab' h → KvS lab' h' s c ps → Ow h.size t_api_Pair h' v (rangeK ps lo hi n) → (∀ b, v.ownBlock = some b → lab' b = 0) → Ex (Lb lab 1 15) h h' → K (.tuple #[v, int 0]) h') : Ca f_kv_Store_Range #[ptr s 0, str lo, str hi, int n] h K := by
  refine m_kv_Store_Range_ok (bx (v := ptr s 0) (fun b1 h1 e1 hb1 k1 _ => bx (v := str lo) fun b2 h2 e2 hb2 k2 _ => bx (v := str hi) fun b3 h3 e3 hb3 k3 _ => bx (v := int n) fun b4 h4 e4 hb4 k4 _ => al fun b5 h5 e5 hb5 k5 _ => ?_))
  have hl1 := e1.le
  have hl2 := e2.le
  have hl3 := e3.le
  have hl4 := e4.le
  have e25 : Ext h2 h5 := (e3.trans e4).trans e5
  have e15 := e2.trans e25
  have k1 := k1.ext e15
  have k2 := k2.ext e25
  have k3 := k3.ext (e4.trans e5)
  have k4 := k4.ext e5
  have e05 := e1.trans e15
  refine ld (v := ptr s 0) (by rw [k1.get]; rfl) ?_
  let lab0 := loc lab h b5
  have a0 : Lat lab lab0 h := loc_lat lab (by omega)
  have q5 : lab0 b5 = 99 := loc_at
  have q1 : lab0 b1 = 0 := (upd_ne (by omega)).trans (frl_new (by omega))
  have kk := (k.lat a0).ext e05
  obtain ⟨mp, tp, sp, dp, D, V, S, root, rd, wr, a, b, d, e, ks, km, l15⟩ := kk
  obtain ⟨dg, kd, _, _⟩ := km.ds l15
  refine c_kv_count ks km.blk kd (km.ne l15) l15 fun h6 Q e6 hQ => cvhc (by kernel_rfl) ?_
  show Ca f_kv_Store_Range_1 #[ptr b2 0, ptr b3 0, ptr b1 0, ptr b4 0, ptr b5 0] h6 Q
  let l6 := frl lab0 h5
  have a6 : Lat lab0 l6 h5 := frl_lat _ _
  have km6 := (km.lat a6).ext e6
  have ks6 := ks.ext e6
  have k16 := k1.ext e6
  have k26 := k2.ext e6
  have k36 := k3.ext e6
  have k46 := k4.ext e6
  have k56 := k5.ext e6
  have l15' : l6 s = 15 := (a6 _ ks.lt).trans l15
  have l14' : l6 mp = 14 := km6.l14
  have q5' : l6 b5 = 99 := (a6 _ k5.lt).trans q5
  have hbs : b5 ≠ s := fun h => by rw [h, l15] at q5; omega
  have a06 : Lat lab l6 h := a0.trans a6 e05.le
  have e06 : Ext h h6 := e05.trans e6
  have hl06 := e06.le
  have hl05 : h.size ≤ h5.size := e05.le
  have fin : ∀ (l8 : Nat → Nat) (h8 h9 : Heap) D8 rd8 wr8 (v : Value), Lat l6 l8 h6 → MtS l8 h8 mp tp sp dp c D8 V S root ps rd8 wr8 → Blk h8 s (kvc c (ptr mp 0) true a b d e) → Ow h6.size t_api_Pair h8 v (rangeK ps lo hi n) → (∀ x, v.ownBlock = some x → l8 x = 0) → Ex (Lb l6 1 12) h6 h8 → Ex (fun x => x = b5) h8 h9 → Blk h9 b5 [v] → Q (int 0) h9 := fun l8 h8 h9 D8 rd8 wr8 v a8 km8 ks8 o8 z8 e8 e9 k59 => by
    have l158 : l8 s = 15 := (a8 _ ks6.lt).trans l15'
    have q58 : l8 b5 = 99 := (a8 _ k56.lt).trans q5'
    have e9' : Ex (Lb l8 99 99) h8 h9 := one_lb e9 ⟨by rw [q58]; decide, by rw [q58]; decide⟩
    have km9 := km8.ex15 e9' (by decide)
    have ks9 := ks8.ex e9' (nLb l158 (by decide))
    obtain ⟨dg9, kd9, n1, n2⟩ := km9.ds l158
    have e69 : Ex (Lb l6 1 99) h6 h9 := a8.ex (Lb.wide e8 (by decide) (by decide)) (Lb.wide e9' (by decide) (by decide))
    refine hQ (int 0) h9 (ptr mp 0) dg9 _ _ _ _ ks9 (.inr ⟨rfl, km9.blk⟩) kd9 ⟨n1, n2⟩ e69 fun hz a' b' d' e' ez ksz => ?_
    have ez' : Ex (Lb l8 15 15) h9 hz := one_lb ez ⟨by rw [l158]; decide, by rw [l158]; decide⟩
    have k5z := k59.ex ez hbs
    refine ld (v := v) (by rw [k5z.get]; rfl) ?_
    have hb5l : b5 < h6.size := k56.lt
    have hsl : s < h6.size := ks6.lt
    have ob : ∀ x, v.ownBlock = some x → h6.size ≤ x := o8.block
    have oz : Ow h6.size t_api_Pair hz v (rangeK ps lo hi n) := (o8.exb e9 fun x hx he => by have := ob x hx; omega).exb ez fun x hx he => by have := ob x hx; omega
    refine r l8 hz v (a06.trans a8 hl06) ⟨mp, tp, sp, dp, D8, V, S, root, rd8, wr8, a', b', d', e', ksz, km9.ex15 ez' (by decide), l158⟩ (oz.low hl06) z8 ?_
    have e08 : Ex (Lb lab 1 15) h h8 := a06.ex (Ex.toM e06) (Lb.wide e8 (by decide) (by decide))
    have e09 : Ex (Lb lab 1 15) h h9 := e08.fresh e9 fun y hy he => by omega
    exact (a06.trans a8 hl06).ex e09 (Lb.wide ez' (by decide) (by decide))
  refine m_kv_Store_Range_1_ok (ld (v := str lo) (by rw [k26.get]; rfl) (ld (v := str hi) (by rw [k36.get]; rfl) (c_lex_Compare ?_)))
  rw [BiP_lss]
  refine cdp (fun hlt => ?_) (fun hge => ?_)
  · have hlt : lo < hi := cmp_lt.1 hlt
    refine ⟨fun b' _ => b' = b1 ∨ b' = b2 ∨ b' = b3 ∨ b' = b4 ∨ b' = s, ?_⟩
    refine LdX_b k16 (v := ptr s 0) rfl (fun _ => .inl rfl) ?_
    rw [NilP_ptr, FaP_ptr]
    refine LdX_b ks6 (v := ptr mp 0) rfl (fun _ => .inr (.inr (.inr (.inr rfl)))) ?_
    refine LdX_b k16 (v := ptr s 0) rfl (fun _ => .inl rfl) ?_
    rw [NilP_ptr, FaP_ptr]
    refine LdX_b ks6 (v := ptr mp 0) rfl (fun _ => .inr (.inr (.inr (.inr rfl)))) ?_
    refine LdX_b k26 (v := str lo) rfl (fun _ => .inr (.inl rfl)) ?_
    refine LdX_b k36 (v := str hi) rfl (fun _ => .inr (.inr (.inl rfl))) ?_
    refine ⟨_, #[str lo, str hi, .bool false], rfl, rfl, ?_⟩
    refine LdX_b k46 (v := int n) rfl (fun _ => .inr (.inr (.inr (.inl rfl)))) ?_
    have same : ∀ X : XS, Agr X h6 h6 := fun X b o _ => rfl
    refine c_mount_Tree km6 ⟨same _, c_tree_Shelf km6.tr ⟨same _, c_mount_Tree km6 ⟨same _, c_tree_Root km6.tr ⟨same _, ?_⟩⟩⟩⟩
    obtain ⟨kb6, ⟨⟨u, t1⟩, t2, t3, t4, t5, t6⟩, _⟩ := km6
    refine c_scan_Range (p := ⟨lo, hi, false⟩) t2 t4 t2.kl t5 t6 hn fun l8 h8 D8 rd8 wr8 v a8 k8 o8 z8 e8 => ⟨trivial, ?_⟩
    rw [ex20, ex21]
    have k58 := k56.ex e8 (nLb q5' (by decide))
    refine StP_b k58 (show 0 < 1 by decide) (by rw [one_eq]; exact o8.one) fun h9 _ e9 k59 => ⟨trivial, ?_⟩
    have kb8 := kb6.ex e8 (nLb l14' (by decide))
    have t18 := t1.ex e8 (nLb t3 (by decide))
    have ks8 := ks6.ex e8 (nLb l15' (by decide))
    exact fin l8 h8 h9 D8 rd8 wr8 v a8 ⟨kb8, ⟨⟨u, t18⟩, k8, (a8 _ t1.lt).trans t3, t4, t5, t6⟩, (a8 _ kb6.lt).trans l14'⟩ ks8 (by rw [rangeK, if_pos hlt]; exact o8) z8 e8 e9 k59
  · have hge : ¬ lo < hi := fun h => hge (cmp_lt.2 h)
    exact fin l6 h6 h6 D rd wr _ (Lat.refl _ _) km6 ks6 (by rw [rangeK, if_neg hge]; exact Ow.nil _ _ _) (fun x hx => by cases hx) (Ex.refl _ _) (Ex.refl _ _) k56
theorem c_kv_Range_closed (k : KvX h s c) (r : ∀ h', KvX h' s c → Ex (fun x => x = s) h h' → K (.tuple #[.slice none 0 0, int 13]) h') : Ca f_kv_Store_Range #[ptr s 0, str lo, str hi, int n] h K := by
  refine m_kv_Store_Range_ok (bx (v := ptr s 0) (fun b1 h1 e1 hb1 k1 _ => bx (v := str lo) fun b2 h2 e2 hb2 k2 _ => bx (v := str hi) fun b3 h3 e3 hb3 k3 _ => bx (v := int n) fun b4 h4 e4 hb4 k4 _ => al fun b5 h5 e5 hb5 k5 _ => ?_))
  have hl := (((e1.trans e2).trans e3).trans e4).le
  have e25 : Ext h2 h5 := (e3.trans e4).trans e5
  have e15 := e2.trans e25
  have k1 := k1.ext e15
  have e05 := e1.trans e15
  have hs : s < h.size := by obtain ⟨_, _, _, _, q⟩ := k; exact q.lt
  refine ld (v := ptr s 0) (by rw [k1.get]; rfl) ?_
  refine c_kv_count_closed (k.ext e05) fun h6 k6 e6 => ?_
  have k56 := k5.ex e6 (show ¬ b5 = s by omega)
  refine ld (v := .slice none 0 0) (by rw [k56.get]; rfl) ?_
  exact r h6 k6 ((Ex.toM e05).trans e6)
end
end Go.Sg
namespace Go.Sg
open Go Vc
section
variable {h : Heap} {K : Kt} {n : Nat} {D : List (List UInt8)} {U : Nat → Prop} {x : Value}
theorem c_dev_From (h1 : 5 ≤ D.length) (h2 : D.length ≤ 65536) (h3 : 1 ≤ n) (h4 : n ≤ 65536) (hall : ∀ b ∈ D, b.length = n) (s : Sl U h x D.flatten) (r : ∀ g p h', h.size ≤ g → h.size ≤ p → Dv g p h' n D 0 0 → Ext h h' → K (.tuple #[ptr p 0, int 0]) h') : Ca f_dev_From #[int n, x] h K := by
  have hl := fl_len hall
  have hm : D.length * n ≤ 4294967296 := mul_le32 h2 h4
  have hpos : 5 ≤ D.length * n := Nat.le_trans h1 (Nat.le_mul_of_pos_right _ h3)
  refine m_dev_From_ok ?_
  unfold m_dev_From
  rw [BiP_lss]
  refine cdp (fun h => absurd h (by omega)) fun _ => s.len ?_
  rw [hl]
  have er : (((D.length * n : Nat) : Int)).tmod (n : Int) = 0 := by
    show ((D.length * n % n : Nat) : Int) = _
    rw [Nat.mul_mod_left]; rfl
  refine rem64 (by omega) ?_
  rw [er, BiP_neq]
  refine cdp (fun h => absurd rfl h) fun _ => s.len ?_
  rw [hl]
  have e : (((D.length * n : Nat) : Int)).tdiv (n : Int) = (D.length : Int) := by
    show ((D.length * n / n : Nat) : Int) = _
    rw [Nat.mul_div_cancel _ (by omega)]
  refine quo64 (by omega) (by rw [e]; omega) ?_
  rw [e]
  refine c_dev_right h1 h2 h3 h4 ?_
  rw [UnP_not]
  unfold m_dev_From_j17
  refine cd (fun h => absurd h (by decide)) fun _ => ?_
  unfold m_dev_From_j18
  refine c_Clone_byte s (by omega) fun v h1' o1 e1 => ?_
  rcases o1.cases' with ⟨_, hn⟩ | ⟨g, cap, rfl, hg, og⟩
  · have := congrArg List.length hn
    simp only [List.length_nil] at this
    omega
  refine ⟨_, #[int n, .slice (some ⟨g, 0, none⟩) D.flatten.length cap, w64 0, w64 0], rfl, rfl, ?_⟩
  refine bxa (cs := [int n, .slice (some ⟨g, 0, none⟩) D.flatten.length cap, w64 0, w64 0]) fun p h2' e2 hb k2 _ => ?_
  have hgl := og.lt
  exact r g p h2' hg (by have := e1.le; omega) ⟨h1, h2, h3, h4, hall, by omega, cap, by rw [← hl]; exact k2, og.ext e2⟩ (e1.trans e2)
end
end Go.Sg
namespace Go.Sg
open Go Vc
theorem Rd.turn {rb b : Nat} {h h' : Heap} {l : List UInt8} {er : Int} {cs : List Value} (rd : Rd rb h l er) (k : Blk h b cs) (hcs : ∀ v ∈ cs, ∀ n, v ≠ .int .u8 n) (hb : b ≠ rb) (e : Ex (fun x => x = b) h h') : Rd rb h' l er := by
  obtain ⟨v, k1, s⟩ := rd
  refine ⟨v, k1.ex e (fun h => hb h.symm), ?_⟩
  obtain ⟨a, cap, hv, h1, h2, h3⟩ := s.out
  refine ⟨a, cap, hv, h1, h2, fun x hx => ⟨(h3 x hx).1, fun hl => ?_⟩⟩
  obtain ⟨q1, q2, q3⟩ := (h3 x hx).2 hl
  have hne : x.block ≠ b := fun he => by
    match l, hl with
    | c :: t, _ =>
      have := q3 0 (.int .u8 c.toNat) rfl
      rw [he, k.get] at this
      exact hcs _ (List.mem_of_getElem? this) _ rfl
  refine ⟨Nat.lt_of_lt_of_le q1 e.le, q2, fun j w hj => ?_⟩
  rw [hget_eq (e.eq _ q1 hne)]; exact q3 j w hj
section
variable {h : Heap} {K : Kt} {c : Config} {root ht : Nat} {U : Nat → Prop} {x : Value}
def hcl (c : Config) (i : Nat) : List Value := ((hnums c).take i).map (Value.int .i64) ++ List.replicate (8 - i) (int 0) ++ [.int .u32 0, int 0]
theorem hcl_no8 (i : Nat) : ∀ v ∈ hcl c i, ∀ n, v ≠ .int .u8 n := fun v hv n he => by
  subst he
  unfold hcl at hv
  rcases List.mem_append.1 hv with hv | hv
  · rcases List.mem_append.1 hv with hv | hv
    · obtain ⟨a, _, ha⟩ := List.mem_map.1 hv; cases ha
    · have := List.eq_of_mem_replicate hv; cases this
  · simp at hv
theorem hcl_set {i : Nat} (hi : i < 8) : (hcl c i).set i (int ((hnums c)[i]'hi)) = hcl c (i + 1) := by
  have : i = 0 ∨ i = 1 ∨ i = 2 ∨ i = 3 ∨ i = 4 ∨ i = 5 ∨ i = 6 ∨ i = 7 := by omega
  rcases this with rfl | rfl | rfl | rfl | rfl | rfl | rfl | rfl <;> rfl
theorem hcl_len {i : Nat} (hi : i ≤ 8) : (hcl c i).length = 10 := by
  unfold hcl
  have : (hnums c).length = 8 := rfl
  simp [List.length_take, this]; omega
theorem c_head_Decode (hr : hok c root ht) (s : Sl U h x (headOf c root ht)) (r : ∀ h', Ext h h' → K (.tuple #[.agg (hdv c root ht).toArray, int 0]) h') : Ca f_head_Decode #[x] h K := by
  have hrr := hr
  obtain ⟨q1, q2, q3, q4, q5⟩ := hr
  have hb := blocks_eq q1
  have hin := hnums_in q1
  have hlen := head_len (root := root) (ht := ht) q1
  have h65 := q1.2.2.2.2.2.1
  refine m_head_Decode_ok (ala (cs := hcl c 0) fun b2 h1 e1 hb2 k2 _ => ala (cs := hcl c 0) fun b4 h2 e2 hb4 k4 _ => ?_)
  have e12 := e1.trans e2
  have k2 := k2.ext e2
  have hl1 := e1.le
  have hl12 := e12.le
  refine c_word_Open (s.ext e12) (by omega) fun rb h3 hrb rd3 e3 => ?_
  have hh : headOf c root ht = magic ++ ((hnums c).flatMap (fun (n : Int) => bytesOf 4 n.toNat) ++ (bytesOf 4 root ++ (bytesOf 4 ht ++ (List.replicate 12 0 ++ bytesOf 4 (sumMore 1 (hbody c root ht)) ++ List.replicate (c.bytes.toNat - 64) 0)))) := by
    simp only [headOf, hbody, List.append_assoc]
  rw [hh] at rd3
  have hb2l : b2 < h1.size := by
    have := e1; omega
  have hb4l := k4.lt
  refine c_word_Raw (n := 8) rd3 (by simp [magic]) (by decide) fun v4 h4 _ rd4 e4 => ?_
  have hd8 : (magic ++ ((hnums c).flatMap (fun (n : Int) => bytesOf 4 n.toNat) ++ (bytesOf 4 root ++ (bytesOf 4 ht ++ (List.replicate 12 0 ++ bytesOf 4 (sumMore 1 (hbody c root ht)) ++ List.replicate (c.bytes.toNat - 64) 0))))).drop 8 = (hnums c).flatMap (fun (n : Int) => bytesOf 4 n.toNat) ++ (bytesOf 4 root ++ (bytesOf 4 ht ++ (List.replicate 12 0 ++ bytesOf 4 (sumMore 1 (hbody c root ht)) ++ List.replicate (c.bytes.toNat - 64) 0))) := rfl
  rw [hd8] at rd4
  have k2 := (k2.ext e3).ex e4 (show ¬ b2 = rb by omega)
  have k4 := (k4.ext e3).ex e4 (show ¬ b4 = rb by omega)
  have e04 : Ext h h4 := (e12.trans e3).andThen e4 fun y hy he => by have h1 : y = rb := he; omega
  refine c_head_numbers fun h5 e5 => ?_
  refine alst (vs := nums b4) rfl rfl rfl fun b6 h6 e6 hb6 k6 _ => ?_
  refine sl_arr ?_
  refine ⟨_, _, _, rfl, ?_⟩
  have e56 := e5.trans e6
  have k2 := k2.ext e56
  have k4 := k4.ext e56
  have rd6 := rd4.ext e56
  have e06 := e04.trans e56
  have hrl : rb < h4.size := rd4.ne
  have hl5 : h4.size ≤ h5.size := e5.le
  refine lop (σ := Nat) (fun i => [int i]) (fun i h' => Ext h h' ∧ i ≤ 8 ∧ Blk h' b2 (hcl c 0) ∧ Blk h' b4 (hcl c i) ∧ Blk h' b6 (nums b4) ∧
      Rd rb h' (((hnums c).drop i).flatMap (fun (n : Int) => bytesOf 4 n.toNat) ++ (bytesOf 4 root ++ (bytesOf 4 ht ++ (List.replicate 12 0 ++ bytesOf 4 (sumMore 1 (hbody c root ht)) ++ List.replicate (c.bytes.toNat - 64) 0)))) 0)
    (fun i => 8 - i) 0 rfl ⟨e06, Nat.zero_le _, k2, k4, k6, rd6⟩ ?_
  rintro i h7 N ⟨e7, hi, k27, k47, k67, rd7⟩ hN
  simp only [m_head_Decode_l18, gv_zero]
  rw [BiP_lss]
  refine cdp (fun hlt => ?_) (fun hge => ?_)
  · have hlt : i < 8 := by omega
    obtain ⟨n0, n1⟩ := hin _ (List.getElem_mem (show i < (hnums c).length from hlt))
    refine ix_own hlt ?_
    refine ld (v := ptr b4 i) (by
      rw [k67.get]
      have : i = 0 ∨ i = 1 ∨ i = 2 ∨ i = 3 ∨ i = 4 ∨ i = 5 ∨ i = 6 ∨ i = 7 := by omega
      rcases this with rfl | rfl | rfl | rfl | rfl | rfl | rfl | rfl <;> rfl) ?_
    have hdr : (hnums c).drop i = ((hnums c)[i]'hlt) :: (hnums c).drop (i + 1) := List.drop_eq_getElem_cons hlt
    rw [hdr, List.flatMap_cons, List.append_assoc] at rd7
    refine c_Num (w := 4) rd7 (.inr (.inr (.inl rfl))) (by show _ < (256 : Nat) ^ 4; omega) fun h8 rd8 e8 => ?_
    rw [CvP_int, wrap64 (by omega) (by omega), NilP_ptr]
    have k28 := k27.ex e8 (show ¬ b2 = rb by omega)
    have k48 := k47.ex e8 (show ¬ b4 = rb by omega)
    have k68 := k67.ex e8 (show ¬ b6 = rb by omega)
    refine StP_b k48 (by rw [hcl_len hi]; omega) rfl fun h9 _ e9 k49 => ?_
    have hv : (((hnums c)[i]'hlt).toNat : Int) = (hnums c)[i]'hlt := by omega
    rw [hv, hcl_set hlt] at k49
    refine add64 (by omega) ?_
    have e79 : Ext h h9 := (e7.andThen e8 fun y hy he => by have h1 : y = rb := he; omega).andThen e9 fun y hy he => by omega
    have := hN (i + 1) h9 ⟨e79, by omega, k28.ex e9 (show ¬ b2 = b4 by omega), k49, k68.ex e9 (show ¬ b6 = b4 by omega), rd8.turn k48 (hcl_no8 i) (by omega) e9⟩ (by omega)
    simpa using this
  · have hi8 : i = 8 := by omega
    subst hi8
    have hd0 : (hnums c).drop 8 = [] := rfl
    rw [hd0, List.flatMap_nil, List.nil_append] at rd7
    unfold m_head_Decode_j30
    refine c_Num (w := 4) rd7 (.inr (.inr (.inl rfl))) (by show _ < (256 : Nat) ^ 4; omega) fun h8 rd8 e8 => ?_
    have k28 := k27.ex e8 (show ¬ b2 = rb by omega)
    have k48 := k47.ex e8 (show ¬ b4 = rb by omega)
    rw [CvP_int, wrap32 (by omega) (by omega), FaP_ptr]
    refine StP_b k48 (show 0 + 8 < 10 by decide) rfl fun h9 _ e9 k49 => ?_
    have rd9 := rd8.turn k48 (hcl_no8 8) (by omega) e9
    have k29 := k28.ex e9 (show ¬ b2 = b4 by omega)
    refine c_Num (w := 4) rd9 (.inr (.inr (.inl rfl))) (by show _ < (256 : Nat) ^ 4; omega) fun h10 rd10 e10 => ?_
    have k210 := k29.ex e10 (show ¬ b2 = rb by omega)
    have k410 := k49.ex e10 (show ¬ b4 = rb by omega)
    rw [CvP_int, wrap64 (by omega) (by omega), FaP_ptr]
    refine StP_b k410 (show 0 + 9 < 10 by decide) rfl fun h11 _ e11 k411 => ?_
    have k411 : Blk h11 b4 (hdv c root ht) := k411
    have k211 := k210.ex e11 (show ¬ b2 = b4 by omega)
    have rd11 := rd10.turn k410 (fun v hv n he => by subst he; simp [hcl, hnums] at hv) (by omega) e11
    have e811 : Ext h h11 := ((((e7.andThen e8 fun y hy he => by have h1 : y = rb := he; omega).andThen e9 fun y hy he => by omega).andThen e10 fun y hy he => by have h1 : y = rb := he; omega)).andThen e11 fun y hy he => by omega
    refine c_word_Err rd11 ?_
    rw [BiP_neq]
    refine cdp (fun h => absurd rfl h) fun _ => ?_
    refine (LdA_b k411 rfl).2 ?_
    refine c_head_Encode hrr fun y h12 o12 e12 => ?_
    rw [ex20, ex21, BiP_neq]
    refine cdp (fun h => absurd rfl h) fun _ => ?_
    refine c_Equal_byte (o12.sl (U := No) fun _ _ h => h) ((s.ext e811).ext e12).no (by omega) rfl ?_
    rw [UnP_not]
    unfold m_head_Decode_j60
    refine cd (fun h => absurd h (by decide)) fun _ => ?_
    unfold m_head_Decode_j64
    refine (LdA_b (k411.ext e12) rfl).2 ?_
    refine StA_b (vs := hdv c root ht) (k211.ext e12) rfl rfl rfl fun h13 _ e13 k13 => ?_
    refine (LdA_b k13 rfl).2 (r h13 ?_)
    exact (e811.trans e12).andThen e13 fun y hy he => by omega
end
end Go.Sg
namespace Go.Sg
open Go Vc
section
variable {lab lab' : Nat → Nat} {h h' : Heap} {sp dp kept i b : Nat} {c : Config} {D D' : List (List UInt8)} {V : Nat → List UInt8} {S : Nat → Bool} {rd wr rd' wr' : BitVec 64} {K : Kt} {ps : List Pair} {t : TypeId} {xo yo : Operand}
theorem neq_func_nil {f : Fn} {fs cap : Array Value} {ts rs : Array TypeId} {vr : Bool} (ht : Pg.underlying t = some (.func ts rs vr)) (r : K (.bool true) h) : EqP .neq t xo yo (.func f fs cap) .nilFunc h K := by
  refine eqp (v := .bool true) (fun w => by simp [eqGuard]) (fun w => ?_) r
  have he : ∀ d, (Op.equalIn (d + 1) t (.func f fs cap) .nilFunc).run Pg w = .ok false w := fun d => by
    simp [Op.equalIn, run_underlying ht]
  have he : (Op.equal t (.func f fs cap) .nilFunc).run Pg w = .ok false w := he 9999
  simp only [binOp]
  simp [he]
theorem c_walk_All (k : ShS lab h sp dp c D V S kept rd wr) (h0 : 0 < i) (hi : i < c.blocks.toNat) (hV : V i = leafOf c (nl ps)) (ho : lok c ps) (hb : lab b = 99) (hbl : b < h.size) {f : Fn} {fs cap : Array Value} {P : (Nat → Nat) → Heap → Prop}
    (on : ∀ lab1 h1 D1 rd1 wr1 v Q, Lat lab lab1 h → ShS lab1 h1 sp dp c D1 V S kept rd1 wr1 → No' h.size h1 v (nl ps) → (∀ x, h1.size ≤ x → lab1 x = 50) → Ex (Lb lab 1 12) h h1 → (∀ h2, Ex (fun x => x = b) h1 h2 → P lab1 h2 → Q (.bool true) h2) → CvH Pg (.func f fs cap) #[.int .u32 i, v, allSpan.v] h1 Q)
    (r : ∀ lab' h' D' rd' wr', Lat lab lab' h → ShS lab' h' sp dp c D' V S kept rd' wr' → P lab' h' → Ex (fun x => Lb lab 1 12 x ∨ x = b) h h' → K (int 0) h') :
    Ca f_walk_All #[ptr sp 0, .int .u32 i, .func f fs cap] h K := by
  have hr := k.right
  refine m_walk_All_ok (vc_makeMap (ev := Value.bool) fun mb h1 hmb m1 hs1 q1 => ?_)
  have e1 : Ext h h1 := ⟨by omega, fun x hx _ => q1 x hx⟩
  refine ⟨_, #[ptr sp 0, .map (some mb), .func f fs cap, .bool false], rfl, rfl, ?_⟩
  refine bxa (cs := [ptr sp 0, .map (some mb), .func f fs cap, .bool false]) fun wb h2 e2 hwb kw2 _ => ?_
  refine c_lex_All fun h3 e3 => ?_
  have e23 : Ext h1 h3 := e2.trans e3
  have e03 := e1.trans e23
  let l0 := loc lab h mb
  have a3 : Lat lab l0 h := loc_lat lab (by omega)
  have k3 := (k.lat a3).ext e03
  have m3 : Mp Value.bool h3 mb [] := by
    obtain ⟨es, cl, z1, z2⟩ := m1; exact ⟨es, cl, e23.get z1, z2⟩
  have kw3 := kw2.ext e3
  have l03 := e03.le
  have l12 := e2.le
  have l23 := e3.le
  have lw : l0 wb = 0 := (upd_ne (by omega)).trans (frl_new (by omega))
  have lm : l0 mb = 99 := loc_at
  refine m_walk_walker_visit_ok (bxa (cs := allSpan.cs) fun b4 h4 e4 hb4 k4 _ => ?_)
  have kw4 := kw3.ext e4
  have l4 : l0 b4 = 0 := (upd_ne (by omega)).trans (frl_new (by omega))
  refine fl (v := ptr sp 0) (by rw [kw4.get]; rfl) ?_
  refine c_shelf_Load (k3.ext e4) h0 hi hV rfl ho fun l5 h5 D5 rd5 wr5 v5 a5 k5 d5 e5 _ _ => ?_
  have kw5 := kw4.ex e5 (nLb lw (by decide))
  have k45 := k4.ex e5 (nLb l4 (by decide))
  have m5 : Mp Value.bool h5 mb [] := by
    obtain ⟨es, cl, z1, z2⟩ := m3; exact ⟨es, cl, e5.get (e4.get z1) (nLb lm (by decide)), z2⟩
  obtain ⟨vk, vp, vb, vl, rfl, d1, d2, d3, d4⟩ := d5.out
  rw [ex20, ex21]
  refine alst (vs := [int 0, vk, vp, vb, vl]) rfl rfl (by simp [one_eq, d1.one, d2.one, d3.one, d4.one]; rfl) fun b6 h6 e6 hb6 k6 _ => ?_
  have kw6 := kw5.ext e6
  have k46 := k45.ext e6
  have m6 : Mp Value.bool h6 mb [] := by
    obtain ⟨es, cl, z1, z2⟩ := m5; exact ⟨es, cl, e6.get z1, z2⟩
  have k6s := k5.ext e6
  have d6 := d5.ext e6
  rw [BiP_neq]
  refine cdp (fun h => absurd rfl h) fun _ => ?_
  refine ⟨fun b' _ => b' = wb ∨ b' = b4 ∨ b' = b6, ?_⟩
  rw [NilP_ptr, FaP_ptr]
  refine LdX_b kw6 (v := .map (some mb)) rfl (fun _ => .inl rfl) ?_
  refine vc_lookup (kt := t_uint32) (et := t_bool) (z := .bool false) false (by kernel_rfl) (by kernel_rfl) (by kernel_rfl) m6 ?_
  have same : ∀ X : XS, Agr X h6 h6 := fun X b o _ => rfl
  refine ⟨same _, ?_⟩
  show CdP (.bool false) _ _
  rw [CdP_false, BiP_geq]
  refine cdp (fun h => absurd h (by decide)) fun _ => ?_
  rw [NilP_ptr, FaP_ptr]
  refine LdX_b kw6 (v := ptr sp 0) rfl (fun _ => .inl rfl) ?_
  refine LaX_b k46 rfl (fun _ => .inr (.inl rfl)) (LaX_b k6 rfl (fun _ => .inr (.inr rfl)) ?_)
  refine c_shelf_Config k6s fun h7 e7 => ?_
  have agx : ∀ {h'}, Ext h6 h' → Agr (fun b' _ => b' = wb ∨ b' = b4 ∨ b' = b6) h6 h' := fun e x o hx => by
    have hx6 : x < h6.size := by rcases hx with rfl | rfl | rfl; exact kw6.lt; exact k46.lt; exact k6.lt
    exact hget_eq (e.eq x hx6 id) o
  refine ⟨agx e7, ?_⟩
  have hfit := lok_fits hr ho
  refine c_node_Right_leaf (n := nl ps) (s := allSpan) (d6.ext e7) hfit rfl fun h8 e8 => ⟨trivial, ?_⟩
  have hok : outerOk c allSpan (nl ps) = true := ho
  rw [hok, UnP_not]
  unfold m_walk_walker_visit_j55
  refine cd (fun h => absurd h (by decide)) fun _ => ?_
  unfold m_walk_walker_visit_j56
  have e68 : Ext h6 h8 := e7.trans e8
  have kw8 := kw6.ext e68
  have m8 : Mp Value.bool h8 mb [] := by
    obtain ⟨es, cl, z1, z2⟩ := m6; exact ⟨es, cl, e68.get z1, z2⟩
  refine fl (v := .map (some mb)) (by rw [kw8.get]; rfl) ?_
  refine vc_mapUpdate (kt := t_uint32) (et := t_bool) (ev := Value.bool) (v := true) (by kernel_rfl) (by kernel_rfl) m8 fun h9 m9 hs9 q9 => ?_
  have e9 : Ex (fun x => x = mb) h8 h9 := ⟨by omega, fun x _ hx => q9 x hx⟩
  have hwm : wb ≠ mb := by omega
  have kw9 := kw8.ex e9 hwm
  have hb4m : b4 ≠ mb := by omega
  have l45 : h4.size ≤ h5.size := e5.le
  have hb6m : b6 ≠ mb := by have h1 := e4.le; omega
  have k49 := (k46.ext e68).ex e9 hb4m
  have k69 := (k6.ext e68).ex e9 hb6m
  refine ⟨fun b' _ => b' = wb ∨ b' = b4 ∨ b' = b6, ?_⟩
  rw [NilP_ptr, FaP_ptr]
  refine LdX_b kw9 (v := .func f fs cap) rfl (fun _ => .inl rfl) ?_
  refine neq_func_nil (ts := #[t_uint32, t_api_Node, t_api_Span]) (rs := #[t_bool]) (vr := false) (by kernel_rfl) ⟨fun b o _ => rfl, ?_⟩
  rw [CdP_true, NilP_ptr, FaP_ptr]
  refine LdX_b kw9 (v := .func f fs cap) rfl (fun _ => .inl rfl) ?_
  refine LaX_b k69 rfl (fun _ => .inr (.inr rfl)) (LaX_b k49 rfl (fun _ => .inr (.inl rfl)) ?_)
  have hl4 := e4.le
  have hml := m3.lt
  have lm5 : l5 mb = 99 := (a5 _ (by omega)).trans lm
  have d9 : Nd (Use l5) h9 (.agg #[int 0, vk, vp, vb, vl]) (nl ps) := (d6.ext e68).keep e9 fun x hx => by subst hx; show l5 x ≠ 0; rw [lm5]; decide
  refine c_node_Clone d9 hfit fun y h10 n10 e10 => ?_
  have agx : Agr (fun b' _ => b' = wb ∨ b' = b4 ∨ b' = b6) h9 h10 := fun x o hx => by
    have hx6 : x < h9.size := by rcases hx with rfl | rfl | rfl; exact kw9.lt; exact k49.lt; exact k69.lt
    exact hget_eq (e10.eq x hx6 id) o
  refine ⟨agx, ?_⟩
  have e9' : Ex (Lb l5 99 99) h8 h9 := one_lb e9 ⟨by rw [lm5]; decide, by rw [lm5]; decide⟩
  have k10 := (((k6s.ext e68).ex13 e9' (by decide))).ext e10
  have a05 : Lat lab l5 h := a3.trans a5 (by omega)
  have e04 : Ext h h4 := e03.trans e4
  have e05 : Ex (Lb lab 1 12) h h5 := a3.ex (Ex.toM e04) e5
  have e08 : Ex (Lb lab 1 12) h h8 := e05.trans (Ex.toM (e6.trans e68))
  have e09 : Ex (Lb lab 1 12) h h9 := e08.fresh e9 fun x hx he => by omega
  have e010 : Ex (Lb lab 1 12) h h10 := e09.trans (Ex.toM e10)
  have hl09 := e09.le
  have n0 : No' h.size h10 y (nl ps) := by
    obtain ⟨z1, z2, z3, z4, z5, z6, z7, z8, z9⟩ := n10
    exact ⟨z1, z2, z3, z4, z5, z6.low hl09, z7.low hl09, z8.low hl09, z9.low hl09⟩
  have kw10 := kw9.ext e10
  have k610 := k69.ext e10
  let l10 : Nat → Nat := fun x => if x < h10.size then l5 x else 50
  have a10 : Lat l5 l10 h10 := fun x hx => if_pos hx
  have k10 := k10.lat a10
  have a05' : Lat lab l10 h := a05.trans (fun x hx => a10 x (by have := e010.le; have := e05.le; omega)) (Nat.le_refl _) |> fun z => z
  refine on l10 h10 D5 rd5 wr5 y _ a05' k10 n0 (fun x hx => if_neg (by omega)) e010 fun h11 e11 hP => ⟨trivial, ?_⟩
  rw [UnP_not]
  unfold m_walk_walker_visit_j81
  refine cd (fun h => absurd h (by decide)) fun _ => ?_
  have hb6b : b6 ≠ b := by omega
  have k611 := k610.ex e11 hb6b
  unfold m_walk_walker_visit_j85
  refine fv (v := vk) (by rw [k611.get]; rfl) ?_
  have sk : Sl No h5 vk ([] : List U32) := d1.no
  obtain ⟨ak, ck, rfl, _⟩ := sk.out
  rw [LenP_slice]
  refine lop (σ := Unit) (fun _ => [int 0, int 0]) (fun _ h' => h' = h11) (fun _ => 0) () rfl rfl ?_
  rintro _ h12 N rfl hN
  simp only [m_walk_walker_visit_l90, gv_zero, gv_succ]
  rw [BiP_lss]
  refine cdp (fun h => absurd h (by decide)) fun _ => ?_
  unfold m_walk_walker_visit_j122
  have l5b : l10 b = 99 := (a05' b hbl).trans hb
  have k12 := k10.ex13 (one_lb e11 ⟨by rw [l5b]; decide, by rw [l5b]; decide⟩ : Ex (Lb l10 99 99) h10 h12) (by decide)
  exact r l10 h12 D5 rd5 wr5 a05' k12 hP ((e010.mono fun _ _ h => .inl h).trans (e11.mono fun _ _ h => .inr h))
end
end Go.Sg
