/-
  Part 25 of a proof: own texts, merged by program.
-/
import Derived.Test.YtoahnccffedojaaGreatDoorP23
import Derived.Test.YtoahnccffedojaaGreatDoorP24
set_option linter.unusedVariables false
set_option linter.unusedSimpArgs false
/-! Contracts of kv: a store that nobody made. -/
namespace Go.Sg
open Go Vc
/-- A store's cells. -/
def kvc (c : Config) (m : Value) (made : Bool) (a b d e : BitVec 64) : List Value := c.cs ++ [m, .bool made, w64 a, w64 b, w64 d, w64 e]
def Config.zero : Config := ⟨0, 0, 0, 0, 0, 0, 0, 0⟩
def kz : List Value := kvc .zero (.pointer none) false 0 0 0 0
/-- A store that nobody made: none, or an empty one. -/
def Nob (h : Heap) (s : Value) : Prop := s = .pointer none ∨ ∃ b, s = ptr b 0 ∧ Blk h b kz
/-- A store's own block. -/
def own1 (s : Value) : Nat → Prop := fun x => s = ptr x 0
section
variable {h h' : Heap} {K : Kt} {s : Value} {H : Heap → Prop}
theorem StA_at {b o n} {vs cs ds : List Value} (k : Blk h b cs) (ho : o + n ≤ cs.length) (hl : vs.length = n) (hv : vs.all one' = true) (hd : over cs o vs = ds) (r : ∀ h', h'.size = h.size → Ex (fun x => x = b) h h' → Blk h' b ds → H h') : StA n (ptr b o) (.agg vs.toArray) h H :=
  StA_blk k ho hl hv (r _ (size_hsets _ _ _ _) (hsets_ex rfl) (by have := hsets_blk vs o k; rwa [hd] at this))
theorem Nob.ext (n : Nob h s) (e : Ext h h') : Nob h' s := n.imp id fun ⟨b, h1, h2⟩ => ⟨b, h1, h2.ext e⟩
theorem Nob.ptr (n : Nob h s) : one' s = true := by rcases n with rfl | ⟨b, rfl, _⟩ <;> rfl
theorem Nob.lt (n : Nob h s) {x : Nat} (hx : own1 s x) : x < h.size := by
  rcases n with rfl | ⟨b, rfl, k⟩
  · cases hx
  · cases hx; exact k.lt
theorem own1_new {b : Nat} (n : Nob h s) (hb : h.size ≤ b) : ¬ own1 s b := fun hx => by have := n.lt hx; omega
theorem c_kv_open_nob (n : Nob h s) (r : K (int 1) h) : Ca f_kv_Store_open #[s] h K := by
  rcases n with rfl | ⟨b, rfl, k⟩
  · refine m_kv_Store_open_ok (eq_ptr_nil (by kernel_rfl) ?_)
    exact r
  · refine m_kv_Store_open_ok (eq_ptr_nil (by kernel_rfl) (fl (v := .bool false) (by rw [k.get]; rfl) ?_))
    rw [UnP_not]
    exact r
theorem c_kv_count_nob {f : Value} (n : Nob h s) (r : ∀ h', Nob h' s → Ex (own1 s) h h' → K (int 1) h') : Ca f_kv_Store_count #[s, f] h K := by
  refine m_kv_Store_count_ok (c_kv_open_nob n ?_)
  rw [BiP_neq]
  refine cdp (fun _ => ?_) fun h => absurd (by decide) h
  rcases n with rfl | ⟨b, rfl, k⟩
  · refine neq_ptr_nil (by kernel_rfl) ?_
    exact r h (.inl rfl) (Ex.refl _ _)
  · refine neq_ptr_nil (by kernel_rfl) ?_
    refine ⟨_, #[w64 0, w64 0], rfl, rfl, ?_⟩
    show NilP (ptr b 0) _
    rw [NilP_ptr, FaP_ptr]
    refine StA_at (vs := [w64 0, w64 0]) k (by decide) rfl rfl (ds := kz) rfl fun h1 hs1 e1 k1 => ?_
    exact r h1 (.inr ⟨b, rfl, k1⟩) (e1.mono fun x _ hx => by subst hx; rfl)
theorem Ex.ow1 {h1 h2 h3 : Heap} (n : Nob h1 s) (a : Ext h1 h2) (e : Ex (own1 s) h2 h3) : Ex (own1 s) h1 h3 := (Ex.toM a).trans e
theorem c_kv_put_nob {m : Msg} (n : Nob h s) (r : ∀ h', Nob h' s → Ex (own1 s) h h' → K (int 1) h') : Ca f_kv_Store_put #[s, m.v] h K := by
  refine m_kv_Store_put_ok (bx (fun b1 h1 e1 hb1 k1 _ => bxa (cs := [str m.key, .bool m.del, str m.val]) fun b2 h2 e2 hb2 k2 _ => ?_))
  have hc : s.cells.toList = [s] := by rcases n with rfl | ⟨b, rfl, k⟩ <;> rfl
  rw [hc] at k1
  refine ld (v := s) (by rw [(k1.ext e2).get]; rfl) ?_
  refine c_kv_count_nob ((n.ext e1).ext e2) fun h3 n3 e3 => ?_
  exact r h3 n3 (Ex.ow1 n (e1.trans e2) e3)
theorem c_kv_Put_nob {k v : Str} (n : Nob h s) (r : ∀ h', Nob h' s → Ex (own1 s) h h' → K (int 1) h') : Ca f_kv_Store_Put #[s, str k, str v] h K := by
  refine m_kv_Store_Put_ok ⟨_, #[str k, .bool false, str v], rfl, rfl, ?_⟩
  exact c_kv_put_nob (m := ⟨k, false, v⟩) n r
theorem c_kv_Delete_nob {k : Str} (n : Nob h s) (r : ∀ h', Nob h' s → Ex (own1 s) h h' → K (int 1) h') : Ca f_kv_Store_Delete #[s, str k] h K := by
  refine m_kv_Store_Delete_ok ⟨_, #[str k, .bool true, str []], rfl, rfl, ?_⟩
  exact c_kv_put_nob (m := ⟨k, true, []⟩) n r
theorem Nob.cells (n : Nob h s) : s.cells.toList = [s] := by rcases n with rfl | ⟨b, rfl, k⟩ <;> rfl
theorem c_kv_Get_nob {k : Str} (n : Nob h s) (r : ∀ h', Nob h' s → Ex (own1 s) h h' → K (.tuple #[str [], int 1]) h') : Ca f_kv_Store_Get #[s, str k] h K := by
  refine m_kv_Store_Get_ok (bx (fun b1 h1 e1 hb1 k1 _ => bx fun b2 h2 e2 hb2 k2 _ => al fun b3 h3 e3 hb3 k3 _ => ?_))
  rw [n.cells] at k1
  refine StP_b k3 (show 0 < 1 by decide) rfl fun h4 _ e4 k4 => ?_
  have e13 : Ext h1 h3 := e2.trans e3
  have n3 := (n.ext e1).ext e13
  have hl3 := e3.le
  have hl2 := e2.le
  have hl1 := e1.le
  have l3 := k3.lt
  have n4 : Nob h4 s := n3.imp id fun ⟨b, q1, q2⟩ => ⟨b, q1, q2.ex e4 (by have := n.lt (x := b) q1; omega)⟩
  have k1 := (k1.ext e13).ex e4 (by omega)
  refine ld (v := s) (by rw [k1.get]; rfl) ?_
  refine c_kv_count_nob n4 fun h5 n5 e5 => ?_
  have k5 := k4.ex e5 (own1_new n (by omega))
  refine ld (v := str []) (by rw [k5.get]; rfl) ?_
  refine r h5 n5 ?_
  have e04 : Ext h h4 := ((e1.trans e13)).andThen e4 fun x hx he => by omega
  exact (Ex.toM e04).trans e5
theorem c_kv_Range_nob {lo hi : Str} {m : Int} (n : Nob h s) (r : ∀ h', Nob h' s → Ex (own1 s) h h' → K (.tuple #[.slice none 0 0, int 1]) h') : Ca f_kv_Store_Range #[s, str lo, str hi, int m] h K := by
  refine m_kv_Store_Range_ok (bx (fun b1 h1 e1 hb1 k1 _ => bx fun b2 h2 e2 hb2 k2 _ => bx fun b3 h3 e3 hb3 k3 _ => bx fun b4 h4 e4 hb4 k4 _ => al fun b5 h5 e5 hb5 k5 _ => ?_))
  rw [n.cells] at k1
  have e15 : Ext h1 h5 := ((e2.trans e3).trans e4).trans e5
  have k1 := k1.ext e15
  have hl := (((e1.trans e2).trans e3).trans e4).le
  refine ld (v := s) (by rw [k1.get]; rfl) ?_
  refine c_kv_count_nob ((n.ext e1).ext e15) fun h6 n6 e6 => ?_
  have k5 := k5.ex e6 (own1_new n (by omega))
  refine ld (v := .slice none 0 0) (by rw [k5.get]; rfl) ?_
  exact r h6 n6 ((Ex.toM (e1.trans e15)).trans e6)
theorem c_kv_Sync_nob (n : Nob h s) (r : ∀ h', Nob h' s → Ex (own1 s) h h' → K (int 1) h') : Ca f_kv_Store_Sync #[s] h K := by
  refine m_kv_Store_Sync_ok (bx (fun b1 h1 e1 hb1 k1 _ => ?_))
  rw [n.cells] at k1
  refine ld (v := s) (by rw [k1.get]; rfl) ?_
  refine c_kv_count_nob (n.ext e1) fun h6 n6 e6 => ?_
  exact r h6 n6 ((Ex.toM e1).trans e6)
theorem c_kv_Reopen_nob (n : Nob h s) (r : ∀ h', Nob h' s → Ex (own1 s) h h' → K (int 1) h') : Ca f_kv_Store_Reopen #[s] h K := by
  refine m_kv_Store_Reopen_ok (bx (fun b1 h1 e1 hb1 k1 _ => ?_))
  rw [n.cells] at k1
  refine ld (v := s) (by rw [k1.get]; rfl) ?_
  refine c_kv_count_nob (n.ext e1) fun h6 n6 e6 => ?_
  exact r h6 n6 ((Ex.toM e1).trans e6)
theorem c_kv_Close_nob (n : Nob h s) (r : ∀ h', Nob h' s → Ex (own1 s) h h' → K (.tuple #[.slice none 0 0, int 1]) h') : Ca f_kv_Store_Close #[s] h K := by
  refine m_kv_Store_Close_ok (bx (fun b1 h1 e1 hb1 k1 _ => al fun b2 h2 e2 hb2 k2 _ => ?_))
  rw [n.cells] at k1
  have k1 := k1.ext e2
  have hl := e1.le
  refine ld (v := s) (by rw [k1.get]; rfl) ?_
  refine c_kv_count_nob ((n.ext e1).ext e2) fun h6 n6 e6 => ?_
  have k2 := k2.ex e6 (own1_new n (by omega))
  refine ld (v := .slice none 0 0) (by rw [k2.get]; rfl) ?_
  exact r h6 n6 ((Ex.toM (e1.trans e2)).trans e6)
theorem c_kv_Look_nob (n : Nob h s) (r : ∀ h', Ext h h' → K (.tuple #[.agg #[int 0, int 0, int 0, int 0, int 0], int 1]) h') : Ca f_kv_Store_Look #[s] h K := by
  refine m_kv_Store_Look_ok (al (fun b1 h1 e1 hb1 k1 _ => ?_))
  refine c_kv_open_nob (n.ext e1) ?_
  rw [BiP_neq]
  refine cdp (fun _ => ?_) fun h => absurd (by decide) h
  refine ⟨_, #[int 0, int 0, int 0, int 0, int 0], rfl, rfl, ?_⟩
  refine StA_b (vs := [int 0, int 0, int 0, int 0, int 0]) k1 rfl rfl rfl fun h2 _ e2 k2 => ?_
  refine (LdA_b k2 rfl).2 (r h2 ?_)
  exact e1.andThen e2 fun x hx he => by omega
theorem c_kv_Config_nob (n : Nob h s) (r : ∀ h', Ext h h' → K Config.zero.v h') : Ca f_kv_Store_Config #[s] h K := by
  refine m_kv_Store_Config_ok (al (fun b1 h1 e1 hb1 k1 _ => ?_))
  rcases n with rfl | ⟨b, rfl, k⟩
  · refine eq_ptr_nil (by kernel_rfl) ?_
    refine ⟨_, Config.zero.cs.toArray, rfl, rfl, ?_⟩
    refine StA_b (vs := Config.zero.cs) k1 rfl rfl rfl fun h2 _ e2 k2 => ?_
    refine (LdA_b k2 rfl).2 (r h2 ?_)
    exact e1.andThen e2 fun x hx he => by omega
  · refine eq_ptr_nil (by kernel_rfl) ?_
    have k := k.ext e1
    unfold Fla
    rw [NilP_ptr, FaP_ptr]
    show CdP (.bool false) _ _
    rw [CdP_false]
    refine LdA_at (cs := Config.zero.cs) (fun j v hj => ?_) rfl ?_
    · rw [k.get]
      have hlt := (List.getElem?_eq_some_iff.1 hj).1
      unfold kz kvc
      rw [Nat.zero_add, List.getElem?_append_left hlt]; exact hj
    refine StA_b (vs := Config.zero.cs) k1 rfl rfl rfl fun h2 _ e2 k2 => ?_
    refine (LdA_b k2 rfl).2 (r h2 ?_)
    exact e1.andThen e2 fun x hx he => by omega
theorem c_kv_Height_nob (n : Nob h s) (r : K (int 0) h) : Ca f_kv_Store_Height #[s] h K := by
  refine m_kv_Store_Height_ok (c_kv_open_nob n ?_)
  rw [BiP_neq]
  exact cdp (fun _ => r) fun h => absurd (by decide) h
theorem c_kv_Left_nob (n : Nob h s) (r : K (int 0) h) : Ca f_kv_Store_Left #[s] h K := by
  refine m_kv_Store_Left_ok (c_kv_open_nob n ?_)
  rw [BiP_neq]
  exact cdp (fun _ => r) fun h => absurd (by decide) h
theorem c_kv_Cost_nob (n : Nob h s) (r : ∀ h', Ext h h' → K (.agg #[w64 0, w64 0]) h') : Ca f_kv_Store_Cost #[s] h K := by
  refine m_kv_Store_Cost_ok (al (fun b1 h1 e1 hb1 k1 _ => ?_))
  rcases n with rfl | ⟨b, rfl, k⟩
  · refine eq_ptr_nil (by kernel_rfl) ?_
    refine ⟨_, #[w64 0, w64 0], rfl, rfl, ?_⟩
    refine StA_b (vs := [w64 0, w64 0]) k1 rfl rfl rfl fun h2 _ e2 k2 => ?_
    refine (LdA_b k2 rfl).2 (r h2 ?_)
    exact e1.andThen e2 fun x hx he => by omega
  · refine eq_ptr_nil (by kernel_rfl) ?_
    have k := k.ext e1
    unfold Fla
    rw [NilP_ptr, FaP_ptr]
    show CdP (.bool false) _ _
    rw [CdP_false]
    refine LdA_at (cs := [w64 0, w64 0]) (fun j v hj => ?_) rfl ?_
    · rw [k.get]
      match j, hj with
      | 0, hj => exact hj
      | 1, hj => exact hj
    refine StA_b (vs := [w64 0, w64 0]) k1 rfl rfl rfl fun h2 _ e2 k2 => ?_
    refine (LdA_b k2 rfl).2 (r h2 ?_)
    exact e1.andThen e2 fun x hx he => by omega
theorem c_kv_Total_nob (n : Nob h s) (r : ∀ h', Ext h h' → K (.agg #[w64 0, w64 0]) h') : Ca f_kv_Store_Total #[s] h K := by
  refine m_kv_Store_Total_ok (al (fun b1 h1 e1 hb1 k1 _ => ?_))
  rcases n with rfl | ⟨b, rfl, k⟩
  · refine eq_ptr_nil (by kernel_rfl) ?_
    refine ⟨_, #[w64 0, w64 0], rfl, rfl, ?_⟩
    refine StA_b (vs := [w64 0, w64 0]) k1 rfl rfl rfl fun h2 _ e2 k2 => ?_
    refine (LdA_b k2 rfl).2 (r h2 ?_)
    exact e1.andThen e2 fun x hx he => by omega
  · refine eq_ptr_nil (by kernel_rfl) ?_
    have k := k.ext e1
    unfold Fla
    rw [NilP_ptr, FaP_ptr]
    show CdP (.bool false) _ _
    rw [CdP_false]
    refine LdA_at (cs := [w64 0, w64 0]) (fun j v hj => ?_) rfl ?_
    · rw [k.get]
      match j, hj with
      | 0, hj => exact hj
      | 1, hj => exact hj
    refine StA_b (vs := [w64 0, w64 0]) k1 rfl rfl rfl fun h2 _ e2 k2 => ?_
    refine (LdA_b k2 rfl).2 (r h2 ?_)
    exact e1.andThen e2 fun x hx he => by omega
end
end Go.Sg
/-! Contracts of kv: counting of a call's cost. -/
namespace Go.Sg
open Go Vc
section
variable {lab lab' : Nat → Nat} {h h' : Heap} {K : Kt} {s mp tp sp dp root : Nat} {c : Config} {D D' : List (List UInt8)} {V V' : Nat → List UInt8} {S : Nat → Bool} {rd wr rd' wr' x y u v a b d e : BitVec 64} {ps : List Pair}
theorem c_kv_open (k : Blk h s (kvc c (ptr mp 0) true a b d e)) (r : K (int 0) h) : Ca f_kv_Store_open #[ptr s 0] h K := by
  refine m_kv_Store_open_ok (eq_ptr_nil (by kernel_rfl) (fl (v := .bool true) (by rw [k.get]; rfl) ?_))
  rw [UnP_not]
  refine fl (v := ptr mp 0) (by rw [k.get]; rfl) ?_
  exact eq_ptr_nil (by kernel_rfl) r
theorem c_kv_open_closed (k : Blk h s (kvc c (.pointer none) true a b d e)) (r : K (int 13) h) : Ca f_kv_Store_open #[ptr s 0] h K := by
  refine m_kv_Store_open_ok (eq_ptr_nil (by kernel_rfl) (fl (v := .bool true) (by rw [k.get]; rfl) ?_))
  rw [UnP_not]
  refine fl (v := .pointer none) (by rw [k.get]; rfl) ?_
  exact eq_ptr_nil (by kernel_rfl) r
theorem c_kv_plus (r : ∀ h', Ext h h' → K (.agg #[w64 (x + u), w64 (y + v)]) h') : Ca f_kv_plus #[.agg #[w64 x, w64 y], .agg #[w64 u, w64 v]] h K := by
  refine m_kv_plus_ok (bxa (cs := [w64 x, w64 y]) fun b1 h1 e1 hb1 k1 _ => bxa (cs := [w64 u, w64 v]) fun b2 h2 e2 hb2 k2 _ => ala (cs := [w64 0, w64 0]) fun b3 h3 e3 hb3 k3 _ => ?_)
  have k1 := (k1.ext e2).ext e3
  have k2 := k2.ext e3
  refine fv (v := w64 x) (by rw [k1.get]; rfl) (fv (v := w64 u) (by rw [k2.get]; rfl) ?_)
  rw [bv_add]
  refine fv (v := w64 y) (by rw [k1.get]; rfl) (fv (v := w64 v) (by rw [k2.get]; rfl) ?_)
  rw [bv_add]
  refine ⟨_, #[w64 (x + u), w64 (y + v)], rfl, rfl, ?_⟩
  refine StA_b (vs := [w64 (x + u), w64 (y + v)]) k3 rfl rfl rfl fun h4 _ e4 k4 => ?_
  refine (LdA_b k4 rfl).2 (r h4 ?_)
  exact ((e1.trans e2).trans e3).andThen e4 fun z hz he => by have := (e1.trans e2).le; omega
theorem c_kv_minus (r : ∀ h', Ext h h' → K (.agg #[w64 (x - u), w64 (y - v)]) h') : Ca f_kv_minus #[.agg #[w64 x, w64 y], .agg #[w64 u, w64 v]] h K := by
  refine m_kv_minus_ok (bxa (cs := [w64 x, w64 y]) fun b1 h1 e1 hb1 k1 _ => bxa (cs := [w64 u, w64 v]) fun b2 h2 e2 hb2 k2 _ => ala (cs := [w64 0, w64 0]) fun b3 h3 e3 hb3 k3 _ => ?_)
  have k1 := (k1.ext e2).ext e3
  have k2 := k2.ext e3
  refine fv (v := w64 x) (by rw [k1.get]; rfl) (fv (v := w64 u) (by rw [k2.get]; rfl) ?_)
  rw [bv_sub]
  refine fv (v := w64 y) (by rw [k1.get]; rfl) (fv (v := w64 v) (by rw [k2.get]; rfl) ?_)
  rw [bv_sub]
  refine ⟨_, #[w64 (x - u), w64 (y - v)], rfl, rfl, ?_⟩
  refine StA_b (vs := [w64 (x - u), w64 (y - v)]) k3 rfl rfl rfl fun h4 _ e4 k4 => ?_
  refine (LdA_b k4 rfl).2 (r h4 ?_)
  exact ((e1.trans e2).trans e3).andThen e4 fun z hz he => by have := (e1.trans e2).le; omega
theorem c_mount_Device' (k : Blk h mp [ptr dp 0, ptr tp 0]) (r : K (ptr dp 0) h) : Ca f_mount_Mount_Device #[ptr mp 0] h K := by
  refine m_mount_Mount_Device_ok (c_mount_none k ?_)
  rw [CdP_false]
  exact fl (by rw [k.get]; rfl) r
/-- What a call turned, and what it cost. -/
theorem c_kv_count {f : Value} {dg n : Nat} (k : Blk h s (kvc c (ptr mp 0) true a b d e)) (km : Blk h mp [ptr dp 0, ptr tp 0]) (kd : Dv dg dp h n D rd wr) (hne : mp ≠ s) (l15 : lab s = 15)
    (r : ∀ h1 Q, Ext h h1 → (∀ ev h2 m2 dg' n' D' rd' wr', Blk h2 s (kvc c m2 true a b d e) → (m2 = .pointer none ∨ m2 = ptr mp 0 ∧ Blk h2 mp [ptr dp 0, ptr tp 0]) → Dv dg' dp h2 n' D' rd' wr' → dp ≠ s ∧ dg' ≠ s → Ex (Lb (frl lab h) 1 99) h1 h2 →
      (∀ h3 a' b' d' e', Ex (fun x => x = s) h2 h3 → Blk h3 s (kvc c m2 true a' b' d' e') → K ev h3) → Q ev h2) → CvH Pg f #[] h1 Q) :
    Ca f_kv_Store_count #[ptr s 0, f] h K := by
  refine m_kv_Store_count_ok (c_kv_open k ?_)
  rw [BiP_neq]
  refine cdp (fun h => absurd rfl h) fun _ => ?_
  refine fl (v := ptr mp 0) (by rw [k.get]; rfl) (c_mount_Device' km ?_)
  refine c_dev_Stats kd fun h1 e1 => ?_
  refine alst (vs := [w64 rd, w64 wr]) rfl rfl rfl fun b2 h2 e2 hb2 k2 _ => ?_
  have e12 := e1.trans e2
  have hl1 := e1.le
  refine r h2 _ e12 fun ev h3 m2 dg' n' D' rd' wr' ks km2 kd' hds e3 hK => ?_
  have k2 := k2.ex e3 (nLb (frl_new (by omega)) (by decide))
  have hb2l := k2.lt
  have hsl := k.lt
  have hml := km.lt
  have hb2s : b2 ≠ s := by omega
  refine ⟨fun b' _ => b' = b2, ?_⟩
  refine LaX_b k2 rfl (fun _ => rfl) ?_
  refine c_dev_Stats kd' fun h4 e4 => ⟨agr_b e4 k2.lt id, ?_⟩
  refine c_kv_minus fun h5 e5 => ⟨trivial, ?_⟩
  have e35 := e4.trans e5
  rw [NilP_ptr, FaP_ptr]
  refine StA_at (vs := [w64 _, w64 _]) (ks.ext e35) (show 0 + 10 + 2 ≤ 14 by decide) rfl rfl (ds := kvc c m2 true (rd' - rd) (wr' - wr) d e) rfl fun h6 hs6 e6 ks6 => ⟨trivial, ?_⟩
  have e36 : Ex (fun x => x = s) h3 h6 := (Ex.toM e35).trans e6
  have fin : ∀ (h' : Heap) (Q : Heap → Prop), Ex (fun x => x = s) h6 h' → Blk h' s (kvc c m2 true (rd' - rd) (wr' - wr) d e) → (m_kv_Store_count_j67 (ptr s 0) ev h' K) := fun h' _ e7 k7 => by
    unfold m_kv_Store_count_j67 Fla
    rw [NilP_ptr, FaP_ptr]
    refine LdA_at (cs := [w64 d, w64 e]) (fun j v hj => ?_) rfl ?_
    · rw [k7.get]
      match j, hj with
      | 0, hj => exact hj
      | 1, hj => exact hj
    rw [NilP_ptr, FaP_ptr]
    refine LdA_at (cs := [w64 (rd' - rd), w64 (wr' - wr)]) (fun j v hj => ?_) rfl ?_
    · rw [k7.get]
      match j, hj with
      | 0, hj => exact hj
      | 1, hj => exact hj
    refine c_kv_plus fun h8 e8 => ⟨trivial, ?_⟩
    rw [NilP_ptr, FaP_ptr]
    refine StA_at (vs := [w64 _, w64 _]) (k7.ext e8) (show 0 + 12 + 2 ≤ 14 by decide) rfl rfl (ds := kvc c m2 true (rd' - rd) (wr' - wr) (d + (rd' - rd)) (e + (wr' - wr))) rfl fun h9 hs9 e9 ks9 => ⟨trivial, ?_⟩
    exact hK h9 _ _ _ _ (((e36.trans e7).trans (Ex.toM e8)).trans e9) ks9
  have hm2 : hget h6 s (0 + 8) = some m2 := by rw [ks6.get]; rfl
  rcases km2 with rfl | ⟨rfl, km2⟩
  · refine fl (v := .pointer none) hm2 ?_
    refine neq_ptr_nil (by kernel_rfl) ?_
    exact fin h6 (fun _ => True) (Ex.refl _ _) ks6
  · refine fl (v := ptr mp 0) hm2 ?_
    refine neq_ptr_nil (by kernel_rfl) ?_
    show CdP (.bool true) _ _
    rw [CdP_true]
    refine fl (v := ptr mp 0) hm2 ?_
    have km6 := (km2.ext e35).ex e6 (by exact hne)
    refine c_mount_Device' km6 ?_
    refine neq_ptr_same (n := 3) (by kernel_rfl) (by kernel_rfl) ?_
    unfold m_kv_Store_count_j50
    rw [CdP_false]
    exact fin h6 (fun _ => True) (Ex.refl _ _) ks6
end
end Go.Sg
/-! Contracts of kv: a store whose tree is one leaf. -/
namespace Go.Sg
open Go Vc
/-- A store that is open. -/
structure KvS (lab : Nat → Nat) (h : Heap) (s : Nat) (c : Config) (ps : List Pair) : Prop where
  out : ∃ mp tp sp dp D V S root rd wr a b d e, Blk h s (kvc c (ptr mp 0) true a b d e) ∧ MtS lab h mp tp sp dp c D V S root ps rd wr ∧ lab s = 15
/-- A store that is closed. -/
structure KvX (h : Heap) (s : Nat) (c : Config) : Prop where
  out : ∃ a b d e, Blk h s (kvc c (.pointer none) true a b d e)
section
variable {lab lab' : Nat → Nat} {h h' : Heap} {K : Kt} {s mp tp sp dp root : Nat} {c : Config} {D D' : List (List UInt8)} {V V' : Nat → List UInt8} {S : Nat → Bool} {rd wr rd' wr' a b d e : BitVec 64} {ps : List Pair} {key : Str}
theorem KvS.ext (k : KvS lab h s c ps) (e : Ext h h') : KvS lab h' s c ps := by
  obtain ⟨mp, tp, sp, dp, D, V, S, root, rd, wr, a, b, d, e', k1, k2, k3⟩ := k
  exact ⟨mp, tp, sp, dp, D, V, S, root, rd, wr, a, b, d, e', k1.ext e, k2.ext e, k3⟩
theorem KvS.lat (k : KvS lab h s c ps) (l : Lat lab lab' h) : KvS lab' h s c ps := by
  obtain ⟨mp, tp, sp, dp, D, V, S, root, rd, wr, a, b, d, e', k1, k2, k3⟩ := k
  exact ⟨mp, tp, sp, dp, D, V, S, root, rd, wr, a, b, d, e', k1, k2.lat l, (l _ k1.lt).trans k3⟩
theorem KvX.ext (k : KvX h s c) (e : Ext h h') : KvX h' s c := by
  obtain ⟨a, b, d, e', k1⟩ := k
  exact ⟨a, b, d, e', k1.ext e⟩
theorem MtS.ds (k : MtS lab h mp tp sp dp c D V S root ps rd wr) (l15 : lab s = 15) : ∃ dg, Dv dg dp h c.bytes.toNat D rd wr ∧ dp ≠ s ∧ dg ≠ s := by
  obtain ⟨dg, q1, q2, q3⟩ := k.tr.sh.dv
  exact ⟨dg, q1, fun h => by subst h; omega, fun h => by subst h; omega⟩
theorem MtS.ne (k : MtS lab h mp tp sp dp c D V S root ps rd wr) (l15 : lab s = 15) : mp ≠ s := fun h => by
  have := k.l14; subst h; omega
theorem Kvc.cfg {m : Value} {md : Bool} (k : Blk h s (kvc c m md a b d e)) {R : Value → Prop} (r : R c.v) : Fla 0 8 (ptr s 0) h R := by
  unfold Fla
  rw [NilP_ptr, FaP_ptr]
  refine LdA_at (cs := c.cs) (fun j v hj => ?_) rfl r
  rw [k.get]
  have hlt := (List.getElem?_eq_some_iff.1 hj).1
  unfold kvc
  rw [Nat.zero_add, List.getElem?_append_left hlt]; exact hj
theorem c_kv_begin (k : MtS lab h mp tp sp dp c D V S root ps rd wr) (r : ∀ lab' s h', Lat lab lab' h → KvS lab' h' s c ps → Ext h h' → h.size ≤ s → K (ptr s 0) h') : Ca f_kv_begin #[ptr mp 0] h K := by
  refine m_kv_begin_ok (c_mount_Head k fun h1 e1 => ?_)
  refine ⟨_, rfl, ?_⟩
  refine ⟨_, (kvc c (ptr mp 0) true 0 0 0 0).toArray, rfl, by kernel_rfl, ?_⟩
  refine bxa (cs := kvc c (ptr mp 0) true 0 0 0 0) fun s h2 e2 hs k2 _ => ?_
  let l2 := upd (frl lab h1) s 15
  have a2 : Lat lab l2 h1 := fun x hx => (upd_ne (by omega)).trans (frl_lat lab h1 x hx)
  have hl := e1.le
  exact r l2 s h2 (fun x hx => a2 x (by omega)) ⟨mp, tp, sp, dp, D, V, S, root, rd, wr, 0, 0, 0, 0, k2, ((k.ext e1).lat a2).ext e2, upd_same⟩ (e1.trans e2) (by omega)
theorem c_kv_New (hr : c.Right) (ho : lok c []) (hnf : c.frames.toNat ≤ 12) (h24 : c.blocks.toNat * c.bytes.toNat ≤ 2 ^ 24) (t : Tz h)
    (r : ∀ lab' s h', KvS lab' h' s c [] → (∀ b, b < h.size → lab' b = 0) → Ext h h' → h.size ≤ s → K (.tuple #[ptr s 0, int 0]) h') : Ca f_kv_New #[c.v] h K := by
  refine m_kv_New_ok (bxa (cs := c.cs) fun b h1 e1 hb1 kb _ => ?_)
  refine (LdA_b kb rfl).2 (c_mount_Format hr ho hnf h24 (t.ext e1) fun l2 h2 mp tp sp dp D V S root rd wr m2 z2 e2 hdp => ?_)
  rw [ex20, ex21, BiP_neq]
  refine cdp (fun h => absurd rfl h) fun _ => ?_
  refine c_kv_begin m2 fun l3 s h3 a3 k3 e3 hs => ?_
  have hl1 := e1.le
  have hl2 := e2.le
  exact r l3 s h3 k3 (fun x hx => (a3 x (by omega)).trans (z2 x (by omega))) ((e1.trans e2).trans e3) (by omega)
theorem c_kv_put {m : Msg} (k : KvS lab h s c ps) (hk : keyOk c m.key = true) (hv : (m.val.length : Int) ≤ c.val) (hd : m.del = true → m.val = []) (ho : lok c (applyP ps m))
    (r : ∀ lab' h', Lat lab lab' h → KvS lab' h' s c (applyP ps m) → Ex (Lb lab 1 15) h h' → K (int 0) h') : Ca f_kv_Store_put #[ptr s 0, m.v] h K := by
  refine m_kv_Store_put_ok (bx (v := ptr s 0) (fun b1 h1 e1 hb1 k1 _ => bxa (cs := [str m.key, .bool m.del, str m.val]) fun b2 h2 e2 hb2 k2 _ => ?_))
  have k1 := k1.ext e2
  have e12 := e1.trans e2
  have hl1 := e1.le
  refine ld (v := ptr s 0) (by rw [k1.get]; rfl) ?_
  have a0 := frl_lat lab h
  have kk := (k.lat a0).ext e12
  obtain ⟨mp, tp, sp, dp, D, V, S, root, rd, wr, a, b, d, e, ks, km, l15⟩ := kk
  obtain ⟨dg, kd, _, _⟩ := km.ds l15
  refine c_kv_count ks km.blk kd (km.ne l15) l15 fun h3 Q e3 hQ => cvhc (by kernel_rfl) ?_
  show Ca f_kv_Store_put_1 #[ptr b1 0, ptr b2 0] h3 Q
  let l3 := frl (frl lab h) h2
  have a3 : Lat (frl lab h) l3 h2 := frl_lat _ _
  have km3 := (km.lat a3).ext e3
  have ks3 := ks.ext e3
  have k13 := k1.ext e3
  have k23 := k2.ext e3
  refine m_kv_Store_put_1_ok (ld (v := ptr s 0) (by rw [k13.get]; rfl) (Kvc.cfg ks3 ?_))
  refine fv (v := str m.key) (by rw [k23.get]; rfl) ?_
  refine c_node_Key (c := c) fun h4 e4 => ⟨trivial, ?_⟩
  have km4 := km3.ext e4
  have ks4 := ks3.ext e4
  have k14 := k13.ext e4
  have k24 := k23.ext e4
  rw [hk, UnP_not]
  refine cd (fun h => absurd h (by decide)) fun _ => ?_
  refine fv (v := str m.val) (by rw [k24.get]; rfl) ?_
  rw [LenP_str]
  refine ld (v := ptr s 0) (by rw [k14.get]; rfl) ?_
  rw [NilP_ptr, FaP_ptr]
  refine fv (v := int c.val) (by rw [ks4.get]; rfl) ?_
  rw [BiP_gtr]
  unfold m_kv_Store_put_1_j23
  refine cdp (fun h => absurd h (by omega)) fun _ => ?_
  unfold m_kv_Store_put_1_j24
  refine ⟨fun b' _ => b' = b1 ∨ b' = b2 ∨ b' = s, ?_⟩
  refine LdX_b k14 (v := ptr s 0) rfl (fun _ => .inl rfl) ?_
  rw [NilP_ptr, FaP_ptr]
  refine LdX_b ks4 (v := ptr mp 0) rfl (fun _ => .inr (.inr rfl)) ?_
  refine LaX_b k24 rfl (fun _ => .inr (.inl rfl)) ?_
  refine c_mount_Tree km4 ⟨fun b o _ => rfl, ?_⟩
  have l15' : l3 s = 15 := (a3 _ ks.lt).trans l15
  have l14' : l3 mp = 14 := km3.l14
  refine c_tree_Put km4.tr hk hv hd ho fun l5 h5 D5 V5 rd5 wr5 a5 tr5 e5 => ⟨trivial, ?_⟩
  have ks5 := ks4.ex e5 (nLb l15' (by decide))
  have kb5 := km4.blk.ex e5 (nLb l14' (by decide))
  have l155 : l5 s = 15 := (a5 _ ks4.lt).trans l15'
  have km5 : MtS l5 h5 mp tp sp dp c D5 V5 S root (applyP ps m) rd5 wr5 := ⟨kb5, tr5, (a5 _ km4.blk.lt).trans l14'⟩
  obtain ⟨dg5, kd5, n1, n2⟩ := km5.ds l155
  have e35 : Ex (Lb l3 1 99) h3 h5 := (Ex.toM e4).trans (Lb.wide e5 (by decide) (by decide))
  refine hQ (int 0) h5 (ptr mp 0) dg5 _ _ _ _ ks5 (.inr ⟨rfl, kb5⟩) kd5 ⟨n1, n2⟩ e35 fun h6 a' b' d' e' e6 ks6 => ?_
  have e6' : Ex (Lb l5 15 15) h5 h6 := one_lb e6 ⟨by rw [l155]; decide, by rw [l155]; decide⟩
  have a05 : Lat lab l5 h := (a0.trans a3 e12.le).trans a5 (by have := (e12.trans (e3.trans e4)).le; omega)
  refine r l5 h6 a05 ⟨mp, tp, sp, dp, D5, V5, S, root, rd5, wr5, a', b', d', e', ks6, km5.ex15 e6' (by decide), l155⟩ ?_
  have e04 : Ext h h4 := e12.trans (e3.trans e4)
  have a03 : Lat lab l3 h := a0.trans a3 e12.le
  have e46 : Ex (Lb l3 1 15) h4 h6 := a5.ex (Lb.wide e5 (by decide) (by decide)) (Lb.wide e6' (by decide) (by decide))
  exact a03.ex (Ex.toM e04) e46
theorem c_kv_Put {val : Str} (k : KvS lab h s c ps) (hk : keyOk c key = true) (hv : (val.length : Int) ≤ c.val) (ho : lok c (applyP ps ⟨key, false, val⟩))
    (r : ∀ lab' h', Lat lab lab' h → KvS lab' h' s c (applyP ps ⟨key, false, val⟩) → Ex (Lb lab 1 15) h h' → K (int 0) h') : Ca f_kv_Store_Put #[ptr s 0, str key, str val] h K :=
  m_kv_Store_Put_ok ⟨_, #[str key, .bool false, str val], rfl, rfl, c_kv_put (m := ⟨key, false, val⟩) k hk hv (fun h => by cases h) ho r⟩
theorem c_kv_Delete (k : KvS lab h s c ps) (hk : keyOk c key = true) (h0 : 0 ≤ c.val) (ho : lok c (applyP ps ⟨key, true, []⟩))
    (r : ∀ lab' h', Lat lab lab' h → KvS lab' h' s c (applyP ps ⟨key, true, []⟩) → Ex (Lb lab 1 15) h h' → K (int 0) h') : Ca f_kv_Store_Delete #[ptr s 0, str key] h K :=
  m_kv_Store_Delete_ok ⟨_, #[str key, .bool true, str []], rfl, rfl, c_kv_put (m := ⟨key, true, []⟩) k hk h0 (fun _ => rfl) ho r⟩
end
end Go.Sg
/-! Contracts of kv: Get and Close, a store whose tree is one leaf. -/
namespace Go.Sg
open Go Vc
theorem Ex.fresh {M N : Nat → Prop} {h1 h2 h3 : Heap} (a : Ex M h1 h2) (e : Ex N h2 h3) (hn : ∀ x, x < h1.size → ¬ N x) : Ex M h1 h3 :=
  ⟨Nat.le_trans a.le e.le, fun x hx hm => (e.eq x (Nat.lt_of_lt_of_le hx a.le) (hn x hx)).trans (a.eq x hx hm)⟩
section
variable {lab lab' : Nat → Nat} {h h' : Heap} {K : Kt} {s mp tp sp dp root : Nat} {c : Config} {D D' : List (List UInt8)} {V V' : Nat → List UInt8} {S : Nat → Bool} {rd wr rd' wr' a b d e : BitVec 64} {ps : List Pair} {key : Str}
theorem c_kv_Get (k : KvS lab h s c ps) (hk : keyOk c key = true)
    (r : ∀ lab' h', Lat lab lab' h → KvS lab' h' s c ps → Ex (Lb lab 1 15) h h' → K (.tuple #[str ((getP ps key).getD []), int (if (getP ps key).isSome then 0 else 9)]) h') : Ca f_kv_Store_Get #[ptr s 0, str key] h K := by
  refine m_kv_Store_Get_ok (bx (v := ptr s 0) (fun b1 h1 e1 hb1 k1 _ => bx (v := str key) fun b2 h2 e2 hb2 k2 _ => al fun b3 h3' e3 hb3 k3 _ => ?_))
  refine StP_b k3 (show 0 < 1 by decide) rfl fun h3 _ e3' k3 => ?_
  have hl1 := e1.le
  have hl2 := e2.le
  have e33 : Ext h2 h3 := e3.andThen e3' fun x hx he => by omega
  have k2 := k2.ext e33
  have e13 : Ext h1 h3 := e2.trans e33
  have k1 := k1.ext e13
  have e03 := e1.trans e13
  refine ld (v := ptr s 0) (by rw [k1.get]; rfl) ?_
  let lab0 := loc lab h b3
  have a0 : Lat lab lab0 h := loc_lat lab (by omega)
  have q3 : lab0 b3 = 99 := loc_at
  have q1 : lab0 b1 = 0 := (upd_ne (by omega)).trans (frl_new (by omega))
  have q2 : lab0 b2 = 0 := (upd_ne (by omega)).trans (frl_new (by omega))
  have kk := (k.lat a0).ext e03
  obtain ⟨mp, tp, sp, dp, D, V, S, root, rd, wr, a, b, d, e, ks, km, l15⟩ := kk
  obtain ⟨dg, kd, _, _⟩ := km.ds l15
  refine c_kv_count ks km.blk kd (km.ne l15) l15 fun h4 Q e4 hQ => cvhc (by kernel_rfl) ?_
  show Ca f_kv_Store_Get_1 #[ptr b1 0, ptr b2 0, ptr b3 0] h4 Q
  let l4 := frl lab0 h3
  have a4 : Lat lab0 l4 h3 := frl_lat _ _
  have km4 := (km.lat a4).ext e4
  have ks4 := ks.ext e4
  have k14 := k1.ext e4
  have k24 := k2.ext e4
  have k34 := k3.ext e4
  refine m_kv_Store_Get_1_ok (ld (v := ptr s 0) (by rw [k14.get]; rfl) (Kvc.cfg ks4 ?_))
  refine ld (v := str key) (by rw [k24.get]; rfl) ?_
  refine c_node_Key (c := c) fun h5 e5 => ⟨trivial, ?_⟩
  have km5 := km4.ext e5
  have ks5 := ks4.ext e5
  have k15 := k14.ext e5
  have k25 := k24.ext e5
  have k35 := k34.ext e5
  rw [hk, UnP_not]
  refine cd (fun h => absurd h (by decide)) fun _ => ?_
  refine ⟨fun b' _ => b' = b1 ∨ b' = b2 ∨ b' = s, ?_⟩
  refine LdX_b k15 (v := ptr s 0) rfl (fun _ => .inl rfl) ?_
  rw [NilP_ptr, FaP_ptr]
  refine LdX_b ks5 (v := ptr mp 0) rfl (fun _ => .inr (.inr rfl)) ?_
  refine LdX_b k25 (v := str key) rfl (fun _ => .inr (.inl rfl)) ?_
  refine c_mount_Tree km5 ⟨fun b o _ => rfl, ?_⟩
  have l15' : l4 s = 15 := (a4 _ ks.lt).trans l15
  have l14' : l4 mp = 14 := km4.l14
  have q3' : l4 b3 = 99 := (a4 _ k3.lt).trans q3
  refine c_tree_Get km5.tr fun l6 h6 D6 rd6 wr6 a6 tr6 e6 => ⟨trivial, ?_⟩
  have ks6 := ks5.ex e6 (nLb l15' (by decide))
  have kb6 := km5.blk.ex e6 (nLb l14' (by decide))
  have k36 := k35.ex e6 (nLb q3' (by decide))
  have l156 : l6 s = 15 := (a6 _ ks5.lt).trans l15'
  have km6 : MtS l6 h6 mp tp sp dp c D6 V S root ps rd6 wr6 := ⟨kb6, tr6, (a6 _ km5.blk.lt).trans l14'⟩
  have e46 : Ex (Lb l4 1 99) h4 h6 := (Ex.toM e5).trans (Lb.wide e6 (by decide) (by decide))
  have q36 : l6 b3 = 99 := (a6 _ k35.lt).trans q3'
  have e46' : Ex (Lb l4 1 15) h4 h6 := (Ex.toM e5).trans (Lb.wide e6 (by decide) (by decide))
  have hl34 : h3.size ≤ h4.size := e4.le
  have hl05 : h.size ≤ h5.size := (e03.trans (e4.trans e5)).le
  have hl46 := e46.le
  have a04 : Lat lab l4 h := a0.trans a4 e03.le
  have a06 : Lat lab l6 h := a04.trans a6 hl05
  have e04 : Ext h h4 := e03.trans e4
  have hbs : b3 ≠ s := fun h => by rw [h, l15] at q3; omega
  have hbm : b3 ≠ mp := fun h => by have := km.l14; rw [← h, q3] at this; omega
  -- what is left: the value is told
  have fin : ∀ (h7 : Heap) (v : Str) (n : Nat), Ex (fun x => x = b3) h6 h7 → Blk h7 b3 [str v] → v = (getP ps key).getD [] → (n : Int) = (if (getP ps key).isSome then 0 else 9) → Q (int n) h7 := fun h7 v n e7 k37 hv hn => by
    have e7' : Ex (Lb l6 99 99) h6 h7 := one_lb e7 ⟨by rw [q36]; decide, by rw [q36]; decide⟩
    have km7 := km6.ex15 e7' (by decide)
    have ks7 := ks6.ex e7' (nLb l156 (by decide))
    obtain ⟨dg7, kd7, n1, n2⟩ := km7.ds l156
    have e47 : Ex (Lb l4 1 99) h4 h7 := a6.ex (h2 := h6) (l1 := l4) (l2 := l6) (h1 := h5) (Lb.wide e6 (by decide) (by decide)) (Lb.wide e7' (by decide) (by decide)) |> fun z => (Ex.toM e5).trans z
    refine hQ (int n) h7 (ptr mp 0) dg7 _ _ _ _ ks7 (.inr ⟨rfl, km7.blk⟩) kd7 ⟨n1, n2⟩ e47 fun h8 a' b' d' e' e8 ks8 => ?_
    have e8' : Ex (Lb l6 15 15) h7 h8 := one_lb e8 ⟨by rw [l156]; decide, by rw [l156]; decide⟩
    have k38 := k37.ex e8 hbs
    refine ld (v := str v) (by rw [k38.get]; rfl) ?_
    rw [hv, hn]
    refine r l6 h8 a06 ⟨mp, tp, sp, dp, D6, V, S, root, rd6, wr6, a', b', d', e', ks8, km7.ex15 e8' (by decide), l156⟩ ?_
    have e06 : Ex (Lb lab 1 15) h h6 := a04.ex (Ex.toM e04) e46'
    have e07 : Ex (Lb lab 1 15) h h7 := e06.fresh e7 fun x hx he => by omega
    exact a06.ex e07 (Lb.wide e8' (by decide) (by decide))
  rw [ex30, ex31, ex32, BiP_eql]
  refine cdp (fun _ => ?_) fun h => absurd rfl h
  rw [UnP_not]
  unfold m_kv_Store_Get_1_j29
  cases hg : getP ps key with
  | none =>
    show CdP (.bool true) _ _
    rw [CdP_true]
    exact fin h6 [] 9 (Ex.refl _ _) k36 (by rw [hg]; rfl) (by rw [hg]; rfl)
  | some v =>
    show CdP (.bool false) _ _
    rw [CdP_false]
    unfold m_kv_Store_Get_1_j30
    refine StP_b k36 (show 0 < 1 by decide) rfl fun h7 _ e7 k7 => ?_
    exact fin h7 v 0 e7 k7 (by rw [hg]; rfl) (by rw [hg]; rfl)
end
end Go.Sg
/-! Contracts of kv: Close, and Get of a closed store. -/
namespace Go.Sg
open Go Vc
section
variable {lab lab' : Nat → Nat} {h h' : Heap} {K : Kt} {s mp tp sp dp root : Nat} {c : Config} {D D' : List (List UInt8)} {V V' : Nat → List UInt8} {S : Nat → Bool} {rd wr rd' wr' a b d e : BitVec 64} {ps : List Pair} {key : Str}
theorem c_kv_Close (k : KvS lab h s c ps) (hnf : c.frames.toNat ≤ 12)
    (r : ∀ x h', KvX h' s c → Ex (Lb lab 1 15) h h' → K (.tuple #[x, int 0]) h') : Ca f_kv_Store_Close #[ptr s 0] h K := by
  refine m_kv_Store_Close_ok (bx (v := ptr s 0) (fun b1 h1 e1 hb1 k1 _ => al fun b3 h3 e3 hb3 k3 _ => ?_))
  have hl1 := e1.le
  have k1 := k1.ext e3
  have e03 := e1.trans e3
  refine ld (v := ptr s 0) (by rw [k1.get]; rfl) ?_
  let lab0 := loc lab h b3
  have a0 : Lat lab lab0 h := loc_lat lab (by omega)
  have q3 : lab0 b3 = 99 := loc_at
  have q1 : lab0 b1 = 0 := (upd_ne (by omega)).trans (frl_new (by omega))
  have kk := (k.lat a0).ext e03
  obtain ⟨mp, tp, sp, dp, D, V, S, root, rd, wr, a, b, d, e, ks, km, l15⟩ := kk
  obtain ⟨dg, kd, _, _⟩ := km.ds l15
  refine c_kv_count ks km.blk kd (km.ne l15) l15 fun h4 Q e4 hQ => cvhc (by kernel_rfl) ?_
  show Ca f_kv_Store_Close_1 #[ptr b1 0, ptr b3 0] h4 Q
  let l4 := frl lab0 h3
  have a4 : Lat lab0 l4 h3 := frl_lat _ _
  have km4 := (km.lat a4).ext e4
  have ks4 := ks.ext e4
  have k14 := k1.ext e4
  have k34 := k3.ext e4
  have l15' : l4 s = 15 := (a4 _ ks.lt).trans l15
  have q3' : l4 b3 = 99 := (a4 _ k3.lt).trans q3
  have q1' : l4 b1 = 0 := (a4 _ k1.lt).trans q1
  refine m_kv_Store_Close_1_ok (ld (v := ptr s 0) (by rw [k14.get]; rfl) ?_)
  refine fl (v := ptr mp 0) (by rw [ks4.get]; rfl) ?_
  refine c_mount_Sync km4 hnf fun l5 h5 D5 V5 wr5 a5 km5 e5 => ?_
  rw [BiP_neq]
  refine cdp (fun h => absurd rfl h) fun _ => ?_
  have ks5 := ks4.ex e5 (nLb l15' (by decide))
  have k15 := k14.ex e5 (nLb q1' (by decide))
  have k35 := k34.ex e5 (nLb q3' (by decide))
  have l155 : l5 s = 15 := (a5 _ ks4.lt).trans l15'
  have q35 : l5 b3 = 99 := (a5 _ k34.lt).trans q3'
  refine ld (v := ptr s 0) (by rw [k15.get]; rfl) ?_
  refine fl (v := ptr mp 0) (by rw [ks5.get]; rfl) ?_
  obtain ⟨dg5, kd5, n51, n52⟩ := km5.ds l155
  refine c_mount_Device' km5.blk ?_
  refine c_dev_Image kd5 fun x h6 o6 e6 => ?_
  have ks6 := ks5.ext e6
  have k16 := k15.ext e6
  have k36 := k35.ext e6
  have km6 := km5.ext e6
  refine StP_b k36 (show 0 < 1 by decide) (by rw [one_eq]; exact o6.one) fun h7 _ e7 k7 => ?_
  have hb1l := k1.lt
  have hsl := k.out
  have hs0 : s < h.size := by
    obtain ⟨_, _, _, _, _, _, _, _, _, _, _, _, _, _, q, _⟩ := hsl; exact q.lt
  have hbs : b3 ≠ s := by omega
  have hb1s : b1 ≠ s := by omega
  have hb31 : b1 ≠ b3 := by omega
  have ks7 := ks6.ex e7 (fun h => hbs h.symm)
  have k17 := k16.ex e7 hb31
  refine ld (v := ptr s 0) (by rw [k17.get]; rfl) ?_
  refine Fs_b ks7 (show 0 + 8 < 14 by decide) rfl fun h8 _ e8 ks8 => ?_
  have ks8 : Blk h8 s (kvc c (.pointer none) true a b d e) := ks8
  have k78 := k7.ex e8 hbs
  have e7' : Ex (Lb l5 99 99) h6 h7 := one_lb e7 ⟨by rw [q35]; decide, by rw [q35]; decide⟩
  have e8' : Ex (Lb l5 15 15) h7 h8 := one_lb e8 ⟨by rw [l155]; decide, by rw [l155]; decide⟩
  obtain ⟨dg6, kd6, m1, m2⟩ := km6.ds l155
  have km7 := km6.ex15 e7' (by decide)
  have km8 := km7.ex15 e8' (by decide)
  obtain ⟨dg8, kd8, n1, n2⟩ := km8.ds l155
  have e58 : Ex (Lb l5 1 99) h5 h8 := ((Ex.toM e6).trans (Lb.wide e7' (by decide) (by decide))).trans (Lb.wide e8' (by decide) (by decide))
  have e48 : Ex (Lb l4 1 99) h4 h8 := a5.ex (Lb.wide e5 (by decide) (by decide)) e58
  refine hQ (int 0) h8 (.pointer none) dg8 _ _ _ _ ks8 (.inl rfl) kd8 ⟨n1, n2⟩ e48 fun h9 a' b' d' e' e9 ks9 => ?_
  have k39 := k78.ex e9 hbs
  refine ld (v := x) (by rw [k39.get]; rfl) ?_
  refine r x h9 ⟨a', b', d', e', ks9⟩ ?_
  have a04 : Lat lab l4 h := a0.trans a4 e03.le
  have e04 : Ext h h4 := e03.trans e4
  have e05 : Ex (Lb lab 1 15) h h5 := a04.ex (Ex.toM e04) (Lb.wide e5 (by decide) (by decide))
  have e06 : Ex (Lb lab 1 15) h h6 := e05.trans (Ex.toM e6)
  have e07 : Ex (Lb lab 1 15) h h7 := e06.fresh e7 fun y hy he => by omega
  have l0 : lab s = 15 := by rw [← a0 s hs0]; exact l15
  have e08 : Ex (Lb lab 1 15) h h8 := e07.trans (e8.mono fun y _ he => by subst he; exact ⟨by rw [l0]; decide, by rw [l0]; decide⟩)
  exact e08.trans (e9.mono fun y _ he => by subst he; exact ⟨by rw [l0]; decide, by rw [l0]; decide⟩)
theorem c_kv_count_closed {f : Value} (k : KvX h s c) (r : ∀ h', KvX h' s c → Ex (fun x => x = s) h h' → K (int 13) h') : Ca f_kv_Store_count #[ptr s 0, f] h K := by
  obtain ⟨a, b, d, e, k1⟩ := k
  refine m_kv_Store_count_ok (c_kv_open_closed k1 ?_)
  rw [BiP_neq]
  refine cdp (fun _ => ?_) fun h => absurd (by decide) h
  refine neq_ptr_nil (by kernel_rfl) ?_
  refine ⟨_, #[w64 0, w64 0], rfl, rfl, ?_⟩
  show NilP (ptr s 0) _
  rw [NilP_ptr, FaP_ptr]
  refine StA_at (vs := [w64 0, w64 0]) k1 (show 0 + 10 + 2 ≤ 14 by decide) rfl rfl (ds := kvc c (.pointer none) true 0 0 d e) rfl fun h1 hs1 e1 k1 => ?_
  exact r h1 ⟨0, 0, d, e, k1⟩ e1
theorem c_kv_Get_closed (k : KvX h s c) (r : ∀ h', KvX h' s c → Ex (fun x => x = s) h h' → K (.tuple #[str [], int 13]) h') : Ca f_kv_Store_Get #[ptr s 0, str key] h K := by
  refine m_kv_Store_Get_ok (bx (v := ptr s 0) (fun b1 h1 e1 hb1 k1 _ => bx (v := str key) fun b2 h2 e2 hb2 k2 _ => al fun b3 h3' e3 hb3 k3 _ => ?_))
  refine StP_b k3 (show 0 < 1 by decide) rfl fun h3 _ e3' k3 => ?_
  have hl1 := e1.le
  have hl2 := e2.le
  have e33 : Ext h2 h3 := e3.andThen e3' fun x hx he => by omega
  have e13 : Ext h1 h3 := e2.trans e33
  have k1 := k1.ext e13
  have e03 := e1.trans e13
  have hs : s < h.size := by obtain ⟨_, _, _, _, q⟩ := k; exact q.lt
  refine ld (v := ptr s 0) (by rw [k1.get]; rfl) ?_
  refine c_kv_count_closed (k.ext e03) fun h4 k4 e4 => ?_
  have k34 := k3.ex e4 (show ¬ b3 = s by omega)
  refine ld (v := str []) (by rw [k34.get]; rfl) ?_
  exact r h4 k4 ((Ex.toM e03).trans e4)
end
end Go.Sg
