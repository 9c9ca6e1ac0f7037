/-
  Part 22 of a proof: own texts, merged by program.
-/
import Derived.Shelf.SlIterI.Collect
import Derived.Test.YtoahnccffedojaaGreatDoorP05
import Derived.Test.YtoahnccffedojaaGreatDoorP18
import Derived.Test.YtoahnccffedojaaGreatDoorP21
set_option linter.unusedVariables false
set_option linter.unusedSimpArgs false
/-! Contracts of tree: a tree that is one leaf. -/
namespace Go.Sg
open Go Vc
/-- A leaf. -/
def nl (ps : List Pair) : Node := ⟨0, [], [], [], ps⟩
abbrev lok (c : Config) (ps : List Pair) : Prop := outerOk c allSpan (nl ps) = true
/-- A tree of one leaf: its settings, its device's blocks, what blocks have, which are held, the leaf's block and pairs, and its device's counts. -/
structure TrS (lab : Nat → Nat) (h : Heap) (tp sp dp : Nat) (c : Config) (D : List (List UInt8)) (V : Nat → List UInt8) (S : Nat → Bool) (root : Nat) (ps : List Pair) (rd wr : BitVec 64) : Prop where
  blk : ∃ u, Blk h tp [ptr sp 0, .int .u32 root, int 0, int u, int 0, int 0]
  sh : ShS lab h sp dp c D V S root rd wr
  l13 : lab tp = 13
  r0 : 0 < root
  leaf : V root = leafOf c (nl ps)
  ok : lok c ps
section
variable {lab lab' : Nat → Nat} {h h' : Heap} {tp sp cp dp o g p kept i root : Nat} {c : Config} {D D' : List (List UInt8)} {V : Nat → List UInt8} {S : Nat → Bool} {rd wr rd' wr' : BitVec 64} {K : Kt} {n : Node} {U : Nat → Prop} {ps : List Pair} {m : Msg}
theorem lok_fits (hr : c.Right) (h : lok c ps) : (nl ps).fits := by
  have := (outer_fits hr h).2.1
  refine ⟨by simp [nl], by simp [nl], by simp [nl], ?_⟩
  show ps.length ≤ _
  have : ps.length ≤ 1024 := this
  omega
theorem lok_asc (h : lok c ps) : Asc Pair.key ps := by
  unfold lok outerOk at h
  simp only [Bool.and_eq_true] at h
  exact rises_asc.1 h.1.2
theorem ShS.ex13 {hi : Nat} {lo : Nat} (k : ShS lab h sp dp c D V S kept rd wr) (e : Ex (Lb lab lo hi) h h') (hl : 13 ≤ lo) : ShS lab h' sp dp c D V S kept rd wr := by
  obtain ⟨hr, hD, hkl, cp, o, g, p, k1, k2⟩ := k
  exact ⟨hr, hD, hkl, cp, o, g, p, k1.ex e (.inr hl) (by omega) (Lat.refl _ _), k2.ex e (by omega) (Lat.refl _ _)⟩
theorem c_tree_none {cs : List Value} (k : Blk h tp (ptr sp 0 :: cs)) (r : K (.bool false) h) : Ca f_tree_Tree_none #[ptr tp 0] h K := by
  refine m_tree_Tree_none_ok (eq_ptr_nil (by kernel_rfl) (fl (by rw [k.get]; rfl) ?_))
  unfold m_tree_Tree_none_j11
  exact eq_ptr_nil (by kernel_rfl) r
theorem c_tree_New (k : ShS lab h sp dp c D V S 0 rd wr) (hf : cnt c.blocks.toNat S < c.blocks.toNat) (hS0 : S 0 = true) (ho : lok c [])
    (r : ∀ tp root lab' h' D' V' rd' wr', Lat lab lab' h → h.size ≤ tp → root < c.blocks.toNat → S root = false → TrS lab' h' tp sp dp c D' V' (upd S root true) root [] rd' wr' → Ex (Lb lab 1 12) h h' → K (.tuple #[ptr tp 0, int 0]) h') : Ca f_tree_New #[ptr sp 0] h K := by
  refine m_tree_New_ok ?_
  refine ⟨_, #[int 0, .slice none 0 0, .slice none 0 0, .slice none 0 0, .slice none 0 0], rfl, rfl, ?_⟩
  have d0 : Nd No h (.agg #[int 0, .slice none 0 0, .slice none 0 0, .slice none 0 0, .slice none 0 0]) (nl []) := ⟨_, _, _, _, rfl, Sl.nil _ _, Sl.nil _ _, Sl.nil _ _, Sl.nil _ _⟩
  refine c_shelf_Make (n := nl []) k hf hS0 d0 (lok_fits k.right ho) rfl ho fun i l1 h1 D1 wr1 hi0 hi hsi a1 k1 e1 hwr => ?_
  rw [ex20, ex21, BiP_neq]
  refine cdp (fun h => absurd rfl h) fun _ => ?_
  refine ⟨_, #[ptr sp 0, .int .u32 i, int 0, int 0, int 0, int 0], rfl, rfl, ?_⟩
  refine bxa (cs := [ptr sp 0, .int .u32 i, int 0, int 0, int 0, int 0]) fun tp h2 e2 htp kb _ => ?_
  have hl1 := e1.le
  let l2 := upd (frl l1 h1) tp 13
  have a2 : Lat l1 l2 h1 := fun b hb => (upd_ne (by omega)).trans (frl_lat l1 h1 b hb)
  have k2 := (k1.lat a2).ext e2
  have q2 : l2 tp = 13 := upd_same
  refine c_shelf_Keep0 k2 hi0 hi fun l3 h3 D3 rd3 wr3 a3 k3 e3 hrd3 hwr3 => ?_
  have htl := kb.lt
  have a12 := a1.trans a2 e1.le
  refine r tp i l3 h3 D3 _ rd3 wr3 (a12.trans a3 (by have := e2.le; omega)) (by omega) hi hsi ⟨⟨0, kb.ex e3 (nLb q2 (by decide))⟩, k3, (a3 tp htl).trans q2, hi0, upd_same, ho⟩ ?_
  exact a12.ex (e1.trans (Ex.toM e2)) e3
theorem c_tree_may {cs : List Value} (kb : Blk h tp (ptr sp 0 :: cs)) (k : ShS lab h sp dp c D V S kept rd wr) (hk : keyOk c m.key = true) (hv : (m.val.length : Int) ≤ c.val) (hd : m.del = true → m.val = []) (r : ∀ h', Ext h h' → K (.bool true) h') : Ca f_tree_Tree_may #[ptr tp 0, m.v] h K := by
  refine m_tree_Tree_may_ok (bxa (cs := [str m.key, .bool m.del, str m.val]) fun b h1 e1 hb k1 _ => ?_)
  refine fl (by rw [(kb.ext e1).get]; rfl) ?_
  refine c_shelf_Config (k.ext e1) fun h2 e2 => ?_
  refine alst (vs := c.cs) rfl rfl rfl fun b2 h3 e3 hb2 k3 _ => ?_
  have e13 := e2.trans e3
  have k1 := k1.ext e13
  refine (LdA_b k3 rfl).2 (fv (by rw [k1.get]; rfl) ?_)
  refine c_node_Key (c := c) fun h4 e4 => ?_
  have k1 := k1.ext e4
  have k3 := k3.ext e4
  rw [hk, CdP_true]
  refine fv (by rw [k1.get]; rfl) ?_
  rw [LenP_str]
  refine fv (v := int c.val) (by rw [k3.get]; rfl) ?_
  rw [BiP_leq, decide_eq_true hv, CdP_true]
  refine fv (by rw [k1.get]; rfl) ?_
  have e14 := (e1.trans e13).trans e4
  refine cd (fun hx => ?_) (fun hx => ?_)
  · refine fv (by rw [k1.get]; rfl) ?_
    rw [hd hx]
    show BiP .neq (str []) (str []) _
    rw [BiP_sneq, UnP_not]
    exact r h4 e14
  · rw [UnP_not]
    exact r h4 e14
/-- A message is put into the leaf. -/
theorem c_tree_direct (kb : ∃ u, Blk h tp [ptr sp 0, .int .u32 root, int 0, int u, int 0, int 0]) (k : ShS lab h sp dp c D V S root rd wr) (hl13 : lab tp = 13) (h0 : 0 < root) {x : Value} (d : Nd (Use lab) h x (nl ps)) (ha : Asc Pair.key ps) (hlen : ps.length ≤ 2 ^ 30) (ho : lok c (applyP ps m))
    (r : ∀ lab' h' D' wr' y, Lat lab lab' h → ShS lab' h' sp dp c D' (upd V root (leafOf c (nl (applyP ps m)))) S root rd wr' → Ex (Lb lab 1 12) h h' → (∃ cs, y = .agg cs ∧ cs.size = 5 ∧ cs.toList.all one' = true) → (wr' = wr ∨ wr' = wr + 1) → K (.tuple #[.bool true, y, int 0]) h') :
    Ca f_tree_Tree_direct #[ptr tp 0, x, m.v] h K := by
  have hr := k.right
  have hb := blocks_eq hr
  obtain ⟨u, kb⟩ := kb
  have htl0 := kb.lt
  obtain ⟨vk, vp, vb, vl, rfl, q1, q2, q3, q4⟩ := d.out
  refine m_tree_Tree_direct_ok (bxa (cs := [int 0, vk, vp, vb, vl]) fun b1 h1 e1 hb1 k1 hs1 => bxa (cs := [str m.key, .bool m.del, str m.val]) fun b2 h2 e2 hb2 k2 hs2 => ala (cs := [int 0, .slice none 0 0, .slice none 0 0, .slice none 0 0, .slice none 0 0]) fun b3 h3 e3 hb3 k3 hs3 => ?_)
  have e12 := e1.trans e2
  have e13 := e12.trans e3
  -- labels of the variables
  let l3 : Nat → Nat := upd (upd (frl lab h) b1 99) b3 99
  have a3 : Lat lab l3 h := fun b hb => (upd_ne (by omega)).trans ((upd_ne (by omega)).trans (frl_lat lab h b hb))
  have w1 : l3 b1 = 99 := (upd_ne (by omega)).trans upd_same
  have w3 : l3 b3 = 99 := upd_same
  have kk := (k.lat a3).ext e13
  have kb := kb.ext e13
  have k1 := (k1.ext e2).ext e3
  have k2 := k2.ext e3
  have htl := kb.lt
  refine fl (by rw [kb.get]; rfl) ?_
  refine c_shelf_Config kk fun h4 e4 => ?_
  refine alst (vs := c.cs) rfl rfl rfl fun b4 h5 e5 hb4 k4 _ => ?_
  have e35 := e4.trans e5
  have e15 := e13.trans e35
  have kk := kk.ext e35
  have kb := kb.ext e35
  have k1 := k1.ext e35
  have k2 := k2.ext e35
  have k3 := k3.ext e35
  refine fv (by rw [k1.get]; rfl) ?_
  rw [BiP_eql]
  refine cdp (fun _ => ?_) fun h => absurd rfl h
  refine fv (by rw [k1.get]; rfl) ((LdA_b k2 rfl).2 ?_)
  refine bs (n0 := h5.size) (e := t_api_Msg) (zs := #[str [], .bool false, str []]) [m] rfl (Nat.le_refl _) rfl (by decide) (cs := #[str m.key, .bool m.del, str m.val]) (by kernel_rfl) rfl fun v6 h6 o6 e6 => ?_
  have s6 : Sl No h6 v6 [m] := o6.sl fun _ _ h => h
  have sl6 : Sl No h6 vl ps := ((q4.ext e15).ext e6).no
  refine c_leaf_Apply sl6 s6 ha (by simp; omega) fun v7 h7 o7 e7 => ?_
  simp only [List.foldl_cons, List.foldl_nil] at o7
  have e57 := e6.trans e7
  have hv7 : v7.oneCell' = true := o7.one
  have kk := kk.ext e57
  have kb := kb.ext e57
  have k1 := k1.ext e57
  have k3 := k3.ext e57
  have k4 := k4.ext e57
  have hsz5 : h5.size ≤ h6.size := e6.le
  have hsz15 := e15.le
  have l34 := e4.le
  have l45 := e5.le
  have l56 := e6.le
  have l67 := e7.le
  rw [FaP_ptr]
  refine StP_b k1 (show 0 + 4 < 5 by decide) (by rw [one_eq]; exact hv7) fun h8 _ e8 k1' => ?_
  have e8' : Ex (Lb l3 99 99) h7 h8 := one_lb e8 ⟨by rw [w1]; decide, by rw [w1]; decide⟩
  have kk := kk.ex13 e8' (by decide)
  have kb := kb.ex e8 (by show ¬ tp = b1; omega)
  have k3 := k3.ex e8 (by show ¬ b3 = b1; omega)
  have k4 := k4.ex e8 (by show ¬ b4 = b1; omega)
  have o8 := o7.exb e8 (fun b hb => by have := o7.block b hb; show ¬ b = b1; omega)
  have s8 : Sl No h8 v7 (applyP ps m) := o8.sl fun _ _ h => h
  refine fv (v := v7) (by rw [k1'.get]; rfl) (s8.len ?_)
  refine fv (v := int c.leaf) (by rw [k4.get]; rfl) ?_
  have hfit := outer_fits hr ho
  have hle : ((applyP ps m).length : Int) ≤ c.leaf := hfit.2.2.1
  rw [BiP_leq, decide_eq_true hle]
  unfold m_tree_Tree_direct_j62
  rw [UnP_not]
  show CdP (.bool false) _ _
  rw [CdP_false]
  refine ⟨fun b' _ => b' = b1 ∨ b' = tp, ?_⟩
  refine LaX_b (cs := [int 0, vk, vp, vb, v7]) k1' rfl (fun _ => .inl rfl) ?_
  rw [NilP_ptr, FaP_ptr]
  refine LdX_b kb rfl (fun _ => .inr rfl) ?_
  rw [NilP_ptr, FaP_ptr]
  refine LdX_b kb rfl (fun _ => .inr rfl) ?_
  refine LaX_b (cs := [int 0, vk, vp, vb, v7]) k1' rfl (fun _ => .inl rfl) ?_
  have d8 : Nd No h8 (.agg [int 0, vk, vp, vb, v7].toArray) (nl (applyP ps m)) := by
    have z1 := ((q1.ext e15).ext e57).no
    have z2 := ((q2.ext e15).ext e57).no
    have z3 := ((q3.ext e15).ext e57).no
    have emp : ∀ {α : Type} [El α] {v : Value}, Sl No h7 v ([] : List α) → Sl No h8 v ([] : List α) := fun {α} _ {v} s => by
      obtain ⟨a, cap, r1, r2, r3, r4⟩ := s.out
      exact ⟨a, cap, r1, r2, r3, fun x hx => ⟨(r4 x hx).1, fun h => absurd rfl h⟩⟩
    exact ⟨_, _, _, _, rfl, emp z1, emp z2, emp z3, s8⟩
  have wtp : l3 tp = 13 := (a3 tp htl0).trans hl13
  refine c_shelf_Save (n := nl (applyP ps m)) kk h0 kk.kl d8 (lok_fits hr ho) rfl ho fun l9 h9 D9 wr9 a9 k9 e9 hwr => ⟨?_, ?_⟩
  · rintro b o (rfl | rfl)
    · exact hget_eq (e9.eq _ k1'.lt (nLb w1 (by decide))) o
    · exact hget_eq (e9.eq _ kb.lt (nLb wtp (by decide))) o
  have k3 := k3.ex e9 (nLb w3 (by decide))
  have b3l : b3 < h8.size := by have := e8.le; have := e7.le; omega
  have w9 : l9 b3 = 99 := (a9 b3 b3l).trans w3
  have hall : [int 0, vk, vp, vb, v7].all one' = true := by
    obtain ⟨a1, c1, r1, _⟩ := q1.out
    obtain ⟨a2, c2, r2, _⟩ := q2.out
    obtain ⟨a3, c3, r3, _⟩ := q3.out
    have hv : one' v7 = true := by rw [one_eq]; exact hv7
    rw [r1, r2, r3]
    show (true && (true && (true && (true && (one' v7 && true))))) = true
    rw [hv]; rfl
  refine StA_b (vs := [int 0, vk, vp, vb, v7]) k3 rfl rfl hall fun h10 _ e10 k3' => ⟨trivial, ?_⟩
  refine (LdA_b k3' rfl).2 ?_
  have e10' : Ex (Lb l9 99 99) h9 h10 := one_lb e10 ⟨by rw [w9]; decide, by rw [w9]; decide⟩
  have h8le : h.size ≤ h8.size := by have := e57.le; have := e8.le; omega
  refine r l9 h10 D9 wr9 _ (a3.trans a9 h8le) (k9.ex13 e10' (by decide)) ?_ ⟨_, rfl, rfl, hall⟩ hwr
  refine ⟨by have := e9.le; have := e10.le; omega, fun b hb hm => ?_⟩
  have h5l := e57.le
  rw [e10.eq b (by have := e9.le; omega) (by show ¬ b = b3; omega), e9.eq b (by omega) (fun x => hm (by show 1 ≤ lab b ∧ lab b ≤ 12; rw [← a3 b hb]; exact x)), e8.eq b (by omega) (by show ¬ b = b1; omega), e57.eq b (by omega) (fun x => x), e15.eq b hb (fun x => x)]
end
end Go.Sg
/-! Contracts of tree: Put into a tree of one leaf. -/
namespace Go.Sg
open Go Vc
section
variable {lab lab' : Nat → Nat} {h h' : Heap} {tp sp cp dp o g p kept i root : Nat} {c : Config} {D D' : List (List UInt8)} {V : Nat → List UInt8} {S : Nat → Bool} {rd wr rd' wr' : BitVec 64} {K : Kt} {n : Node} {U : Nat → Prop} {ps : List Pair} {m : Msg}
theorem addw {a b : Int} {K : Value → Prop} (r : ∀ x, K (int x)) : BiP .add (int a) (int b) K := ⟨_, by simp [binVal]; rfl, r _⟩
theorem put_j32 (kb : ∃ u, Blk h tp [ptr sp 0, .int .u32 root, int 0, int u, int 0, int 0]) (k : ShS lab h sp dp c D V S root rd wr) (hl13 : lab tp = 13) (h0 : 0 < root) {b1 b2 : Nat} (k1 : Blk h b1 [str m.key, .bool m.del, str m.val]) {cs : List Value} (k2 : Blk h b2 cs) (d : Nd (Use lab) h (.agg cs.toArray) (nl ps))
    (hcs : cs.length = 5) (ha : Asc Pair.key ps) (hlen : ps.length ≤ 2 ^ 30) (ho : lok c (applyP ps m))
    (r : ∀ lab' h' D' V' wr', Lat lab lab' h → TrS lab' h' tp sp dp c D' V' S root (applyP ps m) rd wr' → Ex (Lb lab 1 13) h h' → K (int 0) h') :
    m_tree_Tree_Put_j32 (ptr tp 0) (ptr b1 0) (ptr b2 0) (int 0) h K := by
  unfold m_tree_Tree_Put_j32
  rw [BiP_neq]
  refine cdp (fun h => absurd rfl h) fun _ => ?_
  refine (LdA_b k2 hcs).2 ((LdA_b k1 rfl).2 ?_)
  refine c_tree_direct (m := m) kb k hl13 h0 d ha hlen ho fun l1 h1 D1 wr1 y a1 s1 e1 hy hwr => ?_
  obtain ⟨u, kb⟩ := kb
  obtain ⟨ys, rfl, hys1, hys2⟩ := hy
  rw [ex30, ex31, ex32]
  have htl := kb.lt
  have kb := kb.ex e1 (nLb hl13 (by decide))
  have w1 : l1 tp = 13 := (a1 tp htl).trans hl13
  have hyy : ys = ys.toList.toArray := by simp
  rw [hyy]
  refine alst (vs := ys.toList) rfl (by simpa using hys1) hys2 fun b3 h2 e2 hb3 k3 _ => ?_
  rw [BiP_neq]
  refine cdp (fun h => absurd rfl h) fun _ => ?_
  rw [CdP_true]
  have kb := kb.ext e2
  have s1 := s1.ext e2
  rw [NilP_ptr, FaP_ptr]
  refine fv (v := int u) (by rw [kb.get]; rfl) ?_
  refine addw fun u' => ?_
  rw [NilP_ptr, FaP_ptr, FaP_ptr]
  refine StP_b kb (show 0 + 3 + 0 < 6 by decide) rfl fun h3 _ e3 kb' => ?_
  have e3' : Ex (Lb l1 13 13) h2 h3 := one_lb e3 ⟨by rw [w1]; decide, by rw [w1]; decide⟩
  refine r l1 h3 D1 _ wr1 a1 ⟨⟨u', kb'⟩, s1.ex13 e3' (by decide), w1, h0, upd_same, ho⟩ ?_
  exact a1.ex ((Lb.wide e1 (by decide) (by decide)).trans (Ex.toM e2)) (Lb.wide e3' (by decide) (by decide))
theorem agr1 {M : Nat → Prop} {X : Nat → Nat → Prop} {h h' : Heap} {b : Nat} (hX : ∀ b' o, X b' o → b' = b) (e : Ex M h h') (hb : b < h.size) (hm : ¬ M b) : Agr X h h' := by
  intro b' o hx
  rw [hX b' o hx]
  exact hget_eq (e.eq _ hb hm) o
theorem c_tree_Put (k : TrS lab h tp sp dp c D V S root ps rd wr) (hk : keyOk c m.key = true) (hv : (m.val.length : Int) ≤ c.val) (hd : m.del = true → m.val = []) (ho : lok c (applyP ps m))
    (r : ∀ lab' h' D' V' rd' wr', Lat lab lab' h → TrS lab' h' tp sp dp c D' V' S root (applyP ps m) rd' wr' → Ex (Lb lab 1 13) h h' → K (int 0) h') : Ca f_tree_Tree_Put #[ptr tp 0, m.v] h K := by
  obtain ⟨⟨u, kb⟩, ks, hl13, h0, hleaf, hok⟩ := k
  have hr := ks.right
  have hb := blocks_eq hr
  have htl := kb.lt
  have hasc := lok_asc hok
  have hps : ps.length ≤ 2 ^ 30 := by have : ps.length ≤ 1024 := (outer_fits hr hok).2.1; omega
  refine m_tree_Tree_Put_ok (bxa (cs := [str m.key, .bool m.del, str m.val]) fun b1 h1 e1 hb1 k1 hs1 => ?_)
  have a1 : Lat lab (loc lab h b1) h := loc_lat lab (by omega)
  have ks1 := (ks.lat a1).ext e1
  have kb1 := kb.ext e1
  have w1 : loc lab h b1 b1 = 99 := loc_at
  have wt : loc lab h b1 tp = 13 := (a1 tp htl).trans hl13
  refine c_tree_none kb1 ?_
  rw [CdP_false]
  refine (LdA_b k1 rfl).2 ?_
  refine c_tree_may (m := m) kb1 ks1 hk hv hd fun h2 e2 => ?_
  have ks2 := ks1.ext e2
  have kb2 := kb1.ext e2
  have k12 := k1.ext e2
  have e12 := e1.trans e2
  rw [UnP_not]
  show CdP (.bool false) _ _
  rw [CdP_false]
  refine ⟨fun b' _ => b' = tp, ?_⟩
  rw [NilP_ptr, FaP_ptr]
  refine LdX_b kb2 rfl (fun _ => rfl) ?_
  rw [NilP_ptr, FaP_ptr]
  refine LdX_b kb2 rfl (fun _ => rfl) ?_
  have hl12 := e12.le
  have b1l : b1 < h2.size := k12.lt
  have tpl : tp < h2.size := kb2.lt
  refine ⟨?_, ?_⟩
  · refine c_shelf_Load (n := nl ps) ks2 h0 ks.kl hleaf rfl hok fun l3 h3 D3 rd3 wr3 v a3 s3 d3 e3 _ _ => ⟨trivial, ?_⟩
    obtain ⟨vk, vp, vb, vl, rfl, q1, q2, q3, q4⟩ := d3.out
    have d3' := d3
    rw [ex20, ex21]
    have hall : [int (nl ps).level, vk, vp, vb, vl].all one' = true := by
      obtain ⟨x1, c1, r1, _⟩ := q1.out
      obtain ⟨x2, c2, r2, _⟩ := q2.out
      obtain ⟨x3, c3, r3, _⟩ := q3.out
      obtain ⟨x4, c4, r4, _⟩ := q4.out
      rw [r1, r2, r3, r4]; rfl
    refine ala (cs := [int 0, .slice none 0 0, .slice none 0 0, .slice none 0 0, .slice none 0 0]) fun b4 h4 e4 hb4 k4 _ => ?_
    have w3t : l3 tp = 13 := (a3 tp tpl).trans wt
    refine ⟨?_, ?_⟩
    · refine agr1 (b := tp) (fun b' o hx => hx) (e3.trans (Ex.toM e4)) tpl (nLb wt (by decide))
    refine StA_b (vs := [int (nl ps).level, vk, vp, vb, vl]) k4 rfl rfl hall fun h5 _ e5 k5 => ⟨trivial, ?_⟩
    have e45 : Ext h3 h5 := e4.andThen e5 fun x hx => by show ¬ x = b4; omega
    have kb5 := (kb2.ex e3 (nLb wt (by decide))).ext e45
    have k15 := (k12.ex e3 (nLb w1 (by decide))).ext e45
    refine put_j32 ⟨u, kb5⟩ (s3.ext e45) w3t h0 k15 k5 (d3'.ext e45) rfl hasc hps ho fun l6 h6 D6 V6 wr6 a6 t6 e6 => ?_
    have hl3 := e3.le
    have hl45 := e45.le
    have a13 : Lat lab l3 h := a1.trans a3 (by omega)
    refine r l6 h6 D6 V6 rd3 wr6 (a13.trans a6 (by omega)) t6 ?_
    exact a13.ex ((a1.ex (Ex.toM e12) (Lb.wide e3 (by decide) (by decide))).trans (Ex.toM e45)) e6
  · refine ala (cs := [int 0, .slice none 0 0, .slice none 0 0, .slice none 0 0, .slice none 0 0]) fun b4 h3 e3 hb4 k4 _ => ⟨?_, ?_⟩
    · exact agr1 (b := tp) (fun b' o hx => hx) e3 tpl (fun x => x)
    have a3 : Lat (loc lab h b1) (loc (loc lab h b1) h2 b4) h2 := loc_lat _ (by omega)
    have ks3 := (ks2.lat a3).ext e3
    have w4 : loc (loc lab h b1) h2 b4 b4 = 99 := loc_at
    have w14 : loc (loc lab h b1) h2 b4 b1 = 99 := (a3 b1 b1l).trans w1
    have wt4 : loc (loc lab h b1) h2 b4 tp = 13 := (a3 tp tpl).trans wt
    refine c_shelf_Load (n := nl ps) ks3 h0 ks.kl hleaf rfl hok fun l5 h5 D5 rd5 wr5 v a5 s5 d5 e5 _ _ => ⟨trivial, ?_⟩
    obtain ⟨vk, vp, vb, vl, rfl, q1, q2, q3, q4⟩ := d5.out
    have d5' := d5
    rw [ex20, ex21]
    have hall : [int (nl ps).level, vk, vp, vb, vl].all one' = true := by
      obtain ⟨x1, c1, r1, _⟩ := q1.out
      obtain ⟨x2, c2, r2, _⟩ := q2.out
      obtain ⟨x3, c3, r3, _⟩ := q3.out
      obtain ⟨x4, c4, r4, _⟩ := q4.out
      rw [r1, r2, r3, r4]; rfl
    have b4l := k4.lt
    have k4 := k4.ex e5 (nLb w4 (by decide))
    have w5 : l5 b4 = 99 := (a5 b4 b4l).trans w4
    refine StA_b (vs := [int (nl ps).level, vk, vp, vb, vl]) k4 rfl rfl hall fun h6 _ e6 k6 => ⟨trivial, ?_⟩
    have e6' : Ex (Lb l5 99 99) h5 h6 := one_lb e6 ⟨by rw [w5]; decide, by rw [w5]; decide⟩
    have hl3 := e3.le
    have kb5 := (kb2.ext e3).ex e5 (nLb wt4 (by decide))
    have k15 := (k12.ext e3).ex e5 (nLb w14 (by decide))
    have kb6 := kb5.ex e6 (by show ¬ tp = b4; omega)
    have k16 := k15.ex e6 (by show ¬ b1 = b4; omega)
    have w5t : l5 tp = 13 := (a5 tp (by omega)).trans wt4
    have d6 : Nd (Use l5) h6 (.agg [int (nl ps).level, vk, vp, vb, vl].toArray) (nl ps) := d5'.keep e6' (fun b hb => by show l5 b ≠ 0; have := hb.1; omega)
    refine put_j32 ⟨u, kb6⟩ (s5.ex13 e6' (by decide)) w5t h0 k16 k6 d6 rfl hasc hps ho fun l7 h7 D7 V7 wr7 a7 t7 e7 => ?_
    have hl5 := e5.le
    have hl6 := e6.le
    have a15 : Lat lab l5 h := (a1.trans a3 (by omega)).trans a5 (by omega)
    refine r l7 h7 D7 V7 rd5 wr7 (a15.trans a7 (by omega)) t7 ?_
    have a13 : Lat lab (loc (loc lab h b1) h2 b4) h := a1.trans a3 (by omega)
    refine a15.ex ?_ e7
    refine ⟨by omega, fun b hb hm => ?_⟩
    rw [e6.eq b (by omega) (by show ¬ b = b4; omega), e5.eq b (by omega) (fun x => hm (by show 1 ≤ lab b ∧ lab b ≤ 13; rw [← a13 b hb]; exact ⟨x.1, by have := x.2; omega⟩)), e3.eq b (by omega) (fun x => x), e12.eq b hb (fun x => x)]
end
end Go.Sg
/-! Contracts of seek and pour: a tree of one leaf. -/
namespace Go.Sg
open Go Vc
/-- A node's cells. -/
structure Nv where
  cs : List Value
  len : cs.length = 5
  one : ∀ v ∈ cs, v.oneCell' = true
instance : El Nv := ⟨5, fun n => n.cs, fun n => n.len, by decide, fun n => n.one⟩
section
variable {lab lab' : Nat → Nat} {h h' : Heap} {tp sp cp dp o g p kept i root : Nat} {c : Config} {D D' : List (List UInt8)} {V : Nat → List UInt8} {S : Nat → Bool} {rd wr rd' wr' : BitVec 64} {K : Kt} {n : Node} {U : Nat → Prop} {ps : List Pair} {m : Msg} {key : Str}
theorem sl_one {α : Type} [El α] {v : Value} {l : List α} (s : Sl U h v l) : one' v = true := by obtain ⟨a, cap, r, _⟩ := s.out; rw [r]; rfl
theorem five_one {vk vp vb vl : Value} {x : Int} (h1 : one' vk = true) (h2 : one' vp = true) (h3 : one' vb = true) (h4 : one' vl = true) : [int x, vk, vp, vb, vl].all one' = true := by
  show (true && (one' vk && (one' vp && (one' vb && (one' vl && true))))) = true
  rw [h1, h2, h3, h4]; rfl
theorem five_mem {vk vp vb vl : Value} {x : Int} (h1 : one' vk = true) (h2 : one' vp = true) (h3 : one' vb = true) (h4 : one' vl = true) : ∀ v ∈ [int x, vk, vp, vb, vl], v.oneCell' = true := fun v hv => by
  rw [← one_eq]; exact List.all_eq_true.1 (five_one (x := x) h1 h2 h3 h4) v hv
theorem c_pour_Value {x : Value} {nv : Nv} (s : Sl No h x [nv]) (d : Nd No h (.agg nv.cs.toArray) (nl ps)) (ha : Asc Pair.key ps) (hl : ps.length ≤ 2 ^ 30) (r : ∀ h', Ext h h' → K (.tuple #[str ((getP ps key).getD []), .bool (getP ps key).isSome]) h') : Ca f_pour_Value #[x, str key] h K := by
  refine m_pour_Value_ok (s.len ?_)
  refine lop (σ := Unit) (fun _ => [.string { data := #[] }, .bool false, int 0]) (fun _ h' => h' = h) (fun _ => 0) () rfl rfl ?_
  rintro _ h1 N rfl hN
  simp only [m_pour_Value_l3, gv_zero, gv_succ]
  rw [BiP_lss]
  refine cdp (fun _ => ?_) fun h => absurd (by simp) h
  refine s.ea (x := nv) (by omega) rfl ?_
  obtain ⟨vk, vp, vb, vl, hcs, q1, q2, q3, q4⟩ := d.out
  have hcl : nv.cs = [int 0, vk, vp, vb, vl] := by
    have := congrArg (fun v => match v with | .agg a => a.toList | _ => []) hcs
    simpa [nl] using this
  show AlP _ _ _ fun x10 h9 => StA 5 x10 (.agg nv.cs.toArray) h9 _
  rw [hcl]
  have hall : [int 0, vk, vp, vb, vl].all one' = true := by
    obtain ⟨x1, c1, r1, _⟩ := q1.out
    obtain ⟨x2, c2, r2, _⟩ := q2.out
    obtain ⟨x3, c3, r3, _⟩ := q3.out
    obtain ⟨x4, c4, r4, _⟩ := q4.out
    rw [r1, r2, r3, r4]; rfl
  refine alst (vs := [int 0, vk, vp, vb, vl]) rfl rfl hall fun b h2 e2 hb k2 _ => ?_
  refine fv (by rw [k2.get]; rfl) ?_
  rw [BiP_eql]
  refine cdp (fun _ => ?_) fun h => absurd rfl h
  refine fv (by rw [k2.get]; rfl) ?_
  refine c_leaf_Get (q4.ext e2) ha (by show ps.length ≤ _; omega) fun h3 e3 => ?_
  refine ex20.2 (ex21.2 ?_)
  exact r h3 (e2.trans e3)
theorem c_tree_Get (k : TrS lab h tp sp dp c D V S root ps rd wr)
    (r : ∀ lab' h' D' rd' wr', Lat lab lab' h → TrS lab' h' tp sp dp c D' V S root ps rd' wr' → Ex (Lb lab 1 13) h h' → K (.tuple #[str ((getP ps key).getD []), .bool (getP ps key).isSome, int 0]) h') : Ca f_tree_Tree_Get #[ptr tp 0, str key] h K := by
  obtain ⟨⟨u, kb⟩, ks, hl13, h0, hleaf, hok⟩ := k
  have hr := ks.right
  have htl := kb.lt
  have hasc := lok_asc hok
  have hps : ps.length ≤ 2 ^ 30 := by have : ps.length ≤ 1024 := (outer_fits hr hok).2.1; omega
  refine m_tree_Tree_Get_ok (c_tree_none kb ?_)
  rw [CdP_false]
  refine fl (by rw [kb.get]; rfl) (fl (by rw [kb.get]; rfl) ?_)
  refine m_seek_Get_ok (bx1 rfl fun bk h1 e1 hbk k1 hs1 => ?_)
  refine al (v := .slice none 0 0) fun bl h2 e2 hbl k2 hs2 => ?_
  have k2 : Blk h2 bl [.slice none 0 0] := k2
  let l2 : Nat → Nat := upd (upd (frl lab h) bk 99) bl 99
  have a2 : Lat lab l2 h := fun b hb => (upd_ne (by omega)).trans ((upd_ne (by omega)).trans (frl_lat lab h b hb))
  have wk : l2 bk = 99 := (upd_ne (by omega)).trans upd_same
  have wl : l2 bl = 99 := upd_same
  have wt : l2 tp = 13 := (a2 tp htl).trans hl13
  have e12 := e1.trans e2
  have ks2 := (ks.lat a2).ext e12
  have kb2 := kb.ext e12
  have k1 := k1.ext e2
  refine ld (by rw [k1.get]; rfl) ?_
  refine m_seek_down_ok ?_
  refine lop (σ := Unit) (fun _ => [int 0, int (-1), .int .u32 root]) (fun _ h' => h' = h2) (fun _ => 0) () rfl rfl ?_
  rintro _ h2' N rfl hN
  simp only [m_seek_down_l1, gv_zero, gv_succ]
  refine c_shelf_Load (n := nl ps) ks2 h0 ks.kl hleaf rfl hok fun l3 h3 D3 rd3 wr3 v a3 s3 d3 e3 _ _ => ?_
  obtain ⟨vk, vp, vb, vl, rfl, q1, q2, q3, q4⟩ := d3.out
  have d3' := d3
  have hall := five_one (x := (nl ps).level) (sl_one q1) (sl_one q2) (sl_one q3) (sl_one q4)
  have hone := five_mem (x := (nl ps).level) (sl_one q1) (sl_one q2) (sl_one q3) (sl_one q4)
  rw [ex20, ex21]
  refine alst (vs := [int (nl ps).level, vk, vp, vb, vl]) rfl rfl hall fun b4 h4 e4 hb4 k4 _ => ?_
  rw [BiP_neq]
  refine cdp (fun h => absurd rfl h) fun _ => ?_
  rw [BiP_geq]
  refine cdp (fun h => absurd h (by decide)) fun _ => ?_
  unfold m_seek_down_j20
  rw [CdP_false]
  unfold m_seek_down_j21
  refine (LdA_b k4 rfl).2 ?_
  refine cvhc (by kernel_rfl) ?_
  show Ca f_seek_Get_1 #[.int .u32 root, .agg [int (nl ps).level, vk, vp, vb, vl].toArray, ptr bl 0, ptr bk 0] h4 _
  have k1l := k1.lt
  have k2l := k2.lt
  have w3k : l3 bk = 99 := (a3 bk k1l).trans wk
  have w3l : l3 bl = 99 := (a3 bl k2l).trans wl
  have w3t : l3 tp = 13 := (a3 tp kb2.lt).trans wt
  have k1 := (k1.ex e3 (nLb wk (by decide))).ext e4
  have k2 := (k2.ex e3 (nLb wl (by decide))).ext e4
  have kb3 := (kb2.ex e3 (nLb wt (by decide))).ext e4
  have s3 := s3.ext e4
  have hl3 := e3.le
  refine m_seek_Get_1_ok (bxa (cs := [int (nl ps).level, vk, vp, vb, vl]) fun b5 h5 e5 hb5 k5 _ => ?_)
  refine (LdA_b k5 rfl).2 ?_
  let nv : Nv := ⟨[int (nl ps).level, vk, vp, vb, vl], rfl, hone⟩
  refine bs (n0 := h5.size) (e := t_api_Node) (zs := #[int 0, .slice none 0 0, .slice none 0 0, .slice none 0 0, .slice none 0 0]) [nv] rfl (Nat.le_refl _) rfl (by decide) (cs := #[int (nl ps).level, vk, vp, vb, vl]) (by kernel_rfl) rfl fun v6 h6 o6 e6 => ?_
  have e56 := e5.trans e6
  have k1 := k1.ext e56
  have k2 := k2.ext e56
  have kb3 := kb3.ext e56
  have s3 := s3.ext e56
  have k4 := k4.ext e56
  have k5 := k5.ext e6
  have hl4 := e4.le
  have hl56 := e56.le
  have hv6 : one' v6 = true := by rw [one_eq]; exact o6.one
  refine StP_b k2 (show 0 < 1 by decide) hv6 fun h7 _ e7 k2' => ?_
  have e7' : Ex (Lb l3 99 99) h6 h7 := one_lb e7 ⟨by rw [w3l]; decide, by rw [w3l]; decide⟩
  have k1 := k1.ex e7 (by show ¬ bk = bl; omega)
  have kb3 := kb3.ex e7 (by show ¬ tp = bl; have := e12.le; omega)
  have s3 := s3.ex13 e7' (by decide)
  have k4 := k4.ex e7 (by show ¬ b4 = bl; omega)
  have k5 := k5.ex e7 (by show ¬ b5 = bl; omega)
  have d7 : Nd (Use l3) h7 (.agg #[int (nl ps).level, vk, vp, vb, vl]) (nl ps) := ((d3'.ext e4).ext e56).keep e7' (fun b hb => by show l3 b ≠ 0; have := hb.1; omega)
  have o7 := o6.exb e7 (fun b hb => by have := o6.block b hb; have := e5.le; show ¬ b = bl; omega)
  refine fv (by rw [k5.get]; rfl) (ld (by rw [k1.get]; rfl) ?_)
  obtain ⟨vk', vp', vb', vl', hh, r1, r2, r3, r4⟩ := d7.out
  cases hh
  refine c_buf_Find r3 List.Pairwise.nil (by simp [nl]) fun h8 e8 => ?_
  show ExP (.tuple #[zeroM.v, .bool false]) 0 _
  rw [ex20, ex21]
  refine alst (vs := [str zeroM.key, .bool zeroM.del, str zeroM.val]) rfl rfl rfl fun b9 h9 e9 hb9 k9 _ => ?_
  rw [UnP_not]
  show UnP .not (.bool true) _
  rw [UnP_not]
  show CdP (.bool false) _ _
  rw [CdP_false]
  have e89 := e8.trans e9
  have k4 := k4.ext e89
  refine fv (v := int 0) (by rw [k4.get]; rfl) ?_
  rw [BiP_eql]
  show m_seek_down_j33 _ _ _ _ _ (.bool true) _ _ _
  unfold m_seek_down_j33
  rw [CdP_true]
  refine BiP_neq.2 (cdp (fun h => absurd rfl h) fun _ => ?_)
  have k1 := k1.ext e89
  have k2' := k2'.ext e89
  refine ld (v := v6) (by rw [k2'.get]; rfl) (ld (by rw [k1.get]; rfl) ?_)
  have d9 : Nd No h9 (.agg nv.cs.toArray) (nl ps) := ⟨_, _, _, _, rfl, (r1.ext e89).no, (r2.ext e89).no, (r3.ext e89).no, (r4.ext e89).no⟩
  refine c_pour_Value (nv := nv) ((o7.ext e89).sl fun _ _ h => h) d9 hasc hps fun h10 e10 => ?_
  refine ex20.2 (ex21.2 ?_)
  refine ⟨trivial, ex30.2 (ex31.2 (ex32.2 ?_))⟩
  have e910 := e89.trans e10
  have a23 : Lat lab l3 h := a2.trans a3 e12.le
  refine r l3 h10 D3 rd3 wr3 a23 ⟨⟨u, kb3.ext e910⟩, s3.ext e910, w3t, h0, hleaf, hok⟩ ?_
  have hl12 := e12.le
  have hl7 := e7.le
  refine ⟨by have := e910.le; omega, fun b hb hm => ?_⟩
  rw [e910.eq b (by omega) (fun x => x), e7.eq b (by omega) (by show ¬ b = bl; omega), e56.eq b (by omega) (fun x => x), e4.eq b (by omega) (fun x => x), e3.eq b (by omega) (fun x => hm (by show 1 ≤ lab b ∧ lab b ≤ 13; rw [← a2 b hb]; exact ⟨x.1, by have := x.2; omega⟩)), e12.eq b hb (fun x => x)]
end
end Go.Sg
set_option maxRecDepth 100000
namespace Go.Sg
open Go Vc Go.Proofs
/- math/bits.Len -/
def m_bits_Len (x0_ : Value) (h : Heap) (K : Kt) : Prop :=
 Ca f_bits_Len64 #[x0_] h fun x2 h1 =>
 K x2 h1
theorem m_bits_Len_ok {x0_ : Value} {h : Heap} {K : Kt} (hh : m_bits_Len x0_ h K) : Ca f_bits_Len #[x0_] h K := cv Tryz.func188 (by kernel_rfl) hh
end Go.Sg
/-! Sorting a short row of numbers. -/
namespace Go.Sg
open Go Vc
section
variable {h : Heap} {K : Kt} {g cap : Nat}
theorem c_Less_u32 {a b : Nat} (r : K (.bool (decide ((a : Int) < b))) h) : Ca f_cmp_Less_uint32 #[.int .u32 a, .int .u32 b] h K := by
  refine m_cmp_Less_uint32_ok (m_cmp_isNaN_uint32_ok ?_)
  unfold m_cmp_isNaN_uint32
  rw [BiP_neq, decide_eq_false (by simp)]
  exact CdP_false.2 (BiP_lss.2 r)
theorem is_any {s : ByteArray} {x : Nat} {k} {K : Value → Prop} (hs : x < s.size) (r : ∀ b : UInt8, K (.int .u8 b.toNat)) : IsP (.string s) (.int k (x : Int)) K := by
  refine ⟨s, k, x, rfl, rfl, by omega, s[x], ?_, r _⟩
  rw [Int.toNat_natCast]
  exact getElem?_pos s x hs
theorem c_mbits_Len {x : Nat} (hx : x < 64) (r : ∀ b : UInt8, K (int (0 + (b.toNat : Int))) h) : Ca f_bits_Len #[.int .u64 x] h K := by
  refine m_bits_Len_ok (m_bits_Len64_ok ?_)
  unfold m_bits_Len64
  rw [BiP_geq]
  refine cdp (fun h => absurd h (by omega)) fun _ => ?_
  unfold m_bits_Len64_j4
  rw [BiP_geq]
  refine cdp (fun h => absurd h (by omega)) fun _ => ?_
  unfold m_bits_Len64_j9
  rw [BiP_geq]
  refine cdp (fun h => absurd h (by omega)) fun _ => ?_
  unfold m_bits_Len64_j14
  rw [CvP_int, wrapU rfl (by omega) (by show _ < (2 : Int) ^ 8; omega)]
  refine is_any (Nat.lt_of_lt_of_le hx (Nat.le_of_ble_eq_true (by kernel_rfl))) fun b => ?_
  have hb := b.toNat_lt
  rw [CvP_int, wrap64 (by omega) (by omega)]
  exact add64 (by omega) (r b)
theorem swap_perm (L : List U32) (j : Nat) (h1 : j + 1 < L.length) : ((L.set (j + 1) L[j]).set j L[j + 1]).Perm L := by
  have := @List.set_set_perm U32 L (j + 1) j h1 (by omega)
  exact this
theorem c_insertion {L0 : List U32} (o : Own g cap t_uint32 h L0) (hl : L0.length ≤ 64) {n : Nat} (hn : n = L0.length)
    (r : ∀ L h', L.Perm L0 → Own g cap t_uint32 h' L → Ex (fun b => b = g) h h' → K (.tuple #[]) h') : Ca f_slices_insertionSortOrdered_uint32 #[.slice (some ⟨g, 0, none⟩) n cap, int 0, int n] h K := by
  subst hn
  have hcap := o.le
  refine m_slices_insertionSortOrdered_uint32_ok (add64 (by omega) ?_)
  refine lop (σ := Nat × List U32) (fun p => [int (p.1 + 1 : Nat)]) (fun p h' => p.2.Perm L0 ∧ Own g cap t_uint32 h' p.2 ∧ Ex (fun b => b = g) h h' ∧ p.1 ≤ 64) (fun p => L0.length - (p.1 + 1)) (0, L0) rfl ⟨.refl _, o, Ex.refl _ _, Nat.zero_le _⟩ ?_
  rintro ⟨i, L⟩ h1 N ⟨hp, o1, e1, hi⟩ hN
  simp only at hp o1 hi
  simp only [m_slices_insertionSortOrdered_uint32_l2, gv_zero, gv_succ]
  have hlen := hp.length_eq
  rw [BiP_lss]
  refine cdp (fun hlt => ?_) (fun hge => r L h1 hp o1 e1)
  have next : ∀ (L' : List U32) (h2 : Heap), L'.Perm L0 → Own g cap t_uint32 h2 L' → Ex (fun b => b = g) h h2 → m_slices_insertionSortOrdered_uint32_j34 (.slice (some ⟨g, 0, none⟩) L0.length cap) (int 0) (int L0.length) (int (i + 1 : Nat)) h2 N K := by
    intro L' h2 q1 q2 q3
    unfold m_slices_insertionSortOrdered_uint32_j34
    refine add64 (by omega) ?_
    have := hN (i + 1, L') h2 ⟨q1, q2, q3, by show i + 1 ≤ 64; omega⟩ (by simp only; omega)
    simpa using this
  refine lop (σ := Nat × List U32) (fun p => [int p.1]) (fun p h' => p.2.Perm L0 ∧ Own g cap t_uint32 h' p.2 ∧ Ex (fun b => b = g) h h' ∧ p.1 < L0.length) (fun p => p.1) (i + 1, L) rfl ⟨hp, o1, e1, by omega⟩ ?_
  rintro ⟨j, L'⟩ h2 N2 ⟨hp2, o2, e2, hj⟩ hN2
  simp only at hp2 o2 hj
  simp only [m_slices_insertionSortOrdered_uint32_l6, gv_zero, gv_succ]
  have hlen2 := hp2.length_eq
  rw [BiP_gtr]
  refine cdp (fun hj0 => ?_) (fun hj0 => ?_)
  · obtain ⟨k, rfl⟩ : ∃ k, j = k + 1 := ⟨j - 1, by omega⟩
    have rd := o2.rd (n := L0.length) hlen2.symm hcap
    have hk1 : L'[k + 1]? = some L'[k + 1] := List.getElem?_eq_getElem (by omega)
    have hk0 : L'[k]? = some L'[k] := List.getElem?_eq_getElem (by omega)
    have ek : ((k + 1 : Nat) : Int) - 1 = (k : Nat) := by omega
    refine rd.ei (i := ((k + 1 : Nat) : Int)) (x := L'[k + 1]) (by omega) (by rw [Int.toNat_natCast]; exact hk1) rfl ?_
    refine sub64 (by omega) ?_
    rw [ek]
    refine rd.ei (i := (k : Int)) (x := L'[k]) (by omega) (by rw [Int.toNat_natCast]; exact hk0) rfl ?_
    refine c_Less_u32 ⟨trivial, ?_⟩
    unfold m_slices_insertionSortOrdered_uint32_j20
    refine cdp (fun _ => ?_) (fun _ => next L' h2 hp2 o2 e2)
    unfold m_slices_insertionSortOrdered_uint32_j21
    refine sub64 (by omega) (sub64 (by omega) ?_)
    rw [ek]
    refine rd.ei (i := (k : Int)) (x := L'[k]) (by omega) (by rw [Int.toNat_natCast]; exact hk0) rfl ?_
    refine rd.ei (i := ((k + 1 : Nat) : Int)) (x := L'[k + 1]) (by omega) (by rw [Int.toNat_natCast]; exact hk1) rfl ?_
    refine own_set1 (i := k + 1) (a' := L'[k]) rfl rfl rfl o2 hlen2.symm (by omega) fun h3 o3 e3 => ⟨trivial, ?_⟩
    refine own_set1 (i := k) (a' := L'[k + 1]) rfl rfl rfl o3 (by rw [List.length_set]; exact hlen2.symm) (by rw [List.length_set]; omega) fun h4 o4 e4 => ⟨trivial, ?_⟩
    refine sub64 (by omega) ?_
    rw [ek]
    exact hN2 (k, _) h4 ⟨(swap_perm L' k (by omega)).trans hp2, o4, (e2.trans e3).trans e4, by show k < _; omega⟩ (by show k < k + 1; omega)
  · unfold m_slices_insertionSortOrdered_uint32_j20
    rw [CdP_false]
    exact next L' h2 hp2 o2 e2
/-- A short row is sorted: it has what it had. -/
theorem c_Sort_u32 {n0 : Nat} {v : Value} {L0 : List U32} (o : Ow n0 t_uint32 h v L0) (hl : L0.length ≤ 12)
    (r : ∀ L h', L.Perm L0 → Ow n0 t_uint32 h' v L → Ex (fun b => v.ownBlock = some b) h h' → K (.tuple #[]) h') : Ca f_slices_Sort_uint32 #[v] h K := by
  have s : Sl No h v L0 := o.sl fun _ _ h => h
  refine m_slices_Sort_uint32_ok (s.len ?_)
  rw [CvP_int, wrapU rfl (by omega) (by show _ < (2 : Int) ^ 64; omega)]
  refine c_mbits_Len (by omega) fun b => m_slices_pdqsortOrdered_uint32_ok ?_
  unfold m_slices_pdqsortOrdered_uint32
  refine lop (σ := Unit) (fun _ => [int 0, int L0.length, int (0 + (b.toNat : Int)), .bool true, .bool true]) (fun _ h' => h' = h) (fun _ => 0) () rfl rfl ?_
  rintro _ h1 N rfl hN
  simp only [m_slices_pdqsortOrdered_uint32_l1, gv_zero, gv_succ]
  refine sub64 (by omega) ?_
  rw [BiP_leq]
  refine cdp (fun _ => ?_) fun h => absurd (by omega) h
  rcases o.cases' with ⟨rfl, hl0⟩ | ⟨g, cap, rfl, hg, og⟩
  · subst hl0
    refine m_slices_insertionSortOrdered_uint32_ok (add64 (by omega) ?_)
    refine lop (σ := Unit) (fun _ => [int (0 + 1)]) (fun _ h' => h' = h1) (fun _ => 0) () rfl rfl ?_
    rintro _ h2 N rfl hN
    simp only [m_slices_insertionSortOrdered_uint32_l2, gv_zero, gv_succ]
    rw [BiP_lss]
    refine cdp (fun h => absurd h (by simp)) fun _ => ?_
    exact r [] h2 (.refl _) o (Ex.refl _ _)
  · refine c_insertion og (by omega) rfl fun L h2 hp o2 e2 => ?_
    refine r L h2 hp (o2.ow' hg hp.length_eq) (e2.mono fun b _ hb => ?_)
    have hb : b = g := hb
    rw [hb]; rfl
end
end Go.Sg
/-! The keys of a map of numbers of kind u32, in some order: maps.Keys, slices.AppendSeq. -/
namespace Go.Sg
open Go Vc Go.Proofs Go.RowKit Go.Maps Go.Sort Go.Shelf
abbrev encU : Int → Value := Value.int .u32
theorem encU_inj {x y : Int} (h : encU x = encU y) : x = y := by simpa [encU] using h
theorem keyOf_u32 {P : Program} {k : TypeId} (hk : P.underlying k = some (.int .u32)) {key : Value} {kl : Lit} (h : keyOf P k key = some kl) : ∃ x : Int, key = encU x ∧ kl = .int .u32 x := by
  cases key <;> simp [keyOf, hk, mapKey] at h
  rename_i q a
  obtain ⟨⟨rfl, hw⟩, rfl⟩ := h
  exact ⟨a, rfl, rfl⟩
/-- No key twice; a key is on the list just where the map has it and it is no longer to come. -/
def CollU {H : Type} (D0 : DataW H) (left : Lit → Bool) (ss : List Int) : Prop := ss.Nodup ∧ ∀ x, x ∈ ss ↔ (Maps.has D0 (.int .u32 x) = true ∧ left (.int .u32 x) = false)
theorem CollU.step {H : Type} {D0 : DataW H} {left : Lit → Bool} {ss : List Int} (h : CollU D0 left ss) {x : Int} {y : DataW H} (hlk : left (.int .u32 x) = true) (hat : ∀ zd, D0.atKey (.int .u32 x) zd = y) : CollU D0 (fun z => left z && !z.sameKey (.int .u32 x)) (ss ++ [x]) := by
  have hhas : Maps.has D0 (.int .u32 x) = true := has_true_of_atKey hat
  have hnew : x ∉ ss := fun hx => by have := ((h.2 x).1 hx).2; rw [hlk] at this; cases this
  refine ⟨List.nodup_append.2 ⟨h.1, by simp, fun a ha b hb => by simp at hb; subst hb; exact fun e => hnew (e ▸ ha)⟩, fun y => ?_⟩
  by_cases hy : y = x
  · subst hy; simp [hhas, Lit.sameKey]
  · simp [h.2 y, hy, Lit.sameKey]
theorem u_map : Pg.underlying t_M_uint32_int = some (.map t_uint32 t_int) := by kernel_rfl
theorem u_u32 : Pg.underlying t_uint32 = some (.int .u32) := by kernel_rfl
set_option maxRecDepth 100000 in
set_option maxHeartbeats 1000000 in
theorem keys1U_in {H : Type} (F : Fence) (n : Nat) (h10 : F.fn f_maps_Keys_map_1) (hro : F.round = none) (hn : 1 ≤ n) (l Bm b nn : Nat) (D0 : DataW H) {R : Value → Option (DataW H × List MemPlace)} (J : List Int → World → Prop)
    (hY : ∀ pre x W, J pre W → pre.length < Maps.size D0 → YieldAt F (n - 1) Pg l #[encU x] W fun e W' => e = .returned (.bool true) ∧ J (pre ++ [x]) W' ∧ KeepsWalks W W')
    (W : World) (hJ : AbidesFrom W.heap.size J) (hm : W.cell? ⟨Bm, 0, none⟩ = some (.map (some b))) (hown : W.ownsMap Pg t_uint32 R b nn D0) (h0 : J [] W) :
    CallsIn F n Pg f_maps_Keys_map_1 #[.func (.yield l) #[] #[], .pointer (some ⟨Bm, 0, none⟩)] W fun e W' => (∃ v, e = .returned v) ∧ ∃ ss : List Int, (ss.Nodup ∧ ∀ x, x ∈ ss ↔ Maps.has D0 (.int .u32 x) = true) ∧ J ss W' := by
  have mixed := mixed
  have t23 := u_map
  have t26 := u_u32
  refine callsIn_of_wp b_maps_Keys_map_1_at rfl h10 ?_ hro
  simp only [b_maps_Keys_map_1_nt, List.size_toArray, List.length_cons, List.length_nil, Nat.reduceAdd, Nat.reduceSub, Array.replicate_succ, Array.replicate_zero, List.push_toArray, List.append_toArray, List.nil_append, List.cons_append]
  gi_wp2_with (first
    | (gi_at_range; refine wpListIn_range_own _ rfl _ t_M_uint32_int rfl t_uint32 t_int (int_keyed u_u32) u_map _ b nn _ rfl hown ?_; intro w0 hrg0 hg0 hs0)
    | gi_in)
  go_frame
  gi_loopw [3] (fun _ wr => ∃ (left : Lit → Bool) (cnt : Nat) (ss : List Int), wr.ranges Pg t_uint32 R b W.heap.size nn D0 left cnt ∧ ss.length + cnt ≤ Maps.size D0 ∧ CollU D0 left ss ∧ J ss wr)
    (fun _ wr => wr.rangeLeft b W.heap.size)
  case atStart =>
    exact ⟨_, _, [], hrg0, by simp, ⟨List.nodup_nil, fun x => by cases Maps.has D0 (.int .u32 x) <;> simp⟩, hJ [] W w0 none h0 hg0 (fun r e => by cases e)⟩
  case round =>
    obtain ⟨left, cnt, ss, hrg, hcs, hC, hJs⟩ := hrel
    gi_wp2_with (first
      | (gi_at_next; refine wpListIn_next_ranges _ rfl _ rfl t_uint32 (int_keyed u_u32) R encU id (fun key kl hk => by obtain ⟨x, hx, _⟩ := keyOf_u32 u_u32 hk; exact ⟨x, hx⟩) (fun v _ _ => ⟨v, rfl⟩) b W.heap.size nn _ _ _ rfl hrg ?_ ?_)
      | gi_in)
    · intro hc0 hl0
      gi_wp2
      go_end0
      exact ⟨⟨_, rfl⟩, ss, ⟨hC.1, fun x => by rw [hC.2 x, hl0]; simp⟩, hJs⟩
    · intro x c kl yd yp w2 cnt2 hkey hlk hv hat hrg2 hlt hg2 hs2 hen
      obtain ⟨x', ex, rfl⟩ := keyOf_u32 u_u32 hkey
      obtain rfl : x = x' := encU_inj ex
      have hJ2 : J ss w2 := hJ ss wr w2 (some W.heap.size) hJs hg2 (fun r e => by cases e; exact ⟨Nat.le_refl _, hrg.iter_walk⟩)
      obtain ⟨fn, tmps, assign, body, hy, hR⟩ := hY ss x w2 hJ2 (by omega)
      clear hs2
      gi_wp2
      refine hR.mono ?_
      rintro e W3 ⟨rfl, hJ3, hk3⟩
      gi_wp2
      have hrg3 := hrg2.of_walks hk3
      go_roundw
      case rel => exact ⟨_, cnt2, ss ++ [x], hrg3, by simp; omega, hC.step hlk hat, hJ3⟩
      case measure => rw [hrg3.left_eq, hrg.left_eq]; exact hlt
end Go.Sg
/-! slices.AppendSeq(nil, maps.Keys(m)). -/
namespace Go.Sg
open Go Vc Go.Proofs Go.RowKit Go.Maps Go.Sort Go.Shelf
def apAssign : Code := (Code.region 2 #[{ dst := some 5, op := Op.assign (Operand.tmp 7), type := t_uint32, pos := "iter.go:51", after := #[], guard := none }] false)
def apBody : Code := (Code.block 1 (Code.region 3 #[{ dst := some 8, op := Op.load t_S_uint32 (Operand.tmp 2), type := t_S_uint32, pos := "iter.go:52", after := #[], guard := none }, { dst := some 9, op := Op.move (Operand.tmp 5), type := t_uint32, pos := "iter.go:52", after := #[], guard := none }, { dst := some 10, op := Op.buildSlice t_S_uint32 1 #[(0, Operand.tmp 9)], type := t_S_uint32, pos := "iter.go:52", after := #[{ on := 1, ground := Ground.data }], guard := none }, { dst := some 11, op := Op.call { callee := Callee.builtin Builtin.append, args := #[Operand.tmp 8, Operand.tmp 10], argTypes := #[t_S_uint32, t_S_uint32] }, type := t_S_uint32, pos := "iter.go:52", after := #[{ on := 0, ground := Ground.data }, { on := 2, ground := Ground.data }], guard := none }, { dst := none, op := Op.store t_S_uint32 (Operand.tmp 2) (Operand.tmp 11), type := 0, pos := "iter.go:52", after := #[{ on := 3, ground := Ground.data }, { on := 3, ground := Ground.chain }, { on := 0, ground := Ground.phase }, { on := 1, ground := Ground.phase }, { on := 2, ground := Ground.phase }, { on := 3, ground := Ground.phase }], guard := none }] false))
def apRec (fn : FuncId) (sv : Value) (Bs D : Nat) (st : LoopState) (pend : Option Code) : Loop :=
  { state := st, pending := pend, fn, tmps := #[.slice none 0 0, sv, .pointer (some ⟨Bs, 0, none⟩), undef, .slice none 0 0, undef, sv, undef, undef, undef, undef, undef, undef], params := #[7], assign := apAssign, body := apBody, defers := D }
/-- Between two rounds: what has come so far lies in a slice of the call's own. -/
structure ApAt (w0 : World) (fn : FuncId) (sv : Value) (Bs l D : Nat) (ss : List Int) (W : World) : Prop where
  box : ∃ v, W.heap[Bs]? = some (.cells #[v] t_S_uint32 (0, 0)) ∧ W.ownsRow w0.heap.size t_uint32 1 v ss.length (ss.map encU)
  L : W.heap[l]? = some (.loop (apRec fn sv Bs D .ready none))
  K : W.heap[D]? = some (.deferred (some []))
  below : Below w0.heap.size w0 W
theorem ap_abides (w0 : World) (fn : FuncId) (sv : Value) (Bs l D B : Nat) (hB : w0.heap.size ≤ B) : AbidesFrom B (ApAt w0 fn sv Bs l D) := fun s W W' row h hg hrow => by
  have hrow' : ∀ r, row = some r → ∃ o : Obj, W.heap[r]? = some o ∧ o.isWalk = true := fun r e => (hrow r e).2
  obtain ⟨v, hv, hr⟩ := h.box
  exact ⟨⟨v, (grownBy_keeps hg hrow' hv rfl).trans hv, ownsRow_abides_a hr hg hrow'⟩, (grownBy_keeps hg hrow' h.L rfl).trans h.L, (grownBy_keeps hg hrow' h.K rfl).trans h.K,
    h.below.grown hg h.below.size (fun k e => Nat.le_trans hB (hrow k e).1)⟩
theorem u_su32 : Pg.underlying t_S_uint32 = some (.slice t_uint32) := by kernel_rfl
theorem i_u32 : (Pg.info? t_uint32).map (fun i => (i.zero, i.size, i.bytes)) = some (some (.int .u32 0), 1, 4) := by kernel_rfl
set_option maxRecDepth 100000 in
set_option maxHeartbeats 2000000 in
theorem apYield (F : Fence) (m : Nat) (w0 : World) (fn : FuncId) (hfn : F.fn fn) (sv : Value) (Bs l D : Nat) (hBl : Bs ≠ l) (hDl : D ≠ l) (hDB : D ≠ Bs) (h0B : w0.heap.size ≤ Bs) (h0l : w0.heap.size ≤ l)
    (N : Nat) (hN : N ≤ maxLen) (hNb : N * 4 ≤ 140737488355328) (ss : List Int) (x : Int) (W : World) (h : ApAt w0 fn sv Bs l D ss W) (hlen : ss.length < N) :
    YieldAt F m Pg l #[encU x] W fun e W' => e = .returned (.bool true) ∧ ApAt w0 fn sv Bs l D (ss ++ [x]) W' ∧ KeepsWalks W W' := by
  have mixed := mixed
  have t24 := u_su32
  have t26 := u_u32
  have hne : t_S_uint32 ≠ t_uint32 := by decide
  obtain ⟨i0, hi, hz0, hz1, hz2⟩ := info_parts i_u32
  obtain ⟨v, hv, hrow⟩ := h.box
  refine ⟨fn, #[.slice none 0 0, sv, .pointer (some ⟨Bs, 0, none⟩), undef, .slice none 0 0, undef, sv, encU x, undef, undef, undef, undef, undef], apAssign, apBody, by simpa [apRec] using run_yield (P := Pg) (args := #[encU x]) h.L rfl, roundIn_of_wpIn hfn ?_⟩
  have hl : l < W.heap.size := (Array.getElem?_eq_some_iff.1 h.L).1
  have hbr := run_beginRound (P := Pg) h.L rfl
  obtain ⟨W2, hW2⟩ : ∃ W2, W.putObj l (.loop { apRec fn sv Bs D .ready none with state := .busy }) = W2 := ⟨_, rfl⟩
  rw [hW2] at hbr
  have hg2 : W.grownBy W2 (some l) := by rw [← hW2]; exact grownBy_putObj_a _ _ _
  have hk2 : KeepsWalks W W2 := by rw [← hW2]; exact KeepsWalks.putObj _ h.L rfl
  have hv2 : W2.heap[Bs]? = some (.cells #[v] t_S_uint32 (0, 0)) := by rw [← hW2]; exact (World.putObj_heap_other hBl).trans hv
  have hK2 : W2.heap[D]? = some (.deferred (some [])) := by rw [← hW2]; exact (World.putObj_heap_other hDl).trans h.K
  have hL2 : W2.heap[l]? = some (.loop { apRec fn sv Bs D .ready none with state := .busy }) := by rw [← hW2]; exact World.putObj_heap_same hl
  have hrow2 : W2.ownsRow w0.heap.size t_uint32 1 v ss.length (ss.map encU) := hrow.kept hg2 (ownsRow_ne_a hrow h.L (fun cur e => by first | cases e | exact hne (Obj.cells.inj e).2.1))
  have hb2 : Below w0.heap.size w0 W2 := h.below.grown hg2 h.below.size (fun k e => by cases e; exact h0l)
  obtain ⟨hc2, hf2⟩ := cell_of_box_a hv2
  have hBlt : Bs < W2.heap.size := (Array.getElem?_eq_some_iff.1 hv2).1
  have hl2 : l < W2.heap.size := (Array.getElem?_eq_some_iff.1 hL2).1
  have hDlt : D < W2.heap.size := (Array.getElem?_eq_some_iff.1 hK2).1
  have ne_of : ∀ {j : Nat} {o : Obj}, W2.heap[j]? = some o → (∀ cur, o ≠ .cells cur t_uint32 (0, 0)) → some j ≠ v.ownBlock := fun hj hno => by
    rcases ownsRow_ne_a hrow2 hj hno with e | e
    · rw [e]; simp
    · exact fun e' => e e'.symm
  clear hW2
  unfold apAssign
  gi_wp2_with gi_round_op_a
  unfold apBody
  gi_wp2_with (first
    | (gi_at_builtin; refine wpListIn_append_own _ rfl _ _ t_S_uint32 rfl w0.heap.size t_uint32 i0 (.int .u32 0) 1 4 u_su32 hi hz0 hz1 hz2 rfl (by decide) _ _ _ rfl (hrow2.alloc _) ⟨W2.heap.size, 0, none⟩ 1 1 [encU x] rfl rfl (cell_one_new _ _ _) (by simp [Value.oneCell', encU]) (by omega) (by omega) (by have := hb2.size; simp; omega) ?_; intro v' w3 hown' hg3 hnil3
       have hv3 : w3.heap[Bs]? = some (.cells #[v] t_S_uint32 (0, 0)) := (hg3.block Bs (by simp; omega) (ne_of hv2 (fun cur e => by first | cases e | exact hne (Obj.cells.inj e).2.1))).trans ((Below.heap_alloc _ _ Bs hBlt).trans hv2)
       obtain ⟨hc3, hf3⟩ := cell_of_box_a hv3
       obtain ⟨g', cap', cur', rfl, hbase', hgb', hr1, hr2, hr3, hr4⟩ : ∃ g' cap' cur', v' = .slice (some ⟨g', 0, none⟩) (ss.length + 1) cap' ∧ w0.heap.size ≤ g' ∧ w3.heap[g']? = some (.cells cur' t_uint32 (0, 0)) ∧ ss.length + 1 ≤ cap' ∧ cap' ≤ maxLen ∧ cur'.size = cap' * 1 ∧ cur'.toList.take ((ss.length + 1) * 1) = ss.map encU ++ [encU x] := by
         rcases hown'.2 with ⟨_, h0⟩ | h'
         · exact absurd h0 (by omega)
         · exact h'
       go_frame)
    | gi_round_op_a)
  have hg3' : (W2.alloc (.cells #[encU x] t_uint32)).grownBy w3 v.ownBlock := hg3
  have hL3 : w3.heap[l]? = some (.loop { apRec fn sv Bs D .ready none with state := .busy }) := (hg3'.block l (by simp; omega) (ne_of hL2 (fun cur e => by cases e))).trans ((Below.heap_alloc _ _ l hl2).trans hL2)
  have hK3 : w3.heap[D]? = some (.deferred (some [])) := (hg3'.block D (by simp; omega) (ne_of hK2 (fun cur e => by cases e))).trans ((Below.heap_alloc _ _ D hDlt).trans hK2)
  obtain ⟨w4, hw4⟩ : ∃ w4, w3.setCell ⟨Bs, 0, none⟩ (.slice (some ⟨g', 0, none⟩) (ss.length + 1) cap') = w4 := ⟨_, rfl⟩
  rw [hw4]
  have hg4 : w3.grownBy w4 (some Bs) := by rw [← hw4]; exact grownBy_setCell0_a _ _ _
  have hv4 : w4.heap[Bs]? = some (.cells #[.slice (some ⟨g', 0, none⟩) (ss.length + 1) cap'] t_S_uint32 (0, 0)) := by rw [← hw4]; exact heap_setCell_box_a _ hv3
  have hL4 : w4.heap[l]? = some (.loop { apRec fn sv Bs D .ready none with state := .busy }) := (hg4.block l (Array.getElem?_eq_some_iff.1 hL3).1 (fun e => hBl (by cases e; rfl))).trans hL3
  have hK4 : w4.heap[D]? = some (.deferred (some [])) := (hg4.block D (Array.getElem?_eq_some_iff.1 hK3).1 (fun e => hDB (by cases e; rfl))).trans hK3
  have hrow4 := hown'.kept hg4 (ownsRow_ne_a hown' hv3 (fun cur e => by first | cases e | exact hne (Obj.cells.inj e).2.1))
  have hl4 : l < w4.heap.size := (Array.getElem?_eq_some_iff.1 hL4).1
  have hb3 : Below w0.heap.size w0 w3 := (hb2.alloc hb2.size _).grown hg3' (by have := hb2.size; simp; omega) (fun k e => (hrow2.lt k e).1)
  have hb4 : Below w0.heap.size w0 w4 := hb3.grown hg4 hb3.size (fun k e => by cases e; exact h0B)
  have hk4 : KeepsWalks W w4 := ((hk2.trans (KeepsWalks.alloc _ _)).trans (KeepsWalks.of_grownBy hg3' (ownsRow_not_walk_a (hrow2.alloc _)))).trans (by rw [← hw4]; exact KeepsWalks.setCell _ _ _)
  clear hw4
  refine ⟨_, _, run_endRound none hL4, rfl, ⟨⟨_, (World.putObj_heap_other hBl).trans hv4, ?_⟩, World.putObj_heap_same hl4, (World.putObj_heap_other hDl).trans hK4, hb4.grown (grownBy_putObj_a _ _ _) hb4.size (fun k e => by cases e; exact h0l)⟩, hk4.trans (KeepsWalks.putObj _ hL4 rfl)⟩
  have := hrow4.kept (grownBy_putObj_a w4 l (.loop { { apRec fn sv Bs D .ready none with state := .busy } with state := if (none : Option Code).isNone then .ready else .done, pending := none })) (ownsRow_ne_a hrow4 hL4 (fun cur e => by cases e))
  simpa using this
set_option maxRecDepth 100000 in
set_option maxHeartbeats 2000000 in
theorem appendSeqU_in (F : Fence) (n : Nat) (h11 : F.fn f_slices_AppendSeq_uint32) (hro : F.round = none) (hn : 2 ≤ n) (g : Nat) (lb : Array Value) (hFg : F.fn g) (eg : ∀ args w, (callFunc g args).run Pg w = .ok (.enter g args) w)
    (S : List Int → Prop) (N : Nat) (hN : N ≤ maxLen) (hNb : N * 4 ≤ 140737488355328) (w : World) (hseq : SeqGives F (n - 1) Pg g lb encU S N w) :
    CallsIn F n Pg f_slices_AppendSeq_uint32 #[.slice none 0 0, .func (.func g) #[] lb] w fun e w' => ∃ (v : Value) (ss : List Int), e = .returned v ∧ S ss ∧ w'.ownsRow w.heap.size t_uint32 1 v ss.length (ss.map encU) ∧ Below w.heap.size w w' := by
  have h1 : 1 ≤ n := by omega
  have mixed := mixed
  have t24 := u_su32
  have t26 := u_u32
  have hne : t_S_uint32 ≠ t_uint32 := by decide
  refine callsIn_of_wp_marks b_slices_AppendSeq_uint32_at rfl h11 ?_ hro
  simp only [b_slices_AppendSeq_uint32_nt, List.size_toArray, List.length_cons, List.length_nil, Nat.reduceAdd, Nat.reduceSub, Array.replicate_succ, Array.replicate_zero, List.push_toArray, List.append_toArray, List.nil_append, List.cons_append]
  gi_wp2
  refine wpIn_rangeFunc ?_
  intro fn hfn
  rw [hro]
  obtain ⟨W0, hW0⟩ : ∃ W0, w.alloc (.cells #[.slice none 0 0] t_S_uint32) = W0 := ⟨_, rfl⟩
  have hs0 : W0.heap.size = w.heap.size + 1 := by rw [← hW0]; simp
  have hv0 : W0.heap[w.heap.size]? = some (.cells #[.slice none 0 0] t_S_uint32 (0, 0)) := by rw [← hW0]; exact World.alloc_heap_new w _
  have hb0 : Below w.heap.size w W0 := by rw [← hW0]; exact (Below.refl _ w).alloc (Nat.le_refl _) _
  rw [hW0]
  obtain ⟨W1, hW1⟩ : ∃ W1, (W0.alloc (.deferred (some []))).alloc (.loop (apRec fn (.func (.func g) #[] lb) w.heap.size W0.heap.size .ready none)) = W1 := ⟨_, rfl⟩
  have hold : ∀ k, k < W0.heap.size → W1.heap[k]? = W0.heap[k]? := fun k hk => by
    rw [← hW1]; exact (Below.heap_alloc _ _ k (by simp; omega)).trans (Below.heap_alloc _ _ k hk)
  have hb1 : Below w.heap.size w W1 := by rw [← hW1]; exact (hb0.alloc hb0.size _).alloc (by have := hb0.size; simp; omega) _
  have hs1 : W1.heap.size = W0.heap.size + 2 := by rw [← hW1]; simp
  have hM : ApAt w fn (.func (.func g) #[] lb) w.heap.size (W0.heap.size + 1) W0.heap.size [] W1 :=
    ⟨⟨_, (hold w.heap.size (by omega)).trans hv0, ⟨rfl, .inl ⟨rfl, rfl⟩⟩⟩,
     by rw [← hW1]; have := World.alloc_heap_new (W0.alloc (.deferred (some []))) (.loop (apRec fn (.func (.func g) #[] lb) w.heap.size W0.heap.size .ready none)); rwa [World.size_alloc] at this,
     by rw [← hW1]; exact (Below.heap_alloc _ _ _ (by simp)).trans (World.alloc_heap_new W0 _), hb1⟩
  refine ⟨W0.heap.size + 1, [{ target := .collected W0.heap.size, args := #[] }], W1, { target := .fn (.func g) lb, args := #[.func (.yield (W0.heap.size + 1)) #[] #[]] }, W1, g,
    #[.func (.yield (W0.heap.size + 1)) #[] #[]] ++ lb, W1, ?_, ?_, ?_, ?_, fun _ => h1, ?_⟩
  · rw [← hW1]; exact run_enterLoop_outer _ _ _ _ _
  · simp [resolve, go_sem]
  · intro f' hf'; simp [Target.leads] at hf'; subst hf'; exact hFg
  · simp [invoke, go_sem, eg]
  · refine (hseq (W0.heap.size + 1) (ApAt w fn (.func (.func g) #[] lb) w.heap.size (W0.heap.size + 1) W0.heap.size) W1 hb1 (ap_abides _ _ _ _ _ _ _ hb1.size)
      (fun pre x W hJ hl => apYield F (n - 1 - 1) w fn hfn _ w.heap.size (W0.heap.size + 1) W0.heap.size (by omega) (by omega) (by omega) (Nat.le_refl _) (by omega) N hN hNb pre x W hJ hl) hM).mono ?_
    rintro e W2 ⟨⟨v0, rfl⟩, ss, hS, h2⟩
    obtain ⟨v, hv, hrow⟩ := h2.box
    have hend := run_endLoop (P := Pg) h2.L (by simp [apRec])
    obtain ⟨W3, hW3⟩ : ∃ W3, W2.putObj (W0.heap.size + 1) (.loop { apRec fn (.func (.func g) #[] lb) w.heap.size W0.heap.size .ready none with state := .exhausted }) = W3 := ⟨_, rfl⟩
    rw [hW3] at hend
    have hg3 : W2.grownBy W3 (some (W0.heap.size + 1)) := by rw [← hW3]; exact grownBy_putObj_a _ _ _
    have hv3 : W3.heap[w.heap.size]? = some (.cells #[v] t_S_uint32 (0, 0)) := by rw [← hW3]; exact (World.putObj_heap_other (by omega)).trans hv
    have hK3 : W3.heap[W0.heap.size]? = some (.deferred (some [])) := by rw [← hW3]; exact (World.putObj_heap_other (by omega)).trans h2.K
    have hrow3 := hrow.kept hg3 (ownsRow_ne_a hrow h2.L (fun cur e => by cases e))
    have hb3 : Below w.heap.size w W3 := h2.below.grown hg3 h2.below.size (fun k e => by cases e; omega)
    obtain ⟨hc3, hf3⟩ := cell_of_box_a hv3
    clear hW3
    refine ⟨none, W3, hend, ?_⟩
    gi_wp2
    rw [← hs0]
    refine ⟨by simp, .inl ⟨_, _, rfl, run_takeDeferred hK3, ?_⟩⟩
    exact ⟨_, results_tmp rfl _ _ _, v, ss, rfl, hS, hrow3.kept (grownBy_putObj_a _ _ _) (ownsRow_ne_a hrow3 hK3 (fun cur e => by cases e)), hb3.grown (grownBy_putObj_a _ _ _) hb3.size (fun k e => by cases e; omega)⟩
end Go.Sg
