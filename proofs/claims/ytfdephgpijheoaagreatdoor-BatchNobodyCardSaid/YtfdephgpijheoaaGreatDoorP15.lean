/-
  Part 15 of a proof: own texts, merged by program.
-/
import Derived.Test.YtfdephgpijheoaaGreatDoorP14
set_option linter.unusedVariables false
set_option linter.unusedSimpArgs false
namespace Go.Sg
open Go Vc
section
variable {lab lab' : Nat → Nat} {h h' : Heap} {sp dp dg kept i b root : Nat} {c : Config} {D D' : List (List UInt8)} {V : Nat → List UInt8} {S : Nat → Bool} {rd wr rd' wr' : BitVec 64} {K : Kt} {ps : List Pair}
theorem c_shelf_Has (k : ShS lab h sp dp c D V S kept rd wr) (hi : i < c.blocks.toNat) (r : K (.bool (S i)) h) : Ca f_shelf_Shelf_Has #[ptr sp 0, .int .u32 i] h K := by
  obtain ⟨hr, hD, hkl, cp, o, g, p, k1, k2⟩ := k
  refine m_shelf_Shelf_Has_ok (neq_ptr_nil (by kernel_rfl) ?_)
  show CdP (.bool true) _ _
  rw [CdP_true]
  refine k1.get (f := 10) rfl ?_
  exact c_pool_Has k1.pol hi r
theorem c_shelf_Mark (k : ShS lab h sp dp c D V S kept rd wr) (h0 : 0 < i) (hi : i < c.blocks.toNat) (hs : S i = false) (r : ∀ h', ShS lab h' sp dp c D V (upd S i true) kept rd wr → Ex (Lb lab 11 12) h h' → K (int 0) h') : Ca f_shelf_Shelf_Mark #[ptr sp 0, .int .u32 i] h K := by
  obtain ⟨hr, hD, hkl, cp, o, g, p, k1, k2⟩ := k
  refine m_shelf_Shelf_Mark_ok (c_shelf_there k1 hr h0 hi ?_)
  rw [BiP_neq]
  refine cdp (fun h => absurd rfl h) fun _ => ?_
  refine k1.get (f := 10) rfl ?_
  refine c_pool_Mark k1.pol hi hs fun h3 p3 e3 => ?_
  have e3' : Ex (Lb lab 11 12) h h3 := two_lb e3 ⟨by rw [k1.l11]; decide, by rw [k1.l11]; decide⟩ ⟨by rw [k1.l12]; decide, by rw [k1.l12]; decide⟩
  exact r h3 ⟨hr, hD, hkl, cp, o, g, p, ⟨k1.blk.ex e3' (nLb k1.l9 (by decide)), p3, k1.l9, k1.l10, k1.l11, k1.l12, k1.lt⟩, k2.ex e3' (by decide) (Lat.refl _ _)⟩ e3'
theorem c_walk_Blocks (k : ShS lab h sp dp c D V S kept rd wr) (h0 : 0 < i) (hi : i < c.blocks.toNat) (hV : V i = leafOf c (nl ps)) (ho : lok c ps)
    (r : ∀ lab' h' D' rd' wr' v, Lat lab lab' h → ShS lab' h' sp dp c D' V S kept rd' wr' → Ow h.size t_uint32 h' v [(⟨i⟩ : U32)] → (∀ x, v.ownBlock = some x → lab' x = 50) → Ex (Lb lab 1 12) h h' → K (.tuple #[v, int 0]) h') :
    Ca f_walk_Blocks #[ptr sp 0, .int .u32 i] h K := by
  refine m_walk_Blocks_ok (al fun b h1 e1 hb kb _ => ?_)
  have a1 : Lat lab (loc lab h b) h := loc_lat lab (by omega)
  have k1 := (k.lat a1).ext e1
  have hbl := kb.lt
  refine c_walk_All (b := b) (P := fun l h' => ∃ v, Blk h' b [v] ∧ Ow (h.size + 1) t_uint32 h' v [(⟨i⟩ : U32)] ∧ ∀ x, v.ownBlock = some x → l x = 50) k1 h0 hi hV ho loc_at hbl
    (fun l2 h2 D2 rd2 wr2 y Q a2 k2 n2 z2 e2 hQ => cvhc (by kernel_rfl) ?_) fun l3 h3 D3 rd3 wr3 a3 k3 hP e3 => ?_
  · show Ca f_walk_Blocks_1 #[.int .u32 i, y, allSpan.v, ptr b 0] h2 Q
    obtain ⟨y1, y2, y3, y4, rfl, _⟩ := n2
    have kb2 := kb.ex e2 (nLb loc_at (by decide))
    refine m_walk_Blocks_1_ok (bxa (cs := [int (nl ps).level, y1, y2, y3, y4]) fun b3 h3 e3 hb3 k3 _ => bxa (cs := allSpan.cs) fun b4 h4 e4 hb4 k4 _ => ?_)
    have e24 := e3.trans e4
    have kb4 := kb2.ext e24
    refine ld (v := .slice none 0 0) (by rw [kb4.get]; rfl) ?_
    refine bs (n0 := h4.size) (e := t_uint32) (zs := #[.int .u32 0]) [(⟨i⟩ : U32)] rfl (Nat.le_refl _) rfl (by decide) (cs := #[.int .u32 i]) (by kernel_rfl) rfl fun v5 h5 o5 e5 => ?_
    have s5 : Sl No h5 v5 [(⟨i⟩ : U32)] := o5.sl fun _ _ h => h
    refine app T_u32 (n0 := h5.size) (Ow.nil _ _ _) s5 (Nat.le_refl _) (by simp) (by decide) fun v6 h6 o6 _ hx6 => ?_
    have e6 : Ext h5 h6 := hx6 rfl
    rw [List.nil_append] at o6
    have e26 : Ext h2 h6 := (e24.trans e5).trans e6
    have kb6 := kb2.ext e26
    have hl25 : h2.size ≤ h5.size := (e24.trans e5).le
    have hl12 : h1.size ≤ h2.size := e2.le
    refine StP_b kb6 (show 0 < 1 by decide) (by rw [one_eq]; exact o6.one) fun h7 _ e7 kb7 => ?_
    refine hQ h7 ((Ex.toM e26).trans e7) ⟨v6, kb7, (o6.exb e7 fun x hx he => by have := o6.block x hx; omega).low (by omega), fun x hx => z2 x (by have := o6.block x hx; omega)⟩
  · rw [BiP_neq]
    refine cdp (fun h => absurd rfl h) fun _ => ?_
    obtain ⟨v, kb3, o3, z3⟩ := hP
    refine ld (v := v) (by rw [kb3.get]; rfl) ?_
    refine c_Sort_u32 o3 (by show 1 ≤ 12; decide) fun L h4 hp o4 e4 => ?_
    have hL : L = [(⟨i⟩ : U32)] := List.perm_singleton.1 hp
    subst hL
    have ob := o3.block
    have kb4 := kb3.ex e4 (fun hx => by have := ob b hx; omega)
    refine ld (v := v) (by rw [kb4.get]; rfl) ?_
    have hl1 : h.size ≤ h1.size := e1.le
    have hl13 := e3.le
    have a13 : Lat lab l3 h := a1.trans a3 e1.le
    have k4 := k3.ex13 (e4.mono fun x _ hx => ⟨by rw [z3 x hx]; exact Nat.le_refl 50, by rw [z3 x hx]; exact Nat.le_refl 50⟩ : Ex (Lb l3 50 50) h3 h4) (by decide)
    refine r l3 h4 D3 rd3 wr3 v a13 k4 (o4.low (Nat.le_succ _)) z3 ?_
    refine ⟨by have := e4.le; omega, fun x hx hn => (e4.eq x (by omega) fun hm => ?_).trans ((e3.eq x (by omega) fun hm => ?_).trans (e1.eq x hx id))⟩
    · have := ob x hm; omega
    · rcases hm with ⟨m1, m2⟩ | m1
      · rw [a1 x hx] at m1 m2; exact hn ⟨m1, m2⟩
      · omega
theorem c_tree_Open (k : ShS lab h sp dp c D V S 0 rd wr) (h0 : 0 < root) (hi : root < c.blocks.toNat) (hV : V root = leafOf c (nl ps)) (ho : lok c ps) (hS : S root = false)
    (r : ∀ tp lab' h' D' rd' wr', Lat lab lab' h → h.size ≤ tp → TrS lab' h' tp sp dp c D' V (upd S root true) root ps rd' wr' → Ex (Lb lab 1 12) h h' → K (.tuple #[ptr tp 0, int 0]) h') : Ca f_tree_Open #[ptr sp 0, .int .u32 root] h K := by
  refine m_tree_Open_ok (c_walk_Blocks k h0 hi hV ho fun l1 h1 D1 rd1 wr1 v a1 k1 o1 z1 e1 => ?_)
  rw [ex20, ex21, BiP_neq]
  refine cdp (fun h => absurd rfl h) fun _ => ?_
  have s1 : Sl No h1 v [(⟨root⟩ : U32)] := o1.sl fun _ _ h => h
  refine s1.len ?_
  refine lop (σ := Nat) (fun i => [.pointer none, int 0, int i]) (fun i h' => h' = h1 ∧ i ≤ 1) (fun i => 1 - i) 0 rfl ⟨rfl, by decide⟩ ?_
  rintro i h2 N ⟨rfl, hi1⟩ hN
  simp only [m_tree_Open_l8, gv_zero, gv_succ]
  rw [BiP_lss]
  refine cdp (fun hlt => ?_) (fun hge => ?_)
  · have hi0 : i = 0 := by have h2 : (i : Int) < ((1 : Nat) : Int) := hlt; omega
    subst hi0
    refine s1.ei (x := ⟨root⟩) (by decide) rfl rfl ?_
    refine c_shelf_Has k1 hi ?_
    rw [hS, CdP_false]
    refine add64 (by decide) ?_
    exact hN 1 h2 ⟨rfl, by decide⟩ (by decide)
  · unfold m_tree_Open_j17
    refine s1.len ?_
    refine lop (σ := Nat) (fun i => [int i]) (fun i h' => i ≤ 1 ∧ ShS l1 h' sp dp c D1 V (if i = 0 then S else upd S root true) 0 rd1 wr1 ∧ Ex (Lb l1 11 12) h2 h') (fun i => 1 - i) 0 rfl ⟨by decide, k1, Ex.refl _ _⟩ ?_
    rintro i h3 N ⟨hi1, k3, e3⟩ hN
    simp only [m_tree_Open_l20, gv_zero]
    have s3 : Sl No h3 v [(⟨root⟩ : U32)] := (o1.exb e3 fun x hx => nLb (z1 x hx) (by decide)).sl fun _ _ h => h
    rw [BiP_lss]
    refine cdp (fun hlt => ?_) (fun hge => ?_)
    · have hi0 : i = 0 := by have h2 : (i : Int) < ((1 : Nat) : Int) := hlt; omega
      subst hi0
      refine s3.ei (x := ⟨root⟩) (by decide) rfl rfl ?_
      refine c_shelf_Mark k3 h0 hi hS fun h4 k4 e4 => ?_
      refine add64 (by decide) ?_
      exact hN 1 h4 ⟨by decide, k4, e3.trans e4⟩ (by decide)
    · have hi1' : i = 1 := by have h2 : ¬ ((i : Int) < ((1 : Nat) : Int)) := hge; omega
      subst hi1'
      have k3 : ShS l1 h3 sp dp c D1 V (upd S root true) 0 rd1 wr1 := k3
      unfold m_tree_Open_j29
      refine c_shelf_Load k3 h0 hi hV rfl ho fun l4 h4 D4 rd4 wr4 v4 a4 k4 d4 e4 _ _ => ?_
      obtain ⟨vk, vp, vb, vl, rfl, d1, d2, d3, d4'⟩ := d4.out
      rw [ex20, ex21]
      refine alst (vs := [int 0, vk, vp, vb, vl]) rfl rfl (by simp [one_eq, d1.one, d2.one, d3.one, d4'.one]; rfl) fun b6 h6 e6 hb6 k6 _ => ?_
      rw [BiP_neq]
      refine cdp (fun h => absurd rfl h) fun _ => ?_
      refine ⟨fun b' _ => b' = b6, ?_⟩
      rw [FaP_ptr]
      refine LdX_b k6 (v := int 0) rfl (fun _ => rfl) ?_
      refine ⟨_, #[ptr sp 0, .int .u32 root, int 0, int 0, int 0, int 0], rfl, rfl, ?_⟩
      have e13 : Ex (Lb l1 1 12) h2 h3 := Lb.wide e3 (by decide) (by decide)
      have e14 : Ex (Lb l1 1 12) h2 h4 := e13.trans e4
      have a14 : Lat l1 l4 h2 := fun x hx => a4 x (by have := e3.le; omega)
      have a04 : Lat lab l4 h := a1.trans a14 e1.le
      have e04 : Ex (Lb lab 1 12) h h4 := a1.ex e1 e14
      have hl04 := e04.le
      have hl46 := e6.le
      have w6 : frl l4 h4 b6 = 0 := frl_new (by omega)
      have k6s := (k4.lat (frl_lat l4 h4)).ext e6
      have a46 : Lat l4 (frl l4 h4) h4 := frl_lat l4 h4
      refine ⟨?_, ?_⟩
      · refine bxa (cs := [ptr sp 0, .int .u32 root, int 0, int 0, int 0, int 0]) fun tp h7 e7 htp kb _ => ⟨trivial, ?_⟩
        let l7 := upd (frl l4 h4) tp 13
        have a7 : Lat (frl l4 h4) l7 h6 := fun x hx => upd_ne (by omega)
        refine c_shelf_Keep0 ((k6s.lat a7).ext e7) h0 hi fun l8 h8 D8 rd8 wr8 a8 k8 e8 _ _ => ⟨?_, ?_⟩
        · intro x o hx
          subst hx
          have hx7 : l7 x = 0 := (upd_ne (by omega)).trans w6
          rw [hget_eq (e8.eq x (by have := e7.le; omega) (nLb hx7 (by decide))), hget_eq (e7.eq x (by omega) id)]
        · unfold m_tree_Open_j51
          have htl := kb.lt
          have q13 : l7 tp = 13 := upd_same
          have a48 : Lat l4 l8 h4 := fun x hx => by rw [a8 x (by have := e7.le; omega), a7 x (by omega), a46 x hx]
          refine r tp l8 h8 D8 rd8 wr8 (a04.trans a48 hl04) (by omega) ⟨⟨0, kb.ex e8 (nLb q13 (by decide))⟩, k8, (a8 tp htl).trans q13, h0, hV, ho⟩ ?_
          have e47 : Ext h4 h7 := e6.trans e7
          have a47 : Lat l4 l7 h4 := fun x hx => by rw [a7 x (by omega), a46 x hx]
          exact a04.ex e04 (a47.ex (Ex.toM e47) e8)
      · refine c_shelf_Keep0 k6s h0 hi fun l8 h8 D8 rd8 wr8 a8 k8 e8 _ _ => ⟨?_, ?_⟩
        · intro x o hx
          subst hx
          rw [hget_eq (e8.eq x (by omega) (nLb w6 (by decide)))]
        · refine bxa (cs := [ptr sp 0, .int .u32 root, int 0, int 0, int 0, int 0]) fun tp h9 e9 htp kb _ => ⟨trivial, ?_⟩
          unfold m_tree_Open_j51
          let l9 := upd (frl l8 h8) tp 13
          have a9 : Lat l8 l9 h8 := fun x hx => (upd_ne (by omega)).trans (frl_lat l8 h8 x hx)
          have hl68 := e8.le
          have a49 : Lat l4 l9 h4 := fun x hx => by rw [a9 x (by omega), a8 x (by omega), a46 x hx]
          refine r tp l9 h9 D8 rd8 wr8 (a04.trans a49 hl04) (by omega) ⟨⟨0, kb⟩, (k8.lat a9).ext e9, upd_same, h0, hV, ho⟩ ?_
          have e48 : Ex (Lb l4 1 12) h4 h8 := a46.ex (Ex.toM e6) e8
          exact a04.ex e04 (e48.trans (Ex.toM e9))
end
end Go.Sg
namespace Go.Sg
open Go Vc
section
variable {lab lab' : Nat → Nat} {h h' : Heap} {dp dg n root : Nat} {c : Config} {D D' : List (List UInt8)} {rd wr rd' wr' : BitVec 64} {K : Kt} {ps : List Pair}
theorem c_mount_Open (d : Dv dg dp h n D rd wr) (hr : c.Right) (hD : D.length = c.blocks.toNat) (hn : n = c.bytes.toNat) (t : Tz h) (ht1 : gTab ≠ dp) (ht2 : gTab ≠ dg) (im : ImgD c root ps D) (h0 : 0 < root) (hi : root < c.blocks.toNat) (ho : lok c ps)
    (r : ∀ lab' h' mp tp sp D' V' rd' wr', MtS lab' h' mp tp sp dp c D' V' (upd (upd (fun _ => false) 0 true) root true) root ps rd' wr' → Lat (dlab dp dg) lab' h → Ex (two dp dg) h h' → K (.tuple #[ptr mp 0, int 0]) h') : Ca f_mount_Open #[ptr dp 0] h K := by
  have hb := blocks_eq hr
  have hdl := d.lt
  refine m_mount_Open_ok (c_dev_Read d (i := 0) im.hd fun v h1 o1 d1 e1 => ?_)
  rw [ex20, ex21, BiP_neq]
  refine cdp (fun h => absurd rfl h) fun _ => ?_
  refine c_head_Decode (c := c) (root := root) (ht := 1) ⟨hr, by omega, by omega, by decide, by decide⟩ (o1.sl (U := No) fun _ _ h => h) fun h2 e2 => ?_
  rw [ex20, ex21]
  refine alst (vs := hdv c root 1) rfl rfl rfl fun b h3 e3 hb3 k3 _ => ?_
  rw [BiP_neq]
  refine cdp (fun h => absurd rfl h) fun _ => ?_
  unfold Fva
  rw [FaP_ptr]
  refine LdA_at (cs := c.cs) (fun j v hj => ?_) rfl ?_
  · have hlt := (List.getElem?_eq_some_iff.1 hj).1
    rw [k3.get]; unfold hdv
    rw [Nat.zero_add, List.getElem?_append_left hlt]; exact hj
  have e13 := e2.trans e3
  have d3 := d1.ext e13
  have e03 : Ex (fun x => x = dp) h h3 := e1.trans (Ex.toM e13)
  have t3 := t.ex e03 (fun h => ht1 h)
  have hl03 := e03.le
  refine c_shelf_New d3 hr hD hn t3 ht1 ht2 fun l4 sp h4 a4 k4 hsp e4 => ?_
  rw [ex20, ex21, BiP_neq]
  refine cdp (fun h => absurd rfl h) fun _ => ?_
  have hb3l : h2.size < h3.size := by have := k3.lt; omega
  have hl12 : h.size ≤ h2.size := by have h1 := e1.le; have h2 := e2.le; omega
  have hbd : b ≠ dp ∧ b ≠ dg := ⟨by omega, by omega⟩
  have k34 := k3.ex e4 (by rintro (h | h) <;> omega)
  refine fv (v := .int .u32 root) (by rw [k34.get]; rfl) ?_
  have hVr : (fun i => D.getD i []) root = leafOf c (nl ps) := by
    simp only [List.getD_eq_getElem?_getD, im.lf, Option.getD_some]
  have hSr : upd (fun _ => false) 0 true root = false := upd_ne (by omega)
  have lb4 : l4 b = 0 := by rw [a4 b (by have := k3.lt; omega)]; unfold dlab; rw [if_neg hbd.1, if_neg hbd.2]
  refine c_tree_Open k4 h0 hi hVr ho hSr fun tp l5 h5 D5 rd5 wr5 a5 htp k5 e5 => ?_
  rw [ex20, ex21]
  have k35 := k34.ex e5 (nLb lb4 (by decide))
  refine ⟨fun b' _ => b' = b, ?_⟩
  rw [BiP_neq]
  refine cdp (fun h => absurd rfl h) fun _ => ?_
  rw [FaP_ptr]
  refine LdX_b k35 (v := int 1) rfl (fun _ => rfl) ?_
  refine c_tree_Height k5 ⟨fun _ _ _ => rfl, ?_⟩
  rw [BiP_neq]
  unfold m_mount_Open_j38
  refine cdp (fun h => absurd rfl h) fun _ => ?_
  unfold m_mount_Open_j39
  refine ⟨_, #[ptr dp 0, ptr tp 0], rfl, rfl, ?_⟩
  refine bxa (cs := [ptr dp 0, ptr tp 0]) fun mp h6 e6 hmp k6 _ => ?_
  let l6 := upd (frl l5 h5) mp 14
  have a6 : Lat l5 l6 h5 := fun x hx => (upd_ne (by omega)).trans (frl_lat l5 h5 x hx)
  have hl34 := e4.le
  have hl45 := e5.le
  have a06 : Lat (dlab dp dg) l6 h := fun x hx => by rw [a6 x (by omega), a5 x (by omega), a4 x (by omega)]
  refine r l6 h6 mp tp sp D5 _ rd5 wr5 ⟨k6, (k5.lat a6).ext e6, upd_same⟩ a06 ?_
  have e04 : Ex (two dp dg) h h4 := (e03.mono fun x _ hx => .inl hx).trans e4
  refine ⟨by have := e6.le; omega, fun x hx hm => ?_⟩
  have hxd : dlab dp dg x = 0 := by
    unfold dlab
    rw [if_neg fun h => hm (.inl h), if_neg fun h => hm (.inr h)]
  rw [e6.eq x (by omega) id, e5.eq x (by omega) (nLb ((a4 x (by omega)).trans hxd) (by decide)), e04.eq x hx hm]
end
end Go.Sg
namespace Go.Sg
open Go Vc
def cutP (l : List Pair) (k : Str) : List Pair := l.filter fun a => decide (a.key ≠ k)
theorem cut_parts {l : List Pair} {k : Str} (h : Asc Pair.key l) : cutP l k = ahead Pair.key l k ++ behind Pair.key l k := by
  induction l with
  | nil => rfl
  | cons a l ih =>
    obtain ⟨h1, h2⟩ := Asc.cons.1 h
    have ih := ih h2
    unfold cutP at ih ⊢
    rcases slt_total a.key k with h3 | h3 | h3
    · have n1 : a.key ≠ k := fun e => slt_irrefl _ (e ▸ h3)
      have n2 : ¬ k < a.key := slt_asymm h3
      simp only [ahead, behind, List.filter_cons, h3, n1, n2, ne_eq, not_false_eq_true, decide_true, decide_false, if_true, Bool.false_eq_true, if_false, List.cons_append]
      congr 1
    · have n1 : ¬ a.key < k := by rw [h3]; exact slt_irrefl _
      have n2 : ¬ k < a.key := by rw [h3]; exact slt_irrefl _
      simp only [ahead, behind, List.filter_cons, h3, n1, n2, ne_eq, not_true_eq_false, decide_false, Bool.false_eq_true, if_false, slt_irrefl]
      exact ih
    · have n1 : ¬ a.key < k := slt_asymm h3
      have n2 : a.key ≠ k := fun e => slt_irrefl _ (e ▸ h3)
      have n4 : ahead Pair.key l k = [] := ahead_nil_of fun b hb => slt_asymm (slt_trans h3 (h1 b hb))
      rw [n4, List.nil_append] at ih
      unfold ahead at n4
      unfold behind at ih
      simp only [ahead, behind, List.filter_cons, n1, n2, h3, ne_eq, not_false_eq_true, decide_true, decide_false, if_true, Bool.false_eq_true, if_false, n4, ih, List.nil_append]
theorem cut_apply {l : List Pair} {k : Str} (h : Asc Pair.key l) : cutP l k = applyP l ⟨k, true, []⟩ := by
  rw [cut_parts h]; unfold applyP ins; simp
theorem cut_take {l : List Pair} {k : Str} (h : Asc Pair.key l) : (cutP l k).take (pos Pair.key l k) = ahead Pair.key l k ∧ (cutP l k).drop (pos Pair.key l k) = behind Pair.key l k := by
  rw [cut_parts h]
  exact ⟨List.take_left, List.drop_left⟩
theorem put_apply {l : List Pair} {k v : Str} (h : Asc Pair.key l) : (cutP l k).take (pos Pair.key l k) ++ [⟨k, v⟩] ++ (cutP l k).drop (pos Pair.key l k) = applyP l ⟨k, false, v⟩ := by
  rw [(cut_take h).1, (cut_take h).2]; rfl
end Go.Sg
set_option maxRecDepth 100000
namespace Go.Sg
open Go Vc Go.Proofs
def m_ref27_Do (x0_ x1_ x2_ : Value) (h : Heap) (K : Kt) : Prop :=
 BxP t_api_Config x0_ h fun x2 h1 =>
 BxP t_api_Op x2_ h1 fun x4 h3 =>
 AlP t_sluicegateref27_Answer zt_sluicegateref27_Answer h3 fun x6 h5 =>
 Fv 0 x4 h5 fun x9 =>
 BiP .eql x9 (.int .i64 1) fun x10 =>
 CdP x10
 (LdA 8 x2 h5 fun x11 =>
 LdA 4 x4 h5 fun x12 =>
 Ca f_ref27_May #[x11, x12] h5 fun x14 h13 =>
 UnP .not x14 fun x15 =>
 CdP x15
 (BlP bt_sluicegateref27_Answer [(0, (.int .i64 2))] fun x16 =>
 StA 3 x6 x16 h13 fun h17 =>
 LdA 3 x6 h17 fun x18 =>
 K (.tuple #[x1_, x18]) h17)
 (Fv 1 x4 h13 fun x20 =>
 Fv 2 x4 h13 fun x22 =>
 Ca f_ref11_Put #[x1_, x20, x22] h13 fun x24 h23 =>
 BlP bt_sluicegateref27_Answer [] fun x25 =>
 StA 3 x6 x25 h23 fun h26 =>
 LdA 3 x6 h26 fun x27 =>
 K (.tuple #[x24, x27]) h26))
 (BiP .eql x9 (.int .i64 2) fun x28 =>
 CdP x28
 (LdA 8 x2 h5 fun x29 =>
 LdA 4 x4 h5 fun x30 =>
 Ca f_ref27_May #[x29, x30] h5 fun x32 h31 =>
 UnP .not x32 fun x33 =>
 CdP x33
 (BlP bt_sluicegateref27_Answer [(0, (.int .i64 2))] fun x34 =>
 StA 3 x6 x34 h31 fun h35 =>
 LdA 3 x6 h35 fun x36 =>
 K (.tuple #[x1_, x36]) h35)
 (Fv 1 x4 h31 fun x38 =>
 Ca f_ref11_Cut #[x1_, x38] h31 fun x40 h39 =>
 BlP bt_sluicegateref27_Answer [] fun x41 =>
 StA 3 x6 x41 h39 fun h42 =>
 LdA 3 x6 h42 fun x43 =>
 K (.tuple #[x40, x43]) h42))
 (BiP .eql x9 (.int .i64 3) fun x44 =>
 CdP x44
 (LdA 8 x2 h5 fun x45 =>
 LdA 4 x4 h5 fun x46 =>
 Ca f_ref27_May #[x45, x46] h5 fun x48 h47 =>
 UnP .not x48 fun x49 =>
 CdP x49
 (BlP bt_sluicegateref27_Answer [(0, (.int .i64 2))] fun x50 =>
 StA 3 x6 x50 h47 fun h51 =>
 LdA 3 x6 h51 fun x52 =>
 K (.tuple #[x1_, x52]) h51)
 (Fv 1 x4 h47 fun x54 =>
 Ca f_ref11_Get #[x1_, x54] h47 fun x56 h55 =>
 ExP x56 0 fun x57 =>
 ExP x56 1 fun x58 =>
 UnP .not x58 fun x59 =>
 CdP x59
 (BlP bt_sluicegateref27_Answer [(0, (.int .i64 9))] fun x60 =>
 StA 3 x6 x60 h55 fun h61 =>
 LdA 3 x6 h61 fun x62 =>
 K (.tuple #[x1_, x62]) h61)
 (BlP bt_sluicegateref27_Answer [(1, x57)] fun x63 =>
 StA 3 x6 x63 h55 fun h64 =>
 LdA 3 x6 h64 fun x65 =>
 K (.tuple #[x1_, x65]) h64)))
 (BiP .eql x9 (.int .i64 4) fun x66 =>
 CdP x66
 (Fv 1 x4 h5 fun x68 =>
 Fv 2 x4 h5 fun x70 =>
 BlP bt_api_Span [(0, x68), (1, x70)] fun x71 =>
 Fv 3 x4 h5 fun x73 =>
 Ca f_ref11_Part #[x1_, x71, x73] h5 fun x75 h74 =>
 BlP bt_sluicegateref27_Answer [(2, x75)] fun x76 =>
 StA 3 x6 x76 h74 fun h77 =>
 LdA 3 x6 h77 fun x78 =>
 K (.tuple #[x1_, x78]) h77)
 (BlP bt_sluicegateref27_Answer [] fun x79 =>
 StA 3 x6 x79 h5 fun h80 =>
 LdA 3 x6 h80 fun x81 =>
 K (.tuple #[x1_, x81]) h80))))
theorem m_ref27_Do_ok {x0_ x1_ x2_ : Value} {h : Heap} {K : Kt} (hh : m_ref27_Do x0_ x1_ x2_ h K) : Ca f_ref27_Do #[x0_, x1_, x2_] h K := cv Tryz.func36 (by kernel_rfl) hh
def m_ref09_Right_j52 (x2_ : Value) (h : Heap) (K : Kt) : Prop :=
 K x2_ h
def m_ref09_Right (x0_ : Value) (h : Heap) (K : Kt) : Prop :=
 BxP t_api_Config x0_ h fun x2 h1 =>
 ∃ X4 : XS,
 LaX X4 8 x2 h1 fun x5 =>
 Ca f_ref09_Sized #[x5] h1 fun x7 h6 =>
 Agr X4 h1 h6 ∧ (CdP x7
 (FaP (some 0) x2 fun x8 =>
 LdX X4 x8 h1 fun x9 =>
 Ca f_ref09_in #[x9, (.int .i64 5), (.int .i64 65536)] h6 fun x11 h10 =>
 Agr X4 h1 h10 ∧ (CdP x11
 (FaP (some 2) x2 fun x13 =>
 LdX X4 x13 h1 fun x14 =>
 Ca f_ref09_in #[x14, (.int .i64 8), (.int .i64 64)] h10 fun x16 h15 =>
 Agr X4 h1 h15 ∧ (CdP x16
 (FaP (some 1) x2 fun x18 =>
 LdX X4 x18 h1 fun x19 =>
 Ca f_ref09_in #[x19, (.int .i64 64), (.int .i64 65536)] h15 fun x21 h20 =>
 Agr X4 h1 h20 ∧ (CdP x21
 (FaP (some 1) x2 fun x23 =>
 LdX X4 x23 h1 fun x24 =>
 LaX X4 8 x2 h1 fun x25 =>
 Ca f_ref09_Inner #[x25] h20 fun x27 h26 =>
 Agr X4 h1 h26 ∧ (BiP .geq x24 x27 fun x28 =>
 CdP x28
 (FaP (some 1) x2 fun x30 =>
 LdX X4 x30 h1 fun x31 =>
 LaX X4 8 x2 h1 fun x32 =>
 Ca f_ref09_Outer #[x32] h26 fun x34 h33 =>
 Agr X4 h1 h33 ∧ (BiP .geq x31 x34 fun x35 =>
 m_ref09_Right_j52 x35 h33 K))
 (m_ref09_Right_j52 (.bool false) h26 K)))
 (m_ref09_Right_j52 (.bool false) h20 K)))
 (m_ref09_Right_j52 (.bool false) h15 K)))
 (m_ref09_Right_j52 (.bool false) h10 K)))
 (m_ref09_Right_j52 (.bool false) h6 K))
theorem m_ref09_Right_ok {x0_ : Value} {h : Heap} {K : Kt} (hh : m_ref09_Right x0_ h K) : Ca f_ref09_Right #[x0_] h K := cv Tryz.func63 (by kernel_rfl) hh
def m_ref27_May_j25 (x4_ : Value) (h : Heap) (K : Kt) : Prop :=
 K x4_ h
def m_ref27_May (x0_ x1_ : Value) (h : Heap) (K : Kt) : Prop :=
 BxP t_api_Config x0_ h fun x2 h1 =>
 BxP t_api_Op x1_ h1 fun x4 h3 =>
 LdA 8 x2 h3 fun x6 =>
 Fv 1 x4 h3 fun x8 =>
 Ca f_ref13_Key #[x6, x8] h3 fun x10 h9 =>
 CdP x10
 (Fv 0 x4 h9 fun x12 =>
 BiP .neq x12 (.int .i64 1) fun x13 =>
 CdP x13
 (m_ref27_May_j25 (.bool true) h9 K)
 (Fv 2 x4 h9 fun x17 =>
 LenP (some false) x17 fun x18 =>
 Fv 7 x2 h9 fun x20 =>
 BiP .leq x18 x20 fun x21 =>
 m_ref27_May_j25 x21 h9 K))
 (undef = undef ∧ (undef = undef ∧ (undef = undef ∧ (undef = undef ∧ (undef = undef ∧ (undef = undef ∧ (m_ref27_May_j25 (.bool false) h9 K)))))))
theorem m_ref27_May_ok {x0_ x1_ : Value} {h : Heap} {K : Kt} (hh : m_ref27_May x0_ x1_ h K) : Ca f_ref27_May #[x0_, x1_] h K := cv Tryz.func71 (by kernel_rfl) hh
def m_ref11_Put_j19 (x0_ x1_ x2_ x7_ : Value) (h : Heap) (nx5 : Nt) (K : Kt) : Prop :=
 BiP .add x7_ (.int .i64 1) fun x20 =>
 nx5 [x20] h
def m_ref11_Put_j21 (x0_ x1_ x2_ x7_ : Value) (h : Heap) (K : Kt) : Prop :=
 BsP st_S_api_Pair 0 [] h fun x23 h22 =>
 SlP 2 x0_ none (some x7_) fun x24 =>
 VH Pg (Builtin.append_ #[t_S_api_Pair, t_S_api_Pair] t_S_api_Pair #[x23, x24]) h22 fun x26 h25 =>
 BlP bt_api_Pair [(0, x1_), (1, x2_)] fun x27 =>
 BsP st_S_api_Pair 1 [(0, x27)] h25 fun x29 h28 =>
 VH Pg (Builtin.append_ #[t_S_api_Pair, t_S_api_Pair] t_S_api_Pair #[x26, x29]) h28 fun x31 h30 =>
 SlP 2 x0_ (some x7_) none fun x32 =>
 VH Pg (Builtin.append_ #[t_S_api_Pair, t_S_api_Pair] t_S_api_Pair #[x31, x32]) h30 fun x34 h33 =>
 K x34 h33
def m_ref11_Put_j18 (x0_ x1_ x2_ x7_ x25_ : Value) (h : Heap) (nx5 : Nt) (K : Kt) : Prop :=
 CdP x25_
 (m_ref11_Put_j19 x0_ x1_ x2_ x7_ h nx5 K)
 (m_ref11_Put_j21 x0_ x1_ x2_ x7_ h K)
def m_ref11_Put_l4 (vs : List Value) (x0_ x1_ x2_ : Value) (h : Heap) (nx5 : Nt) (K : Kt) : Prop :=
 LenP (some true) x0_ fun x8 =>
 BiP .lss (gv vs 0) x8 fun x9 =>
 CdP x9
 (Ef 2 0 x0_ (gv vs 0) h fun x12 =>
 Ca f_ref01_Compare #[x12, x1_] h fun x14 h13 =>
 BiP .lss x14 (.int .i64 0) fun x15 =>
 m_ref11_Put_j18 x0_ x1_ x2_ (gv vs 0) x15 h13 nx5 K)
 (m_ref11_Put_j18 x0_ x1_ x2_ (gv vs 0) (.bool false) h nx5 K)
def m_ref11_Put (x0_ x1_ x2_ : Value) (h : Heap) (K : Kt) : Prop :=
 Ca f_ref11_Cut #[x0_, x1_] h fun x2 h1 =>
 LoP (fun vt h nx5 => m_ref11_Put_l4 vt x2 x1_ x2_ h nx5 K) [(.int .i64 0)] h1
theorem m_ref11_Put_ok {x0_ x1_ x2_ : Value} {h : Heap} {K : Kt} (hh : m_ref11_Put x0_ x1_ x2_ h K) : Ca f_ref11_Put #[x0_, x1_, x2_] h K := cv Tryz.func72 (by kernel_rfl) hh
def m_ref11_Cut_j19 (x0_ x1_ x5_ x6_ : Value) (h : Heap) (nx5 : Nt) (K : Kt) : Prop :=
 BiP .add x6_ (.int .i64 1) fun x20 =>
 nx5 [x5_, x20] h
def m_ref11_Cut_j21 (x5_ : Value) (h : Heap) (K : Kt) : Prop :=
 K x5_ h
def m_ref11_Cut_l4 (vs : List Value) (x0_ x1_ : Value) (h : Heap) (nx5 : Nt) (K : Kt) : Prop :=
 LenP (some true) x0_ fun x6 =>
 BiP .lss (gv vs 1) x6 fun x7 =>
 CdP x7
 (Ef 2 0 x0_ (gv vs 1) h fun x11 =>
 BiP .neq x11 x1_ fun x12 =>
 CdP x12
 (Ea 2 x0_ (gv vs 1) h fun x14 =>
 BsP st_S_api_Pair 1 [(0, x14)] h fun x16 h15 =>
 VH Pg (Builtin.append_ #[t_S_api_Pair, t_S_api_Pair] t_S_api_Pair #[(gv vs 0), x16]) h15 fun x18 h17 =>
 m_ref11_Cut_j19 x0_ x1_ x18 (gv vs 1) h17 nx5 K)
 (m_ref11_Cut_j19 x0_ x1_ (gv vs 0) (gv vs 1) h nx5 K))
 (m_ref11_Cut_j21 (gv vs 0) h K)
def m_ref11_Cut (x0_ x1_ : Value) (h : Heap) (K : Kt) : Prop :=
 BsP st_S_api_Pair 0 [] h fun x2 h1 =>
 LoP (fun vt h nx5 => m_ref11_Cut_l4 vt x0_ x1_ h nx5 K) [x2, (.int .i64 0)] h1
theorem m_ref11_Cut_ok {x0_ x1_ : Value} {h : Heap} {K : Kt} (hh : m_ref11_Cut x0_ x1_ h K) : Ca f_ref11_Cut #[x0_, x1_] h K := cv Tryz.func73 (by kernel_rfl) hh
def m_ref09_Sized_j43 (x2_ : Value) (h : Heap) (K : Kt) : Prop :=
 K x2_ h
def m_ref09_Sized_j26 (x1_ : Value) (h : Heap) (K : Kt) : Prop :=
 Fv 4 x1_ h fun x29 =>
 Fv 3 x1_ h fun x31 =>
 BiP .mul (.int .i64 2) x31 fun x32 =>
 Ca f_ref09_in #[x29, x32, (.int .i64 512)] h fun x34 h33 =>
 CdP x34
 (Fv 5 x1_ h33 fun x36 =>
 Fv 4 x1_ h33 fun x38 =>
 Ca f_ref09_in #[x36, x38, (.int .i64 1024)] h33 fun x40 h39 =>
 m_ref09_Sized_j43 x40 h39 K)
 (m_ref09_Sized_j43 (.bool false) h33 K)
def m_ref09_Sized_j25 (x1_ x18_ : Value) (h : Heap) (K : Kt) : Prop :=
 CdP x18_
 (K (.bool false) h)
 (m_ref09_Sized_j26 x1_ h K)
def m_ref09_Sized (x0_ : Value) (h : Heap) (K : Kt) : Prop :=
 BxP t_api_Config x0_ h fun x2 h1 =>
 Fv 3 x2 h1 fun x6 =>
 Ca f_ref09_in #[x6, (.int .i64 8), (.int .i64 64)] h1 fun x8 h7 =>
 UnP .not x8 fun x9 =>
 CdP x9
 (m_ref09_Sized_j25 x2 (.bool true) h7 K)
 (Fv 6 x2 h7 fun x13 =>
 Ca f_ref09_in #[x13, (.int .i64 1), (.int .i64 64)] h7 fun x15 h14 =>
 UnP .not x15 fun x16 =>
 CdP x16
 (m_ref09_Sized_j25 x2 (.bool true) h14 K)
 (Fv 7 x2 h14 fun x20 =>
 Ca f_ref09_in #[x20, (.int .i64 0), (.int .i64 256)] h14 fun x22 h21 =>
 UnP .not x22 fun x23 =>
 m_ref09_Sized_j25 x2 x23 h21 K))
theorem m_ref09_Sized_ok {x0_ : Value} {h : Heap} {K : Kt} (hh : m_ref09_Sized x0_ h K) : Ca f_ref09_Sized #[x0_] h K := cv Tryz.func107 (by kernel_rfl) hh
def m_ref09_in_j6 (x6_ : Value) (h : Heap) (K : Kt) : Prop :=
 K x6_ h
def m_ref09_in (x0_ x1_ x2_ : Value) (h : Heap) (K : Kt) : Prop :=
 BiP .geq x0_ x1_ fun x2 =>
 CdP x2
 (BiP .leq x0_ x2_ fun x3 =>
 m_ref09_in_j6 x3 h K)
 (m_ref09_in_j6 (.bool false) h K)
theorem m_ref09_in_ok {x0_ x1_ x2_ : Value} {h : Heap} {K : Kt} (hh : m_ref09_in x0_ x1_ x2_ h K) : Ca f_ref09_in #[x0_, x1_, x2_] h K := cv Tryz.func108 (by kernel_rfl) hh
def m_ref09_Inner_j20 (x1_ x3_ x4_ : Value) (h : Heap) (nx9 : Nt) (K : Kt) : Prop :=
 BiP .add x4_ (.int .i64 1) fun x21 =>
 nx9 [x3_, x21] h
def m_ref09_Inner_j38 (x3_ : Value) (h : Heap) (K : Kt) : Prop :=
 K x3_ h
def m_ref09_Inner_l24 (vs : List Value) (x1_ : Value) (h : Heap) (nx25 : Nt) (K : Kt) : Prop :=
 Fv 4 x1_ h fun x27 =>
 BiP .lss (gv vs 1) x27 fun x28 =>
 CdP x28
 (BiP .add (gv vs 0) (.int .i64 4) fun x30 =>
 Fv 6 x1_ h fun x32 =>
 BiP .add x30 x32 fun x33 =>
 Fv 7 x1_ h fun x35 =>
 BiP .add x33 x35 fun x36 =>
 BiP .add (gv vs 1) (.int .i64 1) fun x37 =>
 nx25 [x36, x37] h)
 (m_ref09_Inner_j38 (gv vs 0) h K)
def m_ref09_Inner_j22 (x1_ x3_ : Value) (h : Heap) (K : Kt) : Prop :=
 LoP (fun vt h nx25 => m_ref09_Inner_l24 vt x1_ h nx25 K) [x3_, (.int .i64 0)] h
def m_ref09_Inner_l8 (vs : List Value) (x1_ : Value) (h : Heap) (nx9 : Nt) (K : Kt) : Prop :=
 Fv 3 x1_ h fun x11 =>
 BiP .lss (gv vs 1) x11 fun x12 =>
 CdP x12
 (BiP .add (gv vs 0) (.int .i64 4) fun x14 =>
 BiP .gtr (gv vs 1) (.int .i64 0) fun x15 =>
 CdP x15
 (BiP .add x14 (.int .i64 1) fun x16 =>
 Fv 6 x1_ h fun x18 =>
 BiP .add x16 x18 fun x19 =>
 m_ref09_Inner_j20 x1_ x19 (gv vs 1) h nx9 K)
 (m_ref09_Inner_j20 x1_ x14 (gv vs 1) h nx9 K))
 (m_ref09_Inner_j22 x1_ (gv vs 0) h K)
def m_ref09_Inner (x0_ : Value) (h : Heap) (K : Kt) : Prop :=
 BxP t_api_Config x0_ h fun x2 h1 =>
 LdA 8 x2 h1 fun x3 =>
 Ca f_ref09_Sized #[x3] h1 fun x5 h4 =>
 UnP .not x5 fun x6 =>
 CdP x6
 (K (.int .i64 0) h4)
 (LoP (fun vt h nx9 => m_ref09_Inner_l8 vt x2 h nx9 K) [(.int .i64 8), (.int .i64 0)] h4)
theorem m_ref09_Inner_ok {x0_ : Value} {h : Heap} {K : Kt} (hh : m_ref09_Inner x0_ h K) : Ca f_ref09_Inner #[x0_] h K := cv Tryz.func109 (by kernel_rfl) hh
def m_ref09_Outer_j22 (x3_ : Value) (h : Heap) (K : Kt) : Prop :=
 K x3_ h
def m_ref09_Outer_l8 (vs : List Value) (x1_ : Value) (h : Heap) (nx9 : Nt) (K : Kt) : Prop :=
 Fv 5 x1_ h fun x11 =>
 BiP .lss (gv vs 1) x11 fun x12 =>
 CdP x12
 (BiP .add (gv vs 0) (.int .i64 3) fun x14 =>
 Fv 6 x1_ h fun x16 =>
 BiP .add x14 x16 fun x17 =>
 Fv 7 x1_ h fun x19 =>
 BiP .add x17 x19 fun x20 =>
 BiP .add (gv vs 1) (.int .i64 1) fun x21 =>
 nx9 [x20, x21] h)
 (m_ref09_Outer_j22 (gv vs 0) h K)
def m_ref09_Outer (x0_ : Value) (h : Heap) (K : Kt) : Prop :=
 BxP t_api_Config x0_ h fun x2 h1 =>
 LdA 8 x2 h1 fun x3 =>
 Ca f_ref09_Sized #[x3] h1 fun x5 h4 =>
 UnP .not x5 fun x6 =>
 CdP x6
 (K (.int .i64 0) h4)
 (LoP (fun vt h nx9 => m_ref09_Outer_l8 vt x2 h nx9 K) [(.int .i64 8), (.int .i64 0)] h4)
theorem m_ref09_Outer_ok {x0_ : Value} {h : Heap} {K : Kt} (hh : m_ref09_Outer x0_ h K) : Ca f_ref09_Outer #[x0_] h K := cv Tryz.func110 (by kernel_rfl) hh
def m_ref13_Key_j12 (x4_ : Value) (h : Heap) (K : Kt) : Prop :=
 K x4_ h
def m_ref13_Key (x0_ x1_ : Value) (h : Heap) (K : Kt) : Prop :=
 BxP t_api_Config x0_ h fun x2 h1 =>
 LenP (some false) x1_ fun x4 =>
 BiP .geq x4 (.int .i64 1) fun x5 =>
 CdP x5
 (LenP (some false) x1_ fun x6 =>
 Fv 6 x2 h1 fun x8 =>
 BiP .leq x6 x8 fun x9 =>
 m_ref13_Key_j12 x9 h1 K)
 (m_ref13_Key_j12 (.bool false) h1 K)
theorem m_ref13_Key_ok {x0_ x1_ : Value} {h : Heap} {K : Kt} (hh : m_ref13_Key x0_ x1_ h K) : Ca f_ref13_Key #[x0_, x1_] h K := cv Tryz.func120 (by kernel_rfl) hh
def m_ref01_Compare_j13 (x0_ x1_ x4_ x5_ : Value) (h : Heap) (nx3 : Nt) (K : Kt) : Prop :=
 IsP x0_ x5_ fun x15 =>
 IsP x1_ x5_ fun x16 =>
 BiP .lss x15 x16 fun x17 =>
 CdP x17
 (K (.int .i64 (-1)) h)
 (IsP x0_ x5_ fun x18 =>
 IsP x1_ x5_ fun x19 =>
 BiP .gtr x18 x19 fun x20 =>
 CdP x20
 (K (.int .i64 1) h)
 (BiP .add x5_ (.int .i64 1) fun x21 =>
 nx3 [x4_, x21] h))
def m_ref01_Compare_j22 (x0_ x1_ : Value) (h : Heap) (K : Kt) : Prop :=
 LenP (some false) x0_ fun x23 =>
 LenP (some false) x1_ fun x24 =>
 BiP .lss x23 x24 fun x25 =>
 CdP x25
 (K (.int .i64 (-1)) h)
 (LenP (some false) x0_ fun x26 =>
 LenP (some false) x1_ fun x27 =>
 BiP .gtr x26 x27 fun x28 =>
 CdP x28
 (K (.int .i64 1) h)
 (K (.int .i64 0) h))
def m_ref01_Compare_j12 (x0_ x1_ x4_ x5_ x15_ : Value) (h : Heap) (nx3 : Nt) (K : Kt) : Prop :=
 CdP x15_
 (m_ref01_Compare_j13 x0_ x1_ x4_ x5_ h nx3 K)
 (m_ref01_Compare_j22 x0_ x1_ h K)
def m_ref01_Compare_l2 (vs : List Value) (x0_ x1_ : Value) (h : Heap) (nx3 : Nt) (K : Kt) : Prop :=
 LenP (some false) x0_ fun x6 =>
 BiP .lss (gv vs 1) x6 fun x7 =>
 CdP x7
 (LenP (some false) x1_ fun x8 =>
 BiP .lss (gv vs 1) x8 fun x9 =>
 m_ref01_Compare_j12 x0_ x1_ (gv vs 0) (gv vs 1) x9 h nx3 K)
 (m_ref01_Compare_j12 x0_ x1_ (gv vs 0) (gv vs 1) (.bool false) h nx3 K)
def m_ref01_Compare (x0_ x1_ : Value) (h : Heap) (K : Kt) : Prop :=
 LoP (fun vt h nx3 => m_ref01_Compare_l2 vt x0_ x1_ h nx3 K) [(.int .i64 0), (.int .i64 0)] h
theorem m_ref01_Compare_ok {x0_ x1_ : Value} {h : Heap} {K : Kt} (hh : m_ref01_Compare x0_ x1_ h K) : Ca f_ref01_Compare #[x0_, x1_] h K := cv Tryz.func121 (by kernel_rfl) hh
end Go.Sg
namespace Go.Sg
open Go Vc
section
variable {h : Heap} {K : Kt} {c : Config} {n lo hi : Int} {U : Nat → Prop} {x : Value} {l : List Pair} {k v : Str} {a b : Str}
theorem c_ref09_in (r : K (.bool (decide (lo ≤ n ∧ n ≤ hi))) h) : Ca f_ref09_in #[int n, int lo, int hi] h K := by
  refine m_ref09_in_ok ?_
  unfold m_ref09_in
  rw [BiP_geq]
  refine cdp (fun h1 => ?_) (fun h1 => ?_)
  · rw [BiP_leq]
    have : decide (lo ≤ n ∧ n ≤ hi) = decide (n ≤ hi) := by simp [h1]
    rw [this] at r; exact r
  · have : decide (lo ≤ n ∧ n ≤ hi) = false := decide_eq_false fun h => h1 h.1
    rw [this] at r; exact r
theorem c_ref09_Sized (r : ∀ h', Ext h h' → K (.bool (decide c.Sized)) h') : Ca f_ref09_Sized #[c.v] h K := by
  refine m_ref09_Sized_ok (bxa (cs := c.cs) fun b h1 e1 hb k1 _ => ?_)
  have r := r h1 e1
  have no : ¬ c.Sized → m_ref09_Sized_j25 (ptr b 0) (.bool true) h1 K := fun hn => by
    unfold m_ref09_Sized_j25
    rw [decide_eq_false hn] at r
    rw [CdP_true]; exact r
  refine fv (v := int c.fan) (by rw [k1.get]; rfl) (c_ref09_in ?_)
  rw [UnP_not]
  refine cd (fun hx => no fun hs => ?_) fun h1' => ?_
  · have : ¬ (8 ≤ c.fan ∧ c.fan ≤ 64) := fun q => by rw [decide_eq_true q] at hx; cases hx
    unfold Config.Sized at hs; omega
  have g1 := of_decide_eq_true (by simpa using h1' : decide (8 ≤ c.fan ∧ c.fan ≤ 64) = true)
  refine fv (v := int c.key) (by rw [k1.get]; rfl) (c_ref09_in ?_)
  rw [UnP_not]
  refine cd (fun hx => no fun hs => ?_) fun h2' => ?_
  · have : ¬ (1 ≤ c.key ∧ c.key ≤ 64) := fun q => by rw [decide_eq_true q] at hx; cases hx
    unfold Config.Sized at hs; omega
  have g2 := of_decide_eq_true (by simpa using h2' : decide (1 ≤ c.key ∧ c.key ≤ 64) = true)
  refine fv (v := int c.val) (by rw [k1.get]; rfl) (c_ref09_in ?_)
  rw [UnP_not]
  unfold m_ref09_Sized_j25
  refine cd (fun hx => ?_) fun h3' => ?_
  · have : ¬ (0 ≤ c.val ∧ c.val ≤ 256) := fun q => by rw [decide_eq_true q] at hx; cases hx
    have hn : ¬ c.Sized := fun hs => by unfold Config.Sized at hs; omega
    rw [decide_eq_false hn] at r; exact r
  have g3 := of_decide_eq_true (by simpa using h3' : decide (0 ≤ c.val ∧ c.val ≤ 256) = true)
  unfold m_ref09_Sized_j26
  refine fv (v := int c.buffer) (by rw [k1.get]; rfl) (fv (v := int c.fan) (by rw [k1.get]; rfl) ?_)
  refine mul64 (by omega) (c_ref09_in ?_)
  refine cdp (fun h4' => ?_) fun h4' => ?_
  · refine fv (v := int c.leaf) (by rw [k1.get]; rfl) (fv (v := int c.buffer) (by rw [k1.get]; rfl) (c_ref09_in ?_))
    have : decide (c.buffer ≤ c.leaf ∧ c.leaf ≤ 1024) = decide c.Sized := by
      unfold Config.Sized
      refine decide_eq_decide.2 ⟨fun q => ?_, fun q => ?_⟩ <;> omega
    rw [this]; exact r
  · have hn : ¬ c.Sized := fun hs => by unfold Config.Sized at hs; omega
    rw [decide_eq_false hn] at r; exact r
theorem c_ref09_Inner (r : ∀ h', Ext h h' → K (int c.inner) h') : Ca f_ref09_Inner #[c.v] h K := by
  refine m_ref09_Inner_ok (bxa (cs := c.cs) fun b h1 e1 hb k1 _ => (LdA_b k1 rfl).2 (c_ref09_Sized (c := c) fun h2 e2 => ?_))
  have r := r h2 (e1.trans e2)
  have k2 := k1.ext e2
  unfold Config.inner at r
  rw [UnP_not]
  by_cases hs : c.Sized
  · rw [if_pos hs] at r
    rw [decide_eq_true hs]
    refine cd (fun h => absurd h (by decide)) fun _ => ?_
    unfold Config.Sized at hs
    have q1 : ∀ i : Int, 0 ≤ i → i ≤ 64 → 0 ≤ i * (5 + c.key) ∧ i * (5 + c.key) ≤ 64 * 69 := fun i h0 h1 => ⟨Int.mul_nonneg h0 (by omega), Int.mul_le_mul h1 (by omega) (by omega) (by omega)⟩
    have q2 : ∀ i : Int, 0 ≤ i → i ≤ 512 → 0 ≤ i * (4 + c.key + c.val) ∧ i * (4 + c.key + c.val) ≤ 512 * 324 := fun i h0 h1 => ⟨Int.mul_nonneg h0 (by omega), Int.mul_le_mul h1 (by omega) (by omega) (by omega)⟩
    refine lop (σ := Nat) (fun i => [int (8 + i * (5 + c.key) - (if i = 0 then 0 else 1 + c.key)), int i]) (fun i h' => h' = h2 ∧ (i : Int) ≤ c.fan) (fun i => c.fan.toNat - i) 0 (by simp) ⟨rfl, by omega⟩ ?_
    rintro i h3 N ⟨rfl, hi⟩ hN
    simp only [m_ref09_Inner_l8, gv_zero, gv_succ]
    refine fv (v := int c.fan) (by rw [k2.get]; rfl) ?_
    have hq := q1 i (by omega) (by omega)
    have hm : ((i + 1 : Nat) : Int) * (5 + c.key) = (i : Int) * (5 + c.key) + (5 + c.key) := by rw [Int.natCast_add, Int.add_mul]; simp
    rw [BiP_lss]
    refine cdp (fun hlt => ?_) (fun hge => ?_)
    · refine add64 (by split <;> omega) ?_
      rw [BiP_gtr]
      refine cdp (fun h0 => ?_) (fun h0 => ?_)
      · refine add64 (by split <;> omega) (fv (v := int c.key) (by rw [k2.get]; rfl) (add64 (by split <;> omega) ?_))
        unfold m_ref09_Inner_j20
        refine add64 (by omega) ?_
        have := hN (i + 1) h3 ⟨rfl, by omega⟩ (by omega)
        rw [hm] at this
        rw [if_neg (by omega)] at this ⊢
        have e : 8 + (i : Int) * (5 + c.key) - (1 + c.key) + 4 + 1 + c.key = 8 + ((i : Int) * (5 + c.key) + (5 + c.key)) - (1 + c.key) := by omega
        rw [e]; simpa using this
      · have h00 : i = 0 := by omega
        subst h00
        unfold m_ref09_Inner_j20
        refine add64 (by omega) ?_
        have := hN 1 h3 ⟨rfl, by omega⟩ (by omega)
        rw [if_neg (by decide)] at this
        have e : 8 + ((1 : Nat) : Int) * (5 + c.key) - (1 + c.key) = 12 := by simp; omega
        rw [e] at this
        simpa using this
    · have hif : (i : Int) = c.fan := by omega
      unfold m_ref09_Inner_j22
      have hi0 : i ≠ 0 := by omega
      rw [if_neg hi0, hif]
      have hqf : 0 ≤ c.fan * (5 + c.key) ∧ c.fan * (5 + c.key) ≤ 64 * 69 := by rw [← hif]; exact hq
      refine lop (σ := Nat) (fun j => [int (8 + c.fan * (5 + c.key) - (1 + c.key) + j * (4 + c.key + c.val)), int j]) (fun j h' => h' = h3 ∧ (j : Int) ≤ c.buffer) (fun j => c.buffer.toNat - j) 0 (by simp) ⟨rfl, by omega⟩ ?_
      rintro j h4 N' ⟨rfl, hj⟩ hN'
      simp only [m_ref09_Inner_l24, gv_zero, gv_succ]
      have hq2 := q2 j (by omega) (by omega)
      have hm2 : ((j + 1 : Nat) : Int) * (4 + c.key + c.val) = (j : Int) * (4 + c.key + c.val) + (4 + c.key + c.val) := by rw [Int.natCast_add, Int.add_mul]; simp
      refine fv (v := int c.buffer) (by rw [k2.get]; rfl) ?_
      rw [BiP_lss]
      refine cdp (fun hlt => ?_) (fun hge => ?_)
      · refine add64 (by omega) (fv (v := int c.key) (by rw [k2.get]; rfl) (add64 (by omega) (fv (v := int c.val) (by rw [k2.get]; rfl) (add64 (by omega) (add64 (by omega) ?_)))))
        have := hN' (j + 1) h4 ⟨rfl, by omega⟩ (by omega)
        rw [hm2] at this
        have e : 8 + c.fan * (5 + c.key) - (1 + c.key) + (j : Int) * (4 + c.key + c.val) + 4 + c.key + c.val = 8 + c.fan * (5 + c.key) - (1 + c.key) + ((j : Int) * (4 + c.key + c.val) + (4 + c.key + c.val)) := by omega
        rw [e]; simpa using this
      · have hjb : (j : Int) = c.buffer := by omega
        unfold m_ref09_Inner_j38
        have e : 8 + c.fan * (5 + c.key) - (1 + c.key) + (j : Int) * (4 + c.key + c.val) = 8 + 4 * c.fan + (c.fan - 1) * (1 + c.key) + c.buffer * (4 + c.key + c.val) := by
          rw [hjb, Int.sub_mul, Int.one_mul]
          have : c.fan * (5 + c.key) = 4 * c.fan + c.fan * (1 + c.key) := by
            rw [show (5 + c.key : Int) = 4 + (1 + c.key) from by omega, Int.mul_add, Int.mul_comm c.fan 4]
          omega
        rw [e]; exact r
  · rw [if_neg hs] at r
    rw [decide_eq_false hs]
    exact cd (fun _ => r) fun h => absurd h (by decide)
theorem c_ref09_Outer (r : ∀ h', Ext h h' → K (int c.outer) h') : Ca f_ref09_Outer #[c.v] h K := by
  refine m_ref09_Outer_ok (bxa (cs := c.cs) fun b h1 e1 hb k1 _ => (LdA_b k1 rfl).2 (c_ref09_Sized (c := c) fun h2 e2 => ?_))
  have r := r h2 (e1.trans e2)
  have k2 := k1.ext e2
  unfold Config.outer at r
  rw [UnP_not]
  by_cases hs : c.Sized
  · rw [if_pos hs] at r
    rw [decide_eq_true hs]
    refine cd (fun h => absurd h (by decide)) fun _ => ?_
    unfold Config.Sized at hs
    have q2 : ∀ i : Int, 0 ≤ i → i ≤ 1024 → 0 ≤ i * (3 + c.key + c.val) ∧ i * (3 + c.key + c.val) ≤ 1024 * 323 := fun i h0 h1 => ⟨Int.mul_nonneg h0 (by omega), Int.mul_le_mul h1 (by omega) (by omega) (by omega)⟩
    refine lop (σ := Nat) (fun j => [int (8 + j * (3 + c.key + c.val)), int j]) (fun j h' => h' = h2 ∧ (j : Int) ≤ c.leaf) (fun j => c.leaf.toNat - j) 0 (by simp) ⟨rfl, by omega⟩ ?_
    rintro j h4 N' ⟨rfl, hj⟩ hN'
    simp only [m_ref09_Outer_l8, gv_zero, gv_succ]
    have hq2 := q2 j (by omega) (by omega)
    have hm2 : ((j + 1 : Nat) : Int) * (3 + c.key + c.val) = (j : Int) * (3 + c.key + c.val) + (3 + c.key + c.val) := by rw [Int.natCast_add, Int.add_mul]; simp
    refine fv (v := int c.leaf) (by rw [k2.get]; rfl) ?_
    rw [BiP_lss]
    refine cdp (fun hlt => ?_) (fun hge => ?_)
    · refine add64 (by omega) (fv (v := int c.key) (by rw [k2.get]; rfl) (add64 (by omega) (fv (v := int c.val) (by rw [k2.get]; rfl) (add64 (by omega) (add64 (by omega) ?_)))))
      have := hN' (j + 1) h4 ⟨rfl, by omega⟩ (by omega)
      rw [hm2] at this
      have e : 8 + (j : Int) * (3 + c.key + c.val) + 3 + c.key + c.val = 8 + ((j : Int) * (3 + c.key + c.val) + (3 + c.key + c.val)) := by omega
      rw [e]; simpa using this
    · have hjb : (j : Int) = c.leaf := by omega
      unfold m_ref09_Outer_j22
      rw [hjb]; exact r
  · rw [if_neg hs] at r
    rw [decide_eq_false hs]
    exact cd (fun _ => r) fun h => absurd h (by decide)
theorem c_ref09_Right (r : ∀ h', Ext h h' → K (.bool (decide c.Right)) h') : Ca f_ref09_Right #[c.v] h K := by
  refine m_ref09_Right_ok (bxa (cs := c.cs) fun b h1 e1 hb k1 _ => ?_)
  refine ⟨fun b' _ => b' = b, LaX_b k1 rfl (fun _ => rfl) ?_⟩
  have same : Agr (fun b' _ => b' = b) h1 h1 := fun _ _ _ => rfl
  have no : ∀ h', Ext h1 h' → ¬ c.Right → m_ref09_Right_j52 (.bool false) h' K := fun h' e hn => by
    have := r h' (e1.trans e)
    rw [decide_eq_false hn] at this; exact this
  refine c_ref09_Sized (c := c) fun h2 e2 => ⟨agr_b e2 k1.lt id, ?_⟩
  refine cdp (fun g1 => ?_) fun g1 => no h2 e2 fun hr => g1 hr.1
  rw [FaP_ptr]
  refine LdX_b k1 (v := int c.blocks) rfl (fun _ => rfl) (c_ref09_in ⟨agr_b e2 k1.lt id, ?_⟩)
  refine cdp (fun g2 => ?_) fun g2 => no h2 e2 fun hr => g2 ⟨hr.2.1, hr.2.2.1⟩
  rw [FaP_ptr]
  refine LdX_b k1 (v := int c.frames) rfl (fun _ => rfl) (c_ref09_in ⟨agr_b e2 k1.lt id, ?_⟩)
  refine cdp (fun g3 => ?_) fun g3 => no h2 e2 fun hr => g3 ⟨hr.2.2.2.1, hr.2.2.2.2.1⟩
  rw [FaP_ptr]
  refine LdX_b k1 (v := int c.bytes) rfl (fun _ => rfl) (c_ref09_in ⟨agr_b e2 k1.lt id, ?_⟩)
  refine cdp (fun g4 => ?_) fun g4 => no h2 e2 fun hr => g4 ⟨bytes64 hr, hr.2.2.2.2.2.1⟩
  rw [FaP_ptr]
  refine LdX_b k1 (v := int c.bytes) rfl (fun _ => rfl) (LaX_b k1 rfl (fun _ => rfl) ?_)
  refine c_ref09_Inner (c := c) fun h3 e3 => ⟨agr_b (e2.trans e3) k1.lt id, ?_⟩
  have e13 := e2.trans e3
  rw [BiP_geq]
  refine cdp (fun g5 => ?_) fun g5 => no h3 e13 fun hr => by have := hr.2.2.2.2.2.2; unfold Config.leastBytes at this; omega
  rw [FaP_ptr]
  refine LdX_b k1 (v := int c.bytes) rfl (fun _ => rfl) (LaX_b k1 rfl (fun _ => rfl) ?_)
  refine c_ref09_Outer (c := c) fun h4 e4 => ⟨agr_b (e13.trans e4) k1.lt id, ?_⟩
  have e14 := e13.trans e4
  rw [BiP_geq]
  have := r h4 (e1.trans e14)
  have he : decide (c.outer ≤ c.bytes) = decide c.Right := by
    refine decide_eq_decide.2 ⟨fun q => ⟨g1, g2.1, g2.2, g3.1, g3.2, g4.2, ?_⟩, fun hr => ?_⟩
    · unfold Config.leastBytes; omega
    · have := hr.2.2.2.2.2.2; unfold Config.leastBytes at this; omega
  rw [he]; exact this
end
end Go.Sg
namespace Go.Sg
open Go Vc
structure Opx where
  kind : Int
  key : Str
  val : Str
  n : Int
instance : El Opx := ⟨4, fun o => [int o.kind, str o.key, str o.val, int o.n], fun _ => rfl, by decide, fun _ v h => by simp at h; rcases h with rfl | rfl | rfl | rfl <;> rfl⟩
def Opx.v (o : Opx) : Value := .agg #[int o.kind, str o.key, str o.val, int o.n]
section
variable {h : Heap} {K : Kt} {c : Config} {U : Nat → Prop} {x : Value} {l : List Pair} {k v : Str} {a b : Str} {o : Opx}
theorem cmp_drop {i : Nat} {x y : UInt8} (ha : a[i]? = some x) (hb : b[i]? = some y) : cmp (a.drop i) (b.drop i) = if x < y then -1 else if y < x then 1 else cmp (a.drop (i + 1)) (b.drop (i + 1)) := by
  have e1 : a.drop i = x :: a.drop (i + 1) := by
    have hi := (List.getElem?_eq_some_iff.1 ha)
    obtain ⟨h1, h2⟩ := hi
    rw [List.drop_eq_getElem_cons h1, h2]
  have e2 : b.drop i = y :: b.drop (i + 1) := by
    obtain ⟨h1, h2⟩ := List.getElem?_eq_some_iff.1 hb
    rw [List.drop_eq_getElem_cons h1, h2]
  rw [e1, e2]; rfl
theorem c_ref01_Compare (hla : a.length < 2 ^ 62) (r : K (int (cmp a b)) h) : Ca f_ref01_Compare #[str a, str b] h K := by
  refine m_ref01_Compare_ok ?_
  unfold m_ref01_Compare
  refine lop (σ := Nat) (fun i => [int 0, int i]) (fun i h' => h' = h ∧ i ≤ a.length ∧ i ≤ b.length ∧ cmp a b = cmp (a.drop i) (b.drop i)) (fun i => a.length - i) 0 rfl ⟨rfl, Nat.zero_le _, Nat.zero_le _, rfl⟩ ?_
  rintro i h1 N ⟨rfl, hia, hib, hc⟩ hN
  simp only [m_ref01_Compare_l2, gv_zero, gv_succ]
  have fin : (i = a.length ∨ i = b.length) → m_ref01_Compare_j22 (str a) (str b) h1 K := fun hi => by
    unfold m_ref01_Compare_j22
    rw [LenP_str, LenP_str, BiP_lss]
    refine cdp (fun hlt => ?_) (fun hge => ?_)
    · have : cmp a b = -1 := by
        rw [hc]
        have e1 : a.drop i = [] := List.drop_eq_nil_of_le (by omega)
        have hbd : (b.drop i).length ≠ 0 := by rw [List.length_drop]; omega
        rw [e1]
        cases hq : b.drop i with
        | nil => rw [hq] at hbd; simp at hbd
        | cons y t => rfl
      rw [this] at r; exact r
    · rw [LenP_str, LenP_str, BiP_gtr]
      refine cdp (fun hlt => ?_) (fun hge2 => ?_)
      · have : cmp a b = 1 := by
          rw [hc]
          have e1 : b.drop i = [] := List.drop_eq_nil_of_le (by omega)
          have hbd : (a.drop i).length ≠ 0 := by rw [List.length_drop]; omega
          rw [e1]
          cases hq : a.drop i with
          | nil => rw [hq] at hbd; simp at hbd
          | cons y t => rfl
        rw [this] at r; exact r
      · have : cmp a b = 0 := by
          rw [hc]
          have e1 : b.drop i = [] := List.drop_eq_nil_of_le (by omega)
          have e2 : a.drop i = [] := List.drop_eq_nil_of_le (by omega)
          rw [e1, e2]; rfl
        rw [this] at r; exact r
  rw [LenP_str, BiP_lss]
  unfold m_ref01_Compare_j12
  refine cdp (fun hlt => ?_) (fun hge => ?_)
  · rw [LenP_str, BiP_lss]
    refine cdp (fun hlt2 => ?_) (fun hge => fin (.inr (by omega)))
    have g1 : a[i]? = some (a[i]'(by omega)) := List.getElem?_eq_getElem (by omega)
    have g2 : b[i]? = some (b[i]'(by omega)) := List.getElem?_eq_getElem (by omega)
    have hd := cmp_drop g1 g2
    unfold m_ref01_Compare_j13
    refine isp (by omega) (by rw [Int.toNat_natCast]; exact g1) (isp (by omega) (by rw [Int.toNat_natCast]; exact g2) ?_)
    rw [BiP_lss]
    refine cdp (fun h1' => ?_) (fun h1' => ?_)
    · have hq : a[i]'(by omega) < b[i]'(by omega) := UInt8.lt_iff_toNat_lt.2 (by omega)
      rw [hc, hd, if_pos hq] at r; exact r
    have hq : ¬ a[i]'(by omega) < b[i]'(by omega) := fun q => h1' (by have := UInt8.lt_iff_toNat_lt.1 q; omega)
    rw [if_neg hq] at hd
    refine isp (by omega) (by rw [Int.toNat_natCast]; exact g1) (isp (by omega) (by rw [Int.toNat_natCast]; exact g2) ?_)
    rw [BiP_gtr]
    refine cdp (fun h2' => ?_) (fun h2' => ?_)
    · have hq2 : b[i]'(by omega) < a[i]'(by omega) := UInt8.lt_iff_toNat_lt.2 (by omega)
      rw [hc, hd, if_pos hq2] at r; exact r
    have hq2 : ¬ b[i]'(by omega) < a[i]'(by omega) := fun q => h2' (by have := UInt8.lt_iff_toNat_lt.1 q; omega)
    rw [if_neg hq2] at hd
    refine add64 (by omega) ?_
    have := hN (i + 1) h1 ⟨rfl, by omega, by omega, hc.trans hd⟩ (by omega)
    simpa using this
  · rw [CdP_false]; exact fin (.inl (by omega))
theorem c_ref13_Key (r : ∀ h', Ext h h' → K (.bool (keyOk c k)) h') : Ca f_ref13_Key #[c.v, str k] h K := by
  refine m_ref13_Key_ok (bxa (cs := c.cs) fun b h1 e1 hb k1 _ => ?_)
  have r := r h1 e1
  unfold keyOk at r
  rw [LenP_str, BiP_geq]
  refine cdp (fun hx => ?_) (fun hx => ?_)
  · rw [LenP_str]
    refine fv (v := int c.key) (by rw [k1.get]; rfl) ?_
    rw [BiP_leq]
    rw [decide_eq_true (show 1 ≤ k.length by omega), Bool.true_and] at r
    exact r
  · rw [decide_eq_false (show ¬ 1 ≤ k.length by omega), Bool.false_and] at r
    exact r
def mayOp (c : Config) (o : Opx) : Bool := keyOk c o.key && (decide (o.kind ≠ 1) || decide ((o.val.length : Int) ≤ c.val))
theorem c_ref27_May (r : ∀ h', Ext h h' → K (.bool (mayOp c o)) h') : Ca f_ref27_May #[c.v, o.v] h K := by
  refine m_ref27_May_ok (bxa (cs := c.cs) fun b1 h1 e1 hb1 k1 _ => bxa (cs := [int o.kind, str o.key, str o.val, int o.n]) fun b2 h2 e2 hb2 k2 _ => ?_)
  have k1 := k1.ext e2
  refine (LdA_b k1 rfl).2 (fv (v := str o.key) (by rw [k2.get]; rfl) (c_ref13_Key (c := c) fun h3 e3 => ?_))
  have k1 := k1.ext e3
  have k2 := k2.ext e3
  have r := r h3 ((e1.trans e2).trans e3)
  unfold mayOp at r
  refine cd (fun hk => ?_) (fun hk => ?_)
  · rw [hk, Bool.true_and] at r
    refine fv (v := int o.kind) (by rw [k2.get]; rfl) ?_
    rw [BiP_neq]
    refine cdp (fun h1 => ?_) (fun h1 => ?_)
    · rw [decide_eq_true h1, Bool.true_or] at r; exact r
    · rw [decide_eq_false h1, Bool.false_or] at r
      refine fv (v := str o.val) (by rw [k2.get]; rfl) ?_
      rw [LenP_str]
      refine fv (v := int c.val) (by rw [k1.get]; rfl) ?_
      rw [BiP_leq]; exact r
  · rw [hk, Bool.false_and] at r
    exact ⟨rfl, rfl, rfl, rfl, rfl, rfl, r⟩
theorem c_ref11_Cut (s : Sl U h x l) (hl : l.length ≤ 2 ^ 30) (r : ∀ y h', Ow h.size t_api_Pair h' y (cutP l k) → Ext h h' → K y h') : Ca f_ref11_Cut #[x, str k] h K := by
  refine m_ref11_Cut_ok (bs (n0 := h.size) (e := t_api_Pair) (zs := #[str [], str []]) ([] : List Pair) rfl (Nat.le_refl _) rfl (by decide) (cs := #[]) (by kernel_rfl) rfl fun v1 h1 o1 e1 => ?_)
  refine lop (σ := Value × Nat) (fun p => [p.1, int p.2]) (fun p h' => Ext h h' ∧ p.2 ≤ l.length ∧ Ow h.size t_api_Pair h' p.1 (cutP (l.take p.2) k)) (fun p => l.length - p.2) (v1, 0) rfl ⟨e1, Nat.zero_le _, o1⟩ ?_
  rintro ⟨w, i⟩ h2 N ⟨e2, hi, o2⟩ hN
  simp only at hi o2
  simp only [m_ref11_Cut_l4, gv_zero, gv_succ]
  have s2 := s.ext e2
  refine s2.len ?_
  rw [BiP_lss]
  refine cdp (fun hlt => ?_) (fun hge => ?_)
  · have hlt : i < l.length := by omega
    have hx := List.getElem?_eq_getElem hlt
    have htk : l.take (i + 1) = l.take i ++ [l[i]] := by rw [List.take_add_one, hx]; rfl
    have hct : cutP (l.take (i + 1)) k = cutP (l.take i) k ++ (if l[i].key ≠ k then [l[i]] else []) := by
      rw [htk]; unfold cutP; rw [List.filter_append]
      congr 1
      by_cases hk : l[i].key = k <;> simp [hk]
    have hcl : (cutP (l.take i) k).length ≤ 2 ^ 30 := by
      unfold cutP
      exact Nat.le_trans (List.length_filter_le _ _) (by rw [List.length_take]; omega)
    refine s2.ef (f := 0) (w := str l[i].key) (by omega) (by rw [Int.toNat_natCast]; exact hx) rfl ?_
    rw [BiP_sneq]
    refine cdp (fun hk => ?_) (fun hk => ?_)
    · refine s2.ea (x := l[i]) (by omega) (by rw [Int.toNat_natCast]; exact hx) ?_
      refine bs (n0 := h2.size) (e := t_api_Pair) (zs := #[str [], str []]) [l[i]] rfl (Nat.le_refl _) rfl (by decide) (cs := #[str l[i].key, str l[i].val]) (by kernel_rfl) rfl fun v3 h3 o3 e3 => ?_
      have s3 : Sl No h3 v3 [l[i]] := o3.sl fun _ _ h => h
      have hs2 : h.size ≤ h2.size := e2.le
      have hs3 := e3.le
      refine app T_Pair (o2.ext e3) s3 (by omega) (by simp; omega) (by decide) fun v4 h4 o4 e4 _ => ?_
      unfold m_ref11_Cut_j19
      refine add64 (by omega) ?_
      have := hN (v4, i + 1) h4 ⟨(e2.trans e3).own e4 (Nat.le_refl _), by show i + 1 ≤ _; omega, by show Ow _ _ _ _ (cutP (l.take (i + 1)) k); rw [hct, if_pos hk]; exact o4⟩ (by simp only; omega)
      simpa using this
    · unfold m_ref11_Cut_j19
      refine add64 (by omega) ?_
      have := hN (w, i + 1) h2 ⟨e2, by show i + 1 ≤ _; omega, by show Ow _ _ _ _ (cutP (l.take (i + 1)) k); rw [hct, if_neg hk, List.append_nil]; exact o2⟩ (by simp only; omega)
      simpa using this
  · have hin : i = l.length := by omega
    subst hin
    rw [List.take_length] at o2
    unfold m_ref11_Cut_j21
    exact r w h2 o2 e2
end
end Go.Sg
namespace Go.Sg
open Go Vc
section
variable {lab lab' : Nat → Nat} {h h' : Heap} {K : Kt} {c : Config} {U : Nat → Prop} {x : Value} {l : List Pair} {k v : Str} {o : Opx} {s : Nat} {ps : List Pair}
theorem ahead_at {l : List Pair} {k : Str} (ha : Asc Pair.key l) {i : Nat} {a : Pair} (hi : (cutP l k)[i]? = some a) : (a.key < k ↔ i < pos Pair.key l k) := by
  rw [cut_parts ha] at hi
  constructor
  · intro hlt
    rcases Nat.lt_or_ge i (pos Pair.key l k) with h | h
    · exact h
    · rw [List.getElem?_append_right h] at hi
      have := (List.mem_filter.1 (List.mem_of_getElem? hi)).2
      exact absurd hlt (slt_asymm (of_decide_eq_true this))
  · intro hlt
    rw [List.getElem?_append_left hlt] at hi
    have := (List.mem_filter.1 (List.mem_of_getElem? hi)).2
    exact of_decide_eq_true this
theorem c_ref11_Put (s : Sl U h x l) (ha : Asc Pair.key l) (hl : l.length ≤ 2 ^ 30) (hk : ∀ p ∈ l, p.key.length < 2 ^ 62) (r : ∀ y h', Ow h.size t_api_Pair h' y (applyP l ⟨k, false, v⟩) → Ext h h' → K y h') : Ca f_ref11_Put #[x, str k, str v] h K := by
  refine m_ref11_Put_ok (c_ref11_Cut s hl fun y h1 o1 e1 => ?_)
  have hcl : (cutP l k).length ≤ 2 ^ 30 := Nat.le_trans (by unfold cutP; exact List.length_filter_le _ _) hl
  have hpl : pos Pair.key l k ≤ (cutP l k).length := by rw [cut_parts ha, List.length_append]; unfold pos; omega
  have s1 : Sl No h1 y (cutP l k) := o1.sl fun _ _ h => h
  refine lop (σ := Nat) (fun i => [int i]) (fun i h' => h' = h1 ∧ i ≤ pos Pair.key l k) (fun i => pos Pair.key l k - i) 0 rfl ⟨rfl, Nat.zero_le _⟩ ?_
  rintro i h2 N ⟨rfl, hi⟩ hN
  simp only [m_ref11_Put_l4, gv_zero]
  have fin : i = pos Pair.key l k → m_ref11_Put_j21 y (str k) (str v) (int i) h2 K := fun hip => by
    unfold m_ref11_Put_j21
    refine bs (n0 := h2.size) (e := t_api_Pair) (zs := #[str [], str []]) ([] : List Pair) rfl (Nat.le_refl _) rfl (by decide) (cs := #[]) (by kernel_rfl) rfl fun v3 h3 o3 e3 => ?_
    have s3 := s1.ext e3
    refine s3.part (a := 0) (b := i) rfl bnd_nat (Nat.zero_le _) (by omega) fun x4 s4 => ?_
    refine app T_Pair o3 s4 e3.le (by simp; omega) (by decide) fun v5 h5 o5 e5 _ => ?_
    have e25 : Ext h2 h5 := e3.own e5 (Nat.le_refl _)
    refine ⟨_, #[str k, str v], rfl, rfl, ?_⟩
    refine bs (n0 := h5.size) (e := t_api_Pair) (zs := #[str [], str []]) [(⟨k, v⟩ : Pair)] rfl (Nat.le_refl _) rfl (by decide) (cs := #[str k, str v]) (by kernel_rfl) rfl fun v6 h6 o6 e6 => ?_
    have s6 : Sl No h6 v6 [(⟨k, v⟩ : Pair)] := o6.sl fun _ _ h => h
    have hl25 := e25.le
    have hl56 := e6.le
    refine app T_Pair (o5.ext e6) s6 (by omega) (by simp; omega) (by decide) fun v7 h7 o7 e7 _ => ?_
    have e27 : Ext h2 h7 := (e25.trans e6).own e7 (Nat.le_refl _)
    have s7 := s1.ext e27
    have hl27 := e27.le
    refine s7.part (a := i) (b := (cutP l k).length) bnd_nat rfl (by omega) (Nat.le_refl _) fun x8 s8 => ?_
    refine app T_Pair o7 s8 hl27 (by simp; omega) (by decide) fun v9 h9 o9 e9 _ => ?_
    have e29 : Ext h2 h9 := e27.own e9 (Nat.le_refl _)
    refine r v9 h9 ?_ (e1.trans e29)
    have he : ([] : List Pair) ++ ((cutP l k).take i).drop 0 ++ [⟨k, v⟩] ++ ((cutP l k).take (cutP l k).length).drop i = applyP l ⟨k, false, v⟩ := by
      rw [List.nil_append, List.drop_zero, List.take_length, hip]; exact put_apply ha
    rw [he] at o9
    exact o9.low e1.le
  refine s1.len ?_
  rw [BiP_lss]
  unfold m_ref11_Put_j18
  refine cdp (fun hlt => ?_) (fun hge => ?_)
  · have hlt : i < (cutP l k).length := by omega
    have hx := List.getElem?_eq_getElem hlt
    have hm : (cutP l k)[i] ∈ l := (List.mem_filter.1 (List.getElem_mem hlt)).1
    refine s1.ef (f := 0) (w := str ((cutP l k)[i]).key) (by omega) (by rw [Int.toNat_natCast]; exact hx) rfl ?_
    refine c_ref01_Compare (hk _ hm) ?_
    rw [BiP_lss]
    have hpa := ahead_at ha hx
    refine cdp (fun hc => ?_) (fun hc => ?_)
    · have hip := hpa.1 (cmp_lt.1 hc)
      unfold m_ref11_Put_j19
      refine add64 (by omega) ?_
      have := hN (i + 1) h2 ⟨rfl, by omega⟩ (by omega)
      simpa using this
    · have hip : ¬ i < pos Pair.key l k := fun q => hc (cmp_lt.2 (hpa.2 q))
      exact fin (by omega)
  · rw [CdP_false]; exact fin (by omega)
def Opx.msg (o : Opx) : Msg := if o.kind = 1 then ⟨o.key, false, o.val⟩ else ⟨o.key, true, []⟩
def chg (c : Config) (o : Opx) : Prop := (o.kind = 1 ∨ o.kind = 2) ∧ mayOp c o = true
theorem c_ref27_Do (sl : Sl U h x l) (ha : Asc Pair.key l) (hl : l.length ≤ 2 ^ 30) (hk : ∀ p ∈ l, p.key.length < 2 ^ 62) (hc : chg c o)
    (r : ∀ y h', Ow h.size t_api_Pair h' y (applyP l o.msg) → Ext h h' → K (.tuple #[y, .agg #[int 0, str [], .slice none 0 0]]) h') : Ca f_ref27_Do #[c.v, x, o.v] h K := by
  refine m_ref27_Do_ok (bxa (cs := c.cs) fun b1 h1 e1 hb1 k1 _ => bxa (cs := [int o.kind, str o.key, str o.val, int o.n]) fun b2 h2 e2 hb2 k2 _ => ala (cs := [int 0, str [], .slice none 0 0]) fun b3 h3 e3 hb3 k3 _ => ?_)
  have k1 := (k1.ext e2).ext e3
  have k2 := k2.ext e3
  have e13 := (e1.trans e2).trans e3
  have hl1 := e1.le
  have hl2 := e2.le
  refine fv (v := int o.kind) (by rw [k2.get]; rfl) ?_
  rw [BiP_eql]
  obtain ⟨hkd, hmay⟩ := hc
  have fin : ∀ (h5 : Heap) (y : Value), Ext h3 h5 → Ow h3.size t_api_Pair h5 y (applyP l o.msg) → StA 3 (ptr b3 0) (.agg #[int 0, str [], .slice none 0 0]) h5 fun h26 => LdA 3 (ptr b3 0) h26 fun x27 => K (.tuple #[y, x27]) h26 := fun h5 y e5 o5 => by
    refine StA_b (vs := [int 0, str [], .slice none 0 0]) (k3.ext e5) rfl rfl rfl fun h6 _ e6 k6 => ?_
    have ob := o5.block
    refine (LdA_b k6 rfl).2 (r y h6 ((o5.exb e6 fun z hz he => by have := ob z hz; have := k3.lt; omega).low e13.le) ?_)
    exact (e13.trans e5).andThen e6 fun z hz he => by omega
  refine cdp (fun h1k => ?_) (fun h1k => ?_)
  · refine (LdA_b k1 rfl).2 ((LdA_b k2 rfl).2 (c_ref27_May (c := c) (o := o) fun h4 e4 => ?_))
    rw [hmay, UnP_not]
    refine cd (fun h => absurd h (by decide)) fun _ => ?_
    have k2 := k2.ext e4
    refine fv (v := str o.key) (by rw [k2.get]; rfl) (fv (v := str o.val) (by rw [k2.get]; rfl) ?_)
    refine c_ref11_Put ((sl.ext e13).ext e4) ha hl hk fun y h5 o5 e5 => ?_
    refine ⟨_, #[int 0, str [], .slice none 0 0], rfl, rfl, ?_⟩
    have hm : o.msg = ⟨o.key, false, o.val⟩ := if_pos h1k
    exact fin h5 y (e4.trans e5) (by rw [hm]; exact o5.low e4.le)
  · rw [BiP_eql]
    have h2k : o.kind = 2 := hkd.resolve_left h1k
    refine cdp (fun _ => ?_) (fun h => absurd h2k h)
    refine (LdA_b k1 rfl).2 ((LdA_b k2 rfl).2 (c_ref27_May (c := c) (o := o) fun h4 e4 => ?_))
    rw [hmay, UnP_not]
    refine cd (fun h => absurd h (by decide)) fun _ => ?_
    have k2 := k2.ext e4
    refine fv (v := str o.key) (by rw [k2.get]; rfl) ?_
    refine c_ref11_Cut ((sl.ext e13).ext e4) hl fun y h5 o5 e5 => ?_
    refine ⟨_, #[int 0, str [], .slice none 0 0], rfl, rfl, ?_⟩
    have hm : o.msg = ⟨o.key, true, []⟩ := if_neg h1k
    exact fin h5 y (e4.trans e5) (by rw [hm, ← cut_apply ha]; exact o5.low e4.le)
def Config.Light (c : Config) : Prop := c.Right ∧ c.bytes ≤ 3000 ∧ c.blocks ≤ 400
instance (c : Config) : Decidable c.Light := by unfold Config.Light; infer_instance
theorem c_law18_Light (r : ∀ h', Ext h h' → K (.bool (decide c.Light)) h') : Ca f_law18_Light #[c.v] h K := by
  refine m_law18_Light_ok (bxa (cs := c.cs) fun b h1 e1 hb k1 _ => (LdA_b k1 rfl).2 (c_ref09_Right (c := c) fun h2 e2 => ?_))
  have k2 := k1.ext e2
  have r := r h2 (e1.trans e2)
  refine cdp (fun g1 => ?_) (fun g1 => ?_)
  · refine fv (v := int c.bytes) (by rw [k2.get]; rfl) ?_
    rw [BiP_leq]
    refine cdp (fun g2 => ?_) (fun g2 => ?_)
    · refine fv (v := int c.blocks) (by rw [k2.get]; rfl) ?_
      rw [BiP_leq]
      have : decide (c.blocks ≤ 400) = decide c.Light := decide_eq_decide.2 ⟨fun q => ⟨g1, g2, q⟩, fun q => q.2.2⟩
      rw [this]; exact r
    · rw [decide_eq_false fun q : c.Light => g2 q.2.1] at r; exact r
  · rw [decide_eq_false fun q : c.Light => g1 q.1] at r; exact r
theorem c_law27_Long (r : ∀ h', Ext h h' → K (.bool (decide (200 < o.key.length) || decide (400 < o.val.length))) h') : Ca f_law27_Long #[o.v] h K := by
  refine m_law27_Long_ok (bxa (cs := [int o.kind, str o.key, str o.val, int o.n]) fun b h1 e1 hb k1 _ => ?_)
  have r := r h1 e1
  refine fv (v := str o.key) (by rw [k1.get]; rfl) ?_
  rw [LenP_str, BiP_gtr]
  refine cdp (fun g => ?_) (fun g => ?_)
  · rw [decide_eq_true (show 200 < o.key.length by omega), Bool.true_or] at r; exact r
  · rw [decide_eq_false (show ¬ 200 < o.key.length by omega), Bool.false_or] at r
    refine fv (v := str o.val) (by rw [k1.get]; rfl) ?_
    rw [LenP_str, BiP_gtr]
    have : decide ((400 : Int) < (o.val.length : Int)) = decide (400 < o.val.length) := decide_eq_decide.2 (by omega)
    rw [this]; exact r
theorem KvS.ex16 {lo hi : Nat} (k : KvS lab h s c ps) (e : Ex (Lb lab lo hi) h h') (hl : 16 ≤ lo) : KvS lab h' s c ps := by
  obtain ⟨mp, tp, sp, dp, D, V, S, root, rd, wr, a, b, d, e', k1, k2, k3⟩ := k
  exact ⟨mp, tp, sp, dp, D, V, S, root, rd, wr, a, b, d, e', k1.ex e (nLb k3 (by omega)), k2.ex15 e (by omega), k3⟩
theorem c_law27_Step (kk : KvS lab h s c ps) (h0 : 0 ≤ c.val) (hc : chg c o) (hv : (o.msg.val.length : Int) ≤ c.val) (ho : lok c (applyP ps o.msg))
    (r : ∀ lab' h', Lat lab lab' h → KvS lab' h' s c (applyP ps o.msg) → Ex (Lb lab 1 15) h h' → K (.agg #[int 0, str [], .slice none 0 0]) h') : Ca f_law27_Step #[ptr s 0, o.v] h K := by
  refine m_law27_Step_ok (bxa (cs := [int o.kind, str o.key, str o.val, int o.n]) fun b1 h1 e1 hb1 k1 _ => ala (cs := [int 0, str [], .slice none 0 0]) fun b2 h2 e2 hb2 k2 _ => ?_)
  have k1 := k1.ext e2
  have e12 := e1.trans e2
  have hl1 := e1.le
  obtain ⟨hkd, hmay⟩ := hc
  unfold mayOp at hmay
  simp only [Bool.and_eq_true] at hmay
  have a0 : Lat lab (loc lab h b2) h := loc_lat lab (by omega)
  have kk2 := (kk.lat a0).ext e12
  have w2 : loc lab h b2 b2 = 99 := loc_at
  have fin : ∀ l3 h3, Lat (loc lab h b2) l3 h2 → KvS l3 h3 s c (applyP ps o.msg) → Ex (Lb (loc lab h b2) 1 15) h2 h3 → StA 3 (ptr b2 0) (.agg #[int 0, str [], .slice none 0 0]) h3 fun h26 => LdA 3 (ptr b2 0) h26 fun x27 => K x27 h26 := fun l3 h3 a3 k3 e3 => by
    have k23 := k2.ex e3 (nLb w2 (by decide))
    refine StA_b (vs := [int 0, str [], .slice none 0 0]) k23 rfl rfl rfl fun h4 _ e4 k4 => ?_
    have w3 : l3 b2 = 99 := (a3 b2 k2.lt).trans w2
    have e4' : Ex (Lb l3 99 99) h3 h4 := one_lb e4 ⟨by rw [w3]; decide, by rw [w3]; decide⟩
    have hl12 := e12.le
    refine (LdA_b k4 rfl).2 (r l3 h4 (a0.trans a3 hl12) (k3.ex16 e4' (by decide)) ?_)
    have e03 : Ex (Lb lab 1 15) h h3 := a0.ex (Ex.toM e12) e3
    exact e03.fresh e4 fun y hy he => by omega
  refine fv (v := int o.kind) (by rw [k1.get]; rfl) ?_
  rw [BiP_eql]
  refine cdp (fun h1k => ?_) (fun h1k => ?_)
  · have hm : o.msg = ⟨o.key, false, o.val⟩ := if_pos h1k
    refine fv (v := str o.key) (by rw [k1.get]; rfl) (fv (v := str o.val) (by rw [k1.get]; rfl) ?_)
    rw [hm] at ho hv
    refine c_kv_Put kk2 hmay.1 hv ho fun l3 h3 a3 k3 e3 => ?_
    refine ⟨_, #[int 0, str [], .slice none 0 0], rfl, rfl, ?_⟩
    exact fin l3 h3 a3 (by rw [hm]; exact k3) e3
  · rw [BiP_eql]
    have hm : o.msg = ⟨o.key, true, []⟩ := if_neg h1k
    refine cdp (fun _ => ?_) (fun h => absurd (hkd.resolve_left h1k) h)
    refine fv (v := str o.key) (by rw [k1.get]; rfl) ?_
    rw [hm] at ho
    refine c_kv_Delete kk2 hmay.1 h0 ho fun l3 h3 a3 k3 e3 => ?_
    refine ⟨_, #[int 0, str [], .slice none 0 0], rfl, rfl, ?_⟩
    exact fin l3 h3 a3 (by rw [hm]; exact k3) e3
end
end Go.Sg
namespace Go.Sg
open Go Vc
def psOf (L : List Opx) (i : Nat) : List Pair := ((L.take i).map Opx.msg).foldl applyP []
theorem psOf_succ {L : List Opx} {i : Nat} {o : Opx} (h : L[i]? = some o) : psOf L (i + 1) = applyP (psOf L i) o.msg := by
  unfold psOf
  rw [List.take_add_one, h]
  simp
def goodOps (c : Config) (L : List Opx) : Prop := ∀ i o, L[i]? = some o → chg c o ∧ o.key.length ≤ 200 ∧ o.val.length ≤ 400 ∧ (o.msg.val.length : Int) ≤ c.val ∧ lok c (psOf L (i + 1))
section
variable {lab lab' : Nat → Nat} {h h' : Heap} {K : Kt} {c : Config} {U : Nat → Prop} {x : Value} {L : List Opx}
theorem lok_bounds (hr : c.Right) {ps : List Pair} (ho : lok c ps) : ps.length ≤ 2 ^ 30 ∧ ∀ p ∈ ps, p.key.length < 2 ^ 62 := by
  have hf := outer_fits hr ho
  have hk := hr.1
  unfold Config.Sized at hk
  refine ⟨by have : ps.length ≤ 1024 := hf.2.1; omega, fun p hp => ?_⟩
  have := (hf.1 p hp).1
  omega
end
end Go.Sg
