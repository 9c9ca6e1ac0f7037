/-
  Nothing is applied of a batch, or to a store, that there is not, or that is closed: the law returns true at every input, and its arguments read as they did; under the row's condition on the package variable math/bits.deBruijn64tab, which the card ties to the program's text.
-/
import Derived.Test.YtfdephgpijheoaaGreatDoorRows
import Derived.Test.YtfdephgpijheoaaGreatDoorTie
import Derived.Test.YtfdephgpijheoaaGreatDoorCards
import Derived.ProofKit
import Derived.LaidMore
import Derived.LaidHandle
import Derived.MakeChecks
import Derived.OpenShut
import Derived.Stop.Joined
import Derived.Lib.SmallJoins
import Derived.SevenTiedAt
import Derived.JoinedOf
import Derived.Test.YtfdephgpijheoaaGreatDoorP16
set_option linter.unusedVariables false
set_option linter.unusedSimpArgs false
namespace Go.Sg
open Go Vc
theorem meth_Put (s : Nat) (w : World) : (method (Pg.types.size + Made.depth) t_P_kv_Store (ptr s 0) "Put").run Pg w = .ok (f_kv_Store_Put, ptr s 0) w := by kernel_rfl
theorem meth_Delete (s : Nat) (w : World) : (method (Pg.types.size + Made.depth) t_P_kv_Store (ptr s 0) "Delete").run Pg w = .ok (f_kv_Store_Delete, ptr s 0) w := by kernel_rfl
theorem conc_kv : Pg.concrete t_P_kv_Store = true := by kernel_rfl
def psM (ps : List Pair) (L : List Msg) (i : Nat) : List Pair := (L.take i).foldl applyP ps
theorem psM_succ {ps : List Pair} {L : List Msg} {i : Nat} {m : Msg} (h : L[i]? = some m) : psM ps L (i + 1) = applyP (psM ps L i) m := by
  unfold psM
  rw [List.take_add_one, h]
  simp
def goodMs (c : Config) (ps : List Pair) (L : List Msg) : Prop := ∀ i m, L[i]? = some m → keyOk c m.key = true ∧ (m.val.length : Int) ≤ c.val ∧ (m.del = true → m.val = []) ∧ lok c (psM ps L (i + 1))
def BaV (B : Nat) (h : Heap) (b : Nat) (L : List Msg) : Prop := b < B ∧ ∃ v, Blk h b [v] ∧ Sl (fun x => B ≤ x) h v L
theorem BaV.ex {B : Nat} {h h' : Heap} {b : Nat} {L : List Msg} {M : Nat → Prop} (k : BaV B h b L) (e : Ex M h h') (hm : ∀ x, x < B → ¬ M x) : BaV B h' b L := by
  obtain ⟨hb, v, k1, k2⟩ := k
  exact ⟨hb, v, k1.ex e (hm b hb), k2.ex e (fun x _ m => by
    rcases Nat.lt_or_ge x B with q | q
    · exact absurd m (hm x q)
    · exact q) (fun _ _ q => q)⟩
theorem BaS.v {lab : Nat → Nat} {h : Heap} {b : Nat} {L : List Msg} (k : BaS lab h b L) : BaV h.size h b L := by
  obtain ⟨⟨v, kb, sv⟩, l61, ha, hf⟩ := k
  refine ⟨kb.lt, v, kb, ?_⟩
  obtain ⟨a, cap, hv, hc, hn0, hx⟩ := sv.out
  exact ⟨a, cap, hv, hc, hn0, fun y hy => ⟨(hx y hy).1, fun hl => ⟨((hx y hy).2 hl).1, fun hu => by have := ((hx y hy).2 hl).1; omega, ((hx y hy).2 hl).2.2⟩⟩⟩
structure KvF (lab : Nat → Nat) (h : Heap) (s : Nat) (c : Config) (ps : List Pair) (S : Nat → Bool) : Prop where
  out : ∃ mp tp sp dp D V root rd wr a b d e, Blk h s (kvc c (ptr mp 0) true a b d e) ∧ MtS lab h mp tp sp dp c D V S root ps rd wr ∧ lab s = 15
theorem KvF.s {lab : Nat → Nat} {h : Heap} {s : Nat} {c : Config} {ps : List Pair} {S : Nat → Bool} (k : KvF lab h s c ps S) : KvS lab h s c ps := by
  obtain ⟨mp, tp, sp, dp, D, V, root, rd, wr, a, b, d, e, k1, k2, k3⟩ := k
  exact ⟨mp, tp, sp, dp, D, V, S, root, rd, wr, a, b, d, e, k1, k2, k3⟩
theorem c_kv_beginF {lab : Nat → Nat} {h : Heap} {K : Kt} {c : Config} {ps : List Pair} {mp tp sp dp root : Nat} {D : List (List UInt8)} {V : Nat → List UInt8} {S : Nat → Bool} {rd wr : BitVec 64} (k : MtS lab h mp tp sp dp c D V S root ps rd wr)
    (r : ∀ lab' s h', Lat lab lab' h → KvF lab' h' s c ps S → Ext h h' → h.size ≤ s → K (ptr s 0) h') : Ca f_kv_begin #[ptr mp 0] h K := by
  refine m_kv_begin_ok (c_mount_Head k fun h1 e1 => ?_)
  refine ⟨_, rfl, ?_⟩
  refine ⟨_, (kvc c (ptr mp 0) true 0 0 0 0).toArray, rfl, by kernel_rfl, ?_⟩
  refine bxa (cs := kvc c (ptr mp 0) true 0 0 0 0) fun s h2 e2 hs k2 _ => ?_
  let l2 := upd (frl lab h1) s 15
  have a2 : Lat lab l2 h1 := fun x hx => (upd_ne (by omega)).trans (frl_lat lab h1 x hx)
  have hl := e1.le
  exact r l2 s h2 (fun x hx => a2 x (by omega)) ⟨mp, tp, sp, dp, D, V, root, rd, wr, 0, 0, 0, 0, k2, ((k.ext e1).lat a2).ext e2, upd_same⟩ (e1.trans e2) (by omega)
section
variable {lab lab' : Nat → Nat} {h h' : Heap} {K : Kt} {c : Config} {U : Nat → Prop} {x : Value} {L : List Opx} {ps : List Pair} {D : List (List UInt8)} {root s b : Nat} {m : Msg} {Ms : List Msg}
theorem c_law34_Stored (hL : c.Light) (ho : lok c []) (hnf : c.frames.toNat ≤ 12) (h24 : c.blocks.toNat * c.bytes.toNat ≤ 2 ^ 24) (t : Tz h) (s : Sl U h x L) (hlen : L.length ≤ 199) (hg : goodOps c L)
    (r : ∀ lab' q h' y, KvS lab' h' q c (psOf L L.length) → (∀ b, b < h.size → lab' b = 0) → Ext h h' → h.size ≤ q → K (.tuple #[ptr q 0, y]) h') : Ca f_law34_Stored #[c.v, x] h K := by
  have hr := hL.1
  have h0v : 0 ≤ c.val := by have := hr.1; unfold Config.Sized at this; omega
  refine m_law34_Stored_ok (bxa (cs := c.cs) fun b2 h1 e1 hb2 k2 _ => (LdA_b k2 rfl).2 (c_law18_Light (c := c) fun h2 e2 => ?_))
  have k2 := k2.ext e2
  have e02 := e1.trans e2
  rw [decide_eq_true hL, UnP_not]
  refine cd (fun h => absurd h (by decide)) fun _ => (LdA_b k2 rfl).2 ?_
  refine c_kv_New hr ho hnf h24 (t.ext e02) fun l3 q h3 k3 z3 e3 hq => ?_
  rw [ex20, ex21, BiP_neq]
  refine cdp (fun h => absurd rfl h) fun _ => ?_
  refine bs (n0 := h3.size) (e := t_api_Pair) (zs := #[str [], str []]) ([] : List Pair) rfl (Nat.le_refl _) rfl (by decide) (cs := #[]) (by kernel_rfl) rfl fun v4 h4 o4 e4 => ?_
  have e34 := e3.trans e4
  have s2 : Sl No h2 x L := (s.ext e02).no
  have a4 := frl_lat l3 h3
  have k4 := (k3.lat a4).ext e4
  have hl02 := e02.le
  have hl23 := e3.le
  have z4 : ∀ b, b < h2.size → frl l3 h3 b = 0 := fun b hb => (a4 b (by omega)).trans (z3 b hb)
  have s4 : Sl (Use (frl l3 h3)) h4 x L := (s2.ex e34 (fun b hb hm => hm) (fun b hb hm => absurd (z4 b hb) hm) : Sl (Use (frl l3 h3)) h4 x L)
  have hb2l := k2.lt
  refine lop (σ := Nat × Value × (Nat → Nat)) (fun p => [.pointer none, .slice none 0 0, p.2.1, int p.1])
    (fun p h' => p.1 ≤ L.length ∧ KvS p.2.2 h' q c (psOf L p.1) ∧ (∀ b, b < h2.size → p.2.2 b = 0) ∧ Sl (Use p.2.2) h' x L ∧ Ow h2.size t_api_Pair h' p.2.1 (psOf L p.1) ∧ (∀ b, p.2.1.ownBlock = some b → p.2.2 b = 0) ∧ Ext h2 h')
    (fun p => L.length - p.1) (0, v4, frl l3 h3) rfl ⟨Nat.zero_le _, k4, z4, s4, o4.low hl23, fun b hb => frl_new (o4.block b hb), e34⟩ ?_
  rintro ⟨i, y, l5⟩ h5 N ⟨hi, k5, z5, s5, o5, zy, e5⟩ hN
  simp only at hi k5 z5 s5 o5 zy
  simp only [m_law34_Stored_l16, gv_zero, gv_succ]
  refine s5.len ?_
  have k25 := k2.ext e5
  rw [BiP_lss]
  unfold m_law34_Stored_j25
  refine cdp (fun hlt => ?_) (fun hge => ?_)
  · have hlt : i < L.length := by omega
    rw [BiP_lss, decide_eq_true (show (i : Int) < 200 by omega), CdP_true]
    have hx := List.getElem?_eq_getElem hlt
    obtain ⟨g1, g2, g3, g4, g5⟩ := hg i _ hx
    have hps := psOf_succ hx
    unfold m_law34_Stored_j26
    refine s5.ea (x := L[i]) (by omega) (by rw [Int.toNat_natCast]; exact hx) ?_
    refine c_law27_Long (o := L[i]) fun h6 e6 => ?_
    rw [decide_eq_false (by omega), decide_eq_false (by omega)]
    show CdP (.bool false) _ _
    rw [CdP_false]
    have s6 := s5.ext e6
    refine s6.ea (x := L[i]) (by omega) (by rw [Int.toNat_natCast]; exact hx) ?_
    have a6 := frl_lat l5 h5
    have k6 := (k5.lat a6).ext e6
    have hl25 := e5.le
    refine c_law27_Step (o := L[i]) k6 h0v g1 g4 (by rw [← hps]; exact g5) fun l7 h7 a7 k7 e7 => ?_
    refine ⟨_, int 0, rfl, rfl, ?_⟩
    show BiP .eql (int 0) (int 0) _
    rw [BiP_eql]
    refine cdp (fun _ => ?_) fun h => absurd rfl h
    have hl56 := e6.le
    have z6 : ∀ b, b < h2.size → frl l5 h5 b = 0 := fun b hb => (a6 b (by omega)).trans (z5 b hb)
    have hz25 : ∀ b, b < h2.size → ¬ Lb (frl l5 h5) 1 15 b := fun b hb hm => by have := z6 b hb; obtain ⟨m1, m2⟩ := hm; omega
    have e57 : Ext h2 h7 := (e5.trans e6).andThen e7 hz25
    have k27 := k2.ext e57
    have zy6 : ∀ b, y.ownBlock = some b → frl l5 h5 b = 0 := fun b hb => by
      rcases Nat.lt_or_ge b h5.size with h | h
      · exact (a6 b h).trans (zy b hb)
      · exact frl_new h
    have o7 : Ow h2.size t_api_Pair h7 y (psOf L i) := (o5.ext e6).exb e7 fun b hb => nLb (zy6 b hb) (by decide)
    have s5' : Sl (Use (frl l5 h5)) h6 x L := s6.ex (Ex.refl No _) (fun _ _ h => h.elim) (fun b hb hm => by
      rcases Nat.lt_or_ge b h5.size with h | h
      · show l5 b ≠ 0; rw [← a6 b h]; exact hm
      · exact absurd (frl_new h) hm)
    have s7 : Sl (Use l7) h7 x L := s5'.lat e7 (by decide) a7
    refine (LdA_b k27 rfl).2 (s7.ea (x := L[i]) (by omega) (by rw [Int.toNat_natCast]; exact hx) ?_)
    have hob := lok_bounds (c := c) hr (ps := psOf L i) (by
      cases i with
      | zero => exact ho
      | succ j =>
        have hj : j < L.length := by omega
        exact (hg j _ (List.getElem?_eq_getElem hj)).2.2.2.2)
    have hasc : Asc Pair.key (psOf L i) := by
      cases i with
      | zero => exact List.Pairwise.nil
      | succ j =>
        have hj : j < L.length := by omega
        exact lok_asc (hg j _ (List.getElem?_eq_getElem hj)).2.2.2.2
    refine c_ref27_Do (o := L[i]) (o7.sl (U := No) fun _ _ h => h) hasc hob.1 hob.2 g1 fun w h8 o8 e8 => ⟨trivial, ?_⟩
    rw [ex20, ex21]
    unfold m_law34_Stored_j45
    refine add64 (by omega) ?_
    have a8 := frl_lat l7 h7
    have hl67 := e7.le
    have hl27 := e57.le
    have z8 : ∀ b, b < h2.size → frl l7 h7 b = 0 := fun b hb => by rw [a8 b (by omega), a7 b (by omega)]; exact z6 b hb
    have s8 : Sl (Use (frl l7 h7)) h8 x L := (s7.ext e8).ex (Ex.refl No _) (fun _ _ h => h.elim) (fun b hb hm => by
      rcases Nat.lt_or_ge b h7.size with h | h
      · show l7 b ≠ 0; rw [← a8 b h]; exact hm
      · exact absurd (frl_new h) hm)
    have := hN (i + 1, w, frl l7 h7) h8 ⟨by show i + 1 ≤ _; omega, by show KvS _ _ _ _ (psOf L (i + 1)); rw [hps]; exact (k7.lat a8).ext e8, z8, s8, by show Ow _ _ _ _ (psOf L (i + 1)); rw [hps]; exact o8.low hl27, fun b hb => frl_new (o8.block b hb), e57.trans e8⟩ (by simp only; omega)
    simpa using this
  · have hin : i = L.length := by omega
    subst hin
    rw [CdP_false]
    unfold m_law34_Stored_j47
    exact r l5 q h5 y k5 (fun b hb => z5 b (by omega)) (e02.trans e5) (by omega)
theorem c_kv_OpenF (hr : c.Right) (hD : D.length = c.blocks.toNat) (hall : ∀ b ∈ D, b.length = c.bytes.toNat) (sx : Sl U h x D.flatten) (t : Tz h) (im : ImgD c root ps D) (h0 : 0 < root) (hi : root < c.blocks.toNat) (ho : lok c ps)
    (r : ∀ lab' q h', KvF lab' h' q c ps (upd (upd (fun _ => false) 0 true) root true) → (∀ b, b < h.size → lab' b = 0) → Ext h h' → h.size ≤ q → K (.tuple #[ptr q 0, int 0]) h') : Ca f_kv_Open #[int c.bytes, x] h K := by
  have h5 : (5 : Int) ≤ c.blocks ∧ c.blocks ≤ 65536 := ⟨hr.2.1, hr.2.2.1⟩
  have hb64 := bytes64 hr
  have hbm := hr.2.2.2.2.2.1
  have hbn : int c.bytes = int ((c.bytes.toNat : Nat) : Int) := by rw [Int.toNat_of_nonneg (by omega)]
  rw [hbn]
  refine m_kv_Open_ok (c_dev_From (n := c.bytes.toNat) (D := D) (by omega) (by omega) (by omega) (by omega) hall sx fun g p h1 hg hp d1 e1 => ?_)
  rw [ex20, ex21, BiP_neq]
  refine cdp (fun h => absurd rfl h) fun _ => ?_
  have hT := t.lt
  refine c_mount_Open d1 hr hD rfl (t.ext e1) (by omega) (by omega) im h0 hi ho fun l2 h2 mp tp sp D' V' rd' wr' m2 a2 e2 => ?_
  rw [ex20, ex21, BiP_neq]
  refine cdp (fun h => absurd rfl h) fun _ => ?_
  refine c_kv_beginF m2 fun l3 q h3 a3 k3 e3 hq => ?_
  have hl1 := e1.le
  have hl2 := e2.le
  have z : ∀ y, y < h.size → l3 y = 0 := fun y hy => by
    rw [a3 y (by omega), a2 y (by omega)]
    unfold dlab
    rw [if_neg (by omega), if_neg (by omega)]
  refine r l3 q h3 k3 z ?_ (by omega)
  exact (e1.andThen e2 fun y hy m => by rcases m with m | m <;> omega).trans e3
theorem c_kv_Open (hr : c.Right) (hD : D.length = c.blocks.toNat) (hall : ∀ b ∈ D, b.length = c.bytes.toNat) (sx : Sl U h x D.flatten) (t : Tz h) (im : ImgD c root ps D) (h0 : 0 < root) (hi : root < c.blocks.toNat) (ho : lok c ps)
    (r : ∀ lab' q h', KvS lab' h' q c ps → (∀ b, b < h.size → lab' b = 0) → Ext h h' → h.size ≤ q → K (.tuple #[ptr q 0, int 0]) h') : Ca f_kv_Open #[int c.bytes, x] h K :=
  c_kv_OpenF hr hD hall sx t im h0 hi ho fun l q h' k z e hq => r l q h' k.s z e hq
theorem c_batch_change (k : KvS lab h s c ps) (hk : keyOk c m.key = true) (hv : (m.val.length : Int) ≤ c.val) (h0 : 0 ≤ c.val) (hd : m.del = true → m.val = []) (ho : lok c (applyP ps m))
    (r : ∀ lab' h', Lat lab lab' h → KvS lab' h' s c (applyP ps m) → Ex (Lb lab 1 15) h h' → K (int 0) h') : Ca f_batch_change #[.iface t_P_kv_Store (ptr s 0), m.v] h K := by
  obtain ⟨key, del, val⟩ := m
  refine m_batch_change_ok (bxa (cs := [str key, .bool del, str val]) fun b1 h1 e1 hb1 k1 _ => ?_)
  refine fv (v := .bool del) (by rw [k1.get]; rfl) ?_
  have a1 := frl_lat lab h
  have k2 := (k.lat a1).ext e1
  cases del with
  | true =>
    obtain rfl : val = [] := hd rfl
    rw [CdP_true]
    refine fv (v := str key) (by rw [k1.get]; rfl) ?_
    refine ⟨t_P_kv_Store, ptr s 0, f_kv_Store_Delete, ptr s 0, rfl, meth_Delete s, by kernel_rfl, ?_⟩
    show Ca f_kv_Store_Delete #[ptr s 0, str key] h1 _
    refine c_kv_Delete k2 hk h0 ho fun l3 h3 a3 k3 e3 => r l3 h3 (a1.trans a3 e1.le) k3 (a1.ex (Ex.toM e1) e3)
  | false =>
    rw [CdP_false]
    refine fv (v := str key) (by rw [k1.get]; rfl) ?_
    refine fv (v := str val) (by rw [k1.get]; rfl) ?_
    refine ⟨t_P_kv_Store, ptr s 0, f_kv_Store_Put, ptr s 0, rfl, meth_Put s, by kernel_rfl, ?_⟩
    show Ca f_kv_Store_Put #[ptr s 0, str key, str val] h1 _
    refine c_kv_Put k2 hk hv ho fun l3 h3 a3 k3 e3 => r l3 h3 (a1.trans a3 e1.le) k3 (a1.ex (Ex.toM e1) e3)
theorem c_batch_do {B : Nat} (kb : BaV B h b Ms) (hB : ∀ y, y < B → lab y = 0) (hBs : B ≤ h.size) (hlen : Ms.length ≤ 2 ^ 30) (k : KvS lab h s c ps) (h0 : 0 ≤ c.val) (hg : goodMs c ps Ms)
    (r : ∀ lab' h', Lat lab lab' h → KvS lab' h' s c (psM ps Ms Ms.length) → BaV B h' b Ms → Ex (Lb lab 1 15) h h' → K (int 0) h') : Ca f_batch_Batch_do #[ptr b 0, ptr s 0] h K := by
  have kb0 := kb
  obtain ⟨hb, v, kv, sv⟩ := kb
  refine m_batch_Batch_do_ok (fl (v := v) (by rw [kv.get]; rfl) (sv.len ?_))
  refine lop (σ := Nat × (Nat → Nat)) (fun p => [int 0, int p.1])
    (fun p h' => p.1 ≤ Ms.length ∧ KvS p.2 h' s c (psM ps Ms p.1) ∧ Lat lab p.2 h ∧ Ex (Lb lab 1 15) h h')
    (fun p => Ms.length - p.1) (0, lab) rfl ⟨Nat.zero_le _, k, Lat.refl _ _, Ex.refl _ _⟩ ?_
  rintro ⟨i, l1⟩ h1 N ⟨hi, k1, a1, e1⟩ hN
  simp only at hi k1 a1
  simp only [m_batch_Batch_do_l6, gv_zero, gv_succ]
  have low : ∀ y, y < B → ¬ Lb lab 1 15 y := fun y hy m => by have := hB y hy; obtain ⟨m1, m2⟩ := m; omega
  have sv1 : Sl (fun x => B ≤ x) h1 v Ms := sv.ex e1 (fun x _ m => by
    rcases Nat.lt_or_ge x B with q | q
    · exact absurd m (low x q)
    · exact q) fun _ _ q => q
  rw [BiP_lss]
  refine cdp (fun hlt => ?_) (fun hge => ?_)
  · have hlt : i < Ms.length := by omega
    have hx := List.getElem?_eq_getElem hlt
    obtain ⟨g1, g2, g3, g4⟩ := hg i _ hx
    have hps := psM_succ (ps := ps) hx
    refine sv1.ea (x := Ms[i]) (by omega) (by rw [Int.toNat_natCast]; exact hx) ?_
    refine alst (vs := El.enc Ms[i]) rfl rfl rfl fun b2 h2 e2 hb2 k2 _ => ?_
    refine vh_pure (v := .iface t_P_kv_Store (ptr s 0)) (fun w _ => run_makeInterface w t_P_kv_Store (ptr s 0) conc_kv) ?_
    refine (LdA_b k2 rfl).2 ?_
    have a2 := frl_lat l1 h1
    have hl1 := e1.le
    refine c_batch_change (m := Ms[i]) ((k1.lat a2).ext e2) g1 g2 h0 g3 (by rw [← hps]; exact g4) fun l3 h3 a3 k3 e3 => ?_
    rw [BiP_neq]
    refine cdp (fun h => absurd rfl h) fun _ => add64 (by omega) ?_
    have a13 : Lat l1 l3 h1 := a2.trans a3 e2.le
    have := hN (i + 1, l3) h3 ⟨by show i + 1 ≤ _; omega, by show KvS _ _ _ _ (psM ps Ms (i + 1)); rw [hps]; exact k3, a1.trans a13 hl1, a1.ex e1 (a2.ex (Ex.toM e2) e3)⟩ (by simp only; omega)
    simpa using this
  · have hin : i = Ms.length := by omega
    subst hin
    unfold m_batch_Batch_do_j22
    exact r l1 h1 a1 k1 (kb0.ex e1 low) e1
theorem KvS.lt (k : KvS lab h s c ps) : s < h.size := by
  obtain ⟨_, _, _, _, _, _, _, _, _, _, _, _, _, _, z, _⟩ := k; exact z.lt
theorem c_batch_Apply (hr : c.Right) (hnf : c.frames.toNat ≤ 12) (t : Tz h) (tz : lab gTab = 0) (kb : BaS lab h b Ms) (k : KvS lab h s c ps) (hbad : Ms.any (badMsg0 c) = false) (ho : lok c ps) (hg : goodMs c ps Ms)
    (r : ∀ lab' q h' B, KvS lab' h' q c (psM ps Ms Ms.length) → KvX h' s c → BaV B h' b Ms → h.size ≤ B → (∀ y, y < B → lab' y = 0) → B ≤ q → Ex (Lb lab 1 15) h h' → K (.tuple #[ptr q 0, int 0]) h') : Ca f_batch_Batch_Apply #[ptr b 0, ptr s 0] h K := by
  have h0v : 0 ≤ c.val := by have := hr.1; unfold Config.Sized at this; omega
  have hlen := kb.few
  have hs := k.lt
  refine m_batch_Batch_Apply_ok (eq_ptr_nil (by kernel_rfl) ?_)
  show CdP (.bool false) _ _
  rw [CdP_false]
  refine c_kv_Range (lo := []) (hi := []) (n := 0) k (by decide) fun l1 h1 v1 a1 k1 o1 z1 e1 => ?_
  rw [ex20, ex21, BiP_neq]
  refine cdp (fun h => absurd rfl h) fun _ => ?_
  have kb1 := kb.ex e1 (by decide) (by decide) a1
  refine c_kv_Config k1.cf fun h2 e2 => ?_
  refine alst (vs := c.cs) rfl rfl rfl fun b3 h3 e3 hb3 k3 _ => (LdA_b k3 rfl).2 ?_
  have e13 := e2.trans e3
  refine c_batch_Right (c := c) (kb1.ext e13) fun h4 e4 => ?_
  rw [hbad, UnP_not]
  refine cd (fun h => absurd h (by decide)) fun _ => ?_
  have e14 := e13.trans e4
  have hl1 := e1.le
  have hl13 : h1.size ≤ h2.size := e2.le
  let l4 := loc l1 h1 b3
  have a4 : Lat l1 l4 h1 := loc_lat l1 (by omega)
  have q99 : l4 b3 = 99 := loc_at
  have k4 := (k1.lat a4).ext e14
  have kb4 := (kb1.lat a4).ext e14
  refine cvhc (by kernel_rfl) ?_
  show Ca f_kv_Store_Close #[ptr s 0] h4 _
  refine c_kv_Close k4 hnf fun x h5 root D kx5 im ⟨r0, ri, dl, dall⟩ ox e5 => ?_
  rw [ex20, ex21, BiP_neq]
  refine cdp (fun h => absurd rfl h) fun _ => ?_
  have k35 := (k3.ext e4).ex e5 (nLb q99 (by decide))
  refine fv (v := int c.bytes) (by rw [k35.get]; rfl) ?_
  have hl14 := e14.le
  have hl45 := e5.le
  have tl := t.lt
  have a04 : ∀ y, y < h.size → l4 y = lab y := fun y hy => (a4 y (by omega)).trans (a1 y hy)
  have e04 : Ex (Lb lab 1 15) h h4 := e1.trans (Ex.toM e14)
  have e05 : Ex (Lb lab 1 15) h h5 := e04.comp e5 fun y hy m => by show 1 ≤ lab y ∧ lab y ≤ 15; rw [← a04 y hy]; exact m
  have t5 : Tz h5 := t.ex e05 (nLb tz (by decide))
  have bv5 : BaV h5.size h5 b Ms := (kb4.ex e5 (by decide) (by decide) (Lat.refl _ _) : BaS l4 h5 b Ms).v
  refine c_kv_Open (root := root) (D := D) hr dl dall (ox.sl (U := No) fun _ _ h => h) t5 im r0 ri ho fun l6 q h6 k6 z6 e6 hq => ?_
  rw [ex20, ex21, BiP_neq]
  refine cdp (fun h => absurd rfl h) fun _ => ?_
  have hl56 := e6.le
  have bv6 : BaV h5.size h6 b Ms := bv5.ex e6 fun _ _ m => m
  refine c_batch_do bv6 z6 hl56 hlen k6 h0v hg fun l7 h7 a7 k7 bv7 e7 => ?_
  rw [BiP_eql]
  refine cdp (fun _ => ?_) fun h => absurd rfl h
  have hl05 := e05.le
  have hl67 := e7.le
  have low : ∀ y, y < h5.size → ¬ Lb l6 1 15 y := fun y hy => nLb (z6 y hy) (by decide)
  have e57 : Ext h5 h7 := e6.andThen e7 low
  have e07 : Ex (Lb lab 1 15) h h7 := e05.trans (Ex.toM e57)
  obtain ⟨w1, w2, w3, w4, kx⟩ := kx5
  exact r l7 q h7 h5.size k7 ⟨w1, w2, w3, w4, kx.ext e57⟩ bv7 hl05 (fun y hy => (a7 y (by omega)).trans (z6 y hy)) hq e07
end
end Go.Sg
set_option maxRecDepth 100000
namespace Go.Sg
open Go Vc Go.Proofs
def m_law39_BatchNobody_j142 (x4_ : Value) (h : Heap) (K : Kt) : Prop :=
 K x4_ h
def m_law39_BatchNobody_j61 (x9_ x11_ : Value) (h : Heap) (K : Kt) : Prop :=
 Ca f_batch_Batch_Apply #[(.pointer none), x9_] h fun x63 h62 =>
 ExP x63 0 fun x64 =>
 ExP x63 1 fun x65 =>
 Ca f_batch_Batch_Apply #[x11_, (.pointer none)] h62 fun x67 h66 =>
 ExP x67 0 fun x68 =>
 ExP x67 1 fun x69 =>
 BlP bt_kv_Store [] fun x70 =>
 BxP t_kv_Store x70 h66 fun x72 h71 =>
 Ca f_batch_Batch_Apply #[x11_, x72] h71 fun x74 h73 =>
 ExP x74 0 fun x75 =>
 ExP x74 1 fun x76 =>
 Ca f_kv_Store_Close #[x9_] h73 fun x78 h77 =>
 Ca f_batch_Batch_Apply #[x11_, x9_] h77 fun x80 h79 =>
 ExP x80 0 fun x81 =>
 ExP x80 1 fun x82 =>
 EqP .eql t_P_kv_Store (.tmp 96) (.const (.pointer none)) x64 (.pointer none) h79 fun x85 h84 =>
 CdP x85
 (BiP .eql x65 (.int .i64 1) fun x86 =>
 CdP x86
 (EqP .eql t_P_kv_Store (.tmp 103) (.const (.pointer none)) x68 (.pointer none) h84 fun x89 h88 =>
 CdP x89
 (BiP .eql x69 (.int .i64 1) fun x91 =>
 CdP x91
 (EqP .eql t_P_kv_Store (.tmp 111) (.const (.pointer none)) x75 (.pointer none) h88 fun x94 h93 =>
 CdP x94
 (BiP .eql x76 (.int .i64 1) fun x96 =>
 CdP x96
 (EqP .eql t_P_kv_Store (.tmp 119) (.const (.pointer none)) x81 (.pointer none) h93 fun x99 h98 =>
 CdP x99
 (BiP .eql x82 (.int .i64 13) fun x101 =>
 CdP x101
 (Ca f_law39_awake #[] h98 fun x104 h103 =>
 m_law39_BatchNobody_j142 x104 h103 K)
 (m_law39_BatchNobody_j142 (.bool false) h98 K))
 (m_law39_BatchNobody_j142 (.bool false) h98 K))
 (m_law39_BatchNobody_j142 (.bool false) h93 K))
 (m_law39_BatchNobody_j142 (.bool false) h93 K))
 (m_law39_BatchNobody_j142 (.bool false) h88 K))
 (m_law39_BatchNobody_j142 (.bool false) h88 K))
 (m_law39_BatchNobody_j142 (.bool false) h84 K))
 (m_law39_BatchNobody_j142 (.bool false) h84 K)
def m_law39_BatchNobody_j60 (x9_ x11_ x69_ : Value) (h : Heap) (K : Kt) : Prop :=
 CdP x69_
 (K (.bool false) h)
 (m_law39_BatchNobody_j61 x9_ x11_ h K)
def m_law39_BatchNobody_j44 (h : Heap) (K : Kt) : Prop :=
 BlP bt_api_Config [(0, (.int .i64 9)), (1, (.int .i64 200)), (2, (.int .i64 8)), (3, (.int .i64 8)), (4, (.int .i64 16)), (5, (.int .i64 16)), (6, (.int .i64 2)), (7, (.int .i64 1))] fun x45 =>
 Ca f_law34_Stored #[x45, (.slice none 0 0)] h fun x47 h46 =>
 ExP x47 0 fun x48 =>
 ExP x47 1 fun x49 =>
 Ca f_batch_New #[] h46 fun x51 h50 =>
 EqP .eql t_P_kv_Store (.tmp 64) (.const (.pointer none)) x48 (.pointer none) h50 fun x55 h54 =>
 CdP x55
 (m_law39_BatchNobody_j60 x48 x51 (.bool true) h54 K)
 (EqP .eql t_P_batch_Batch (.tmp 67) (.const (.pointer none)) x51 (.pointer none) h54 fun x58 h57 =>
 m_law39_BatchNobody_j60 x48 x51 x58 h57 K)
def m_law39_BatchNobody_j43 (x57_ : Value) (h : Heap) (K : Kt) : Prop :=
 CdP x57_
 (K (.bool false) h)
 (m_law39_BatchNobody_j44 h K)
def m_law39_BatchNobody (x0_ x1_ : Value) (h : Heap) (K : Kt) : Prop :=
 Ca f_batch_Batch_Put #[(.pointer none), x0_, x1_] h fun x2 h1 =>
 Ca f_batch_Batch_Delete #[(.pointer none), x0_] h1 fun x4 h3 =>
 Ca f_batch_Batch_Get #[(.pointer none), x0_] h3 fun x6 h5 =>
 ExP x6 0 fun x7 =>
 ExP x6 1 fun x8 =>
 ExP x6 2 fun x9 =>
 BiP .neq x7 (.string { data := #[] }) fun x12 =>
 CdP x12
 (m_law39_BatchNobody_j43 (.bool true) h5 K)
 (CdP x8
 (m_law39_BatchNobody_j43 (.bool true) h5 K)
 (CdP x9
 (m_law39_BatchNobody_j43 (.bool true) h5 K)
 (Ca f_batch_Batch_Len #[(.pointer none)] h5 fun x28 h27 =>
 BiP .neq x28 (.int .i64 0) fun x29 =>
 CdP x29
 (m_law39_BatchNobody_j43 (.bool true) h27 K)
 (Ca f_batch_Batch_Msgs #[(.pointer none)] h27 fun x34 h33 =>
 LenP (some true) x34 fun x35 =>
 BiP .neq x35 (.int .i64 0) fun x36 =>
 CdP x36
 (m_law39_BatchNobody_j43 (.bool true) h33 K)
 (BlP bt_api_Config [] fun x39 =>
 Ca f_batch_Batch_Right #[(.pointer none), x39] h33 fun x41 h40 =>
 m_law39_BatchNobody_j43 x41 h40 K)))))
theorem m_law39_BatchNobody_ok {x0_ x1_ : Value} {h : Heap} {K : Kt} (hh : m_law39_BatchNobody x0_ x1_ h K) : Ca f_law39_BatchNobody #[x0_, x1_] h K := cv Tryz.func4 (by kernel_rfl) hh
def m_law39_awake_j71 (x0_ : Value) (h : Heap) (K : Kt) : Prop :=
 K x0_ h
def m_law39_awake_j20 (x1_ x3_ : Value) (h : Heap) (K : Kt) : Prop :=
 Ca f_batch_Batch_Put #[x3_, (.string { data := #[97] }), (.string { data := #[49] })] h fun x22 h21 =>
 Ca f_batch_Batch_Delete #[x3_, (.string { data := #[97] })] h21 fun x24 h23 =>
 Ca f_batch_Batch_Put #[x3_, (.string { data := #[98] }), (.string { data := #[50] })] h23 fun x26 h25 =>
 Ca f_batch_Batch_Apply #[x3_, x1_] h25 fun x28 h27 =>
 ExP x28 0 fun x29 =>
 ExP x28 1 fun x30 =>
 Ca f_squeeze_Pairs #[x29] h27 fun x32 h31 =>
 ExP x32 0 fun x33 =>
 ExP x32 1 fun x34 =>
 Ca f_batch_Batch_Len #[x3_] h31 fun x37 h36 =>
 BiP .eql x37 (.int .i64 2) fun x38 =>
 CdP x38
 (BiP .eql x30 (.int .i64 0) fun x39 =>
 CdP x39
 (BiP .eql x34 (.int .i64 0) fun x41 =>
 CdP x41
 (LenP (some true) x33 fun x43 =>
 BiP .eql x43 (.int .i64 1) fun x44 =>
 CdP x44
 (Ef 2 0 x33 (.int .i64 0) h36 fun x48 =>
 BiP .eql x48 (.string { data := #[98] }) fun x49 =>
 CdP x49
 (Ef 2 1 x33 (.int .i64 0) h36 fun x53 =>
 BiP .eql x53 (.string { data := #[50] }) fun x54 =>
 m_law39_awake_j71 x54 h36 K)
 (m_law39_awake_j71 (.bool false) h36 K))
 (m_law39_awake_j71 (.bool false) h36 K))
 (m_law39_awake_j71 (.bool false) h36 K))
 (m_law39_awake_j71 (.bool false) h36 K))
 (m_law39_awake_j71 (.bool false) h36 K)
def m_law39_awake_j19 (x1_ x3_ x21_ : Value) (h : Heap) (K : Kt) : Prop :=
 CdP x21_
 (K (.bool false) h)
 (m_law39_awake_j20 x1_ x3_ h K)
def m_law39_awake (h : Heap) (K : Kt) : Prop :=
 BlP bt_api_Config [(0, (.int .i64 9)), (1, (.int .i64 200)), (2, (.int .i64 8)), (3, (.int .i64 8)), (4, (.int .i64 16)), (5, (.int .i64 16)), (6, (.int .i64 2)), (7, (.int .i64 1))] fun x1 =>
 BlP bt_api_Op [(0, (.int .i64 1)), (1, (.string { data := #[97] }))] fun x2 =>
 BsP st_S_api_Op 1 [(0, x2)] h fun x4 h3 =>
 Ca f_law34_Stored #[x1, x4] h3 fun x6 h5 =>
 ExP x6 0 fun x7 =>
 ExP x6 1 fun x8 =>
 Ca f_batch_New #[] h5 fun x10 h9 =>
 EqP .eql t_P_kv_Store (.tmp 16) (.const (.pointer none)) x7 (.pointer none) h9 fun x14 h13 =>
 CdP x14
 (m_law39_awake_j19 x7 x10 (.bool true) h13 K)
 (EqP .eql t_P_batch_Batch (.tmp 19) (.const (.pointer none)) x10 (.pointer none) h13 fun x17 h16 =>
 m_law39_awake_j19 x7 x10 x17 h16 K)
theorem m_law39_awake_ok {h : Heap} {K : Kt} (hh : m_law39_awake h K) : Ca f_law39_awake #[] h K := cv Tryz.func23 (by kernel_rfl) hh
end Go.Sg
namespace Go.Sg
open Go Vc
section
variable {lab : Nat → Nat} {h : Heap} {K : Kt} {lo hi : Str} {batch : Int}
theorem least_light : leastC.Light := by decide
theorem least_ok : lok leastC [] := by decide
end
end Go.Sg
namespace Go.Sg
open Go Vc
section
variable {h : Heap} {K : Kt} {key val : Str}
def ops39 : List Opx := [⟨1, [97], [], 0⟩]
theorem ops39_good : goodOps leastC ops39 := fun i o hi => by
  have : i = 0 := by
    have := (List.getElem?_eq_some_iff.1 hi).1
    have h2 : ops39.length = 1 := rfl
    omega
  subst this
  cases hi; exact ⟨⟨.inl rfl, by decide⟩, by decide, by decide, by decide, by decide⟩
def ms39 : List Msg := [⟨[97], true, []⟩, ⟨[98], false, [50]⟩]
theorem ms39_good : goodMs leastC [⟨[97], []⟩] ms39 := fun i o hi => by
  have : i = 0 ∨ i = 1 := by
    have := (List.getElem?_eq_some_iff.1 hi).1
    have h2 : ms39.length = 2 := rfl
    omega
  rcases this with rfl | rfl
  · cases hi; exact ⟨by decide, by decide, by decide, by decide⟩
  · cases hi; exact ⟨by decide, by decide, by decide, by decide⟩
theorem c_batch_Len' {B b : Nat} {L : List Msg} (k : BaV B h b L) (hl : L.length ≤ 2 ^ 30) (r : ∀ h', Ext h h' → K (int L.length) h') : Ca f_batch_Batch_Len #[ptr b 0] h K := by
  obtain ⟨hb, v, kb, sv⟩ := k
  refine m_batch_Batch_Len_ok (m_batch_Batch_Msgs_ok (eq_ptr_nil (by kernel_rfl) ?_))
  show CdP (.bool false) _ _
  rw [CdP_false]
  exact fl (v := v) (by rw [kb.get]; rfl) (c_Clone_Msg sv (by omega) fun v h1 o1 e1 => (o1.sl (U := No) fun _ _ h => h).len (r h1 e1))
theorem c_law39_awake (t : Tz h) (r : ∀ h', Ext h h' → K (.bool true) h') : Ca f_law39_awake #[] h K := by
  refine m_law39_awake_ok ?_
  refine ⟨_, leastC.cs.toArray, rfl, by kernel_rfl, ?_⟩
  refine ⟨_, #[int 1, str [97], str [], int 0], rfl, by kernel_rfl, ?_⟩
  refine bs (n0 := h.size) (e := t_api_Op) (zs := #[int 0, str [], str [], int 0]) ops39 rfl (Nat.le_refl _) rfl (by decide) (cs := #[int 1, str [97], str [], int 0]) (by kernel_rfl) rfl fun v2 h2 o2 e2 => ?_
  refine c_law34_Stored (c := leastC) (L := ops39) least_light least_ok (by decide) (by decide) (t.ext e2) (o2.sl (U := No) fun _ _ h => h) (by decide) ops39_good fun l3 q h3 y k3 z3 e3 hq => ?_
  have hlen : ops39.length = 1 := rfl
  have hps : psOf ops39 1 = [⟨[97], []⟩] := by decide
  rw [hlen, hps] at k3
  rw [ex20, ex21]
  refine c_batch_New (lab := l3) fun l4 b h4 a4 b4 e4 hb => ?_
  refine eq_ptr_nil (by kernel_rfl) ?_
  show CdP (.bool false) _ _
  rw [CdP_false]
  refine eq_ptr_nil (by kernel_rfl) ?_
  unfold m_law39_awake_j19
  show CdP (.bool false) _ _
  rw [CdP_false]
  unfold m_law39_awake_j20
  have e03 := e2.trans e3
  have e04 := e03.trans e4
  have hl2 := e2.le
  have hl3 := e03.le
  have hl04 := e04.le
  have z3' : ∀ x, x < h.size → l3 x = 0 := fun x hx => z3 x (by omega)
  have z4 : ∀ x, x < h.size → l4 x = 0 := fun x hx => (a4 x (by omega)).trans (z3' x hx)
  have k4 := (k3.lat a4).ext e4
  have stepE : ∀ {l : Nat → Nat} {ha hb : Heap}, l b = 61 → (∀ x, x < h.size → l x = 0) → Ext h ha → Ex (fun x => x = b) ha hb → Ext h hb := fun h61 hz ea eb => ea.andThen eb fun x hx he => by subst he; have := hz x hx; omega
  refine c_batch_Put (key := [97]) (val := [49]) b4 (by decide) fun l5 h5 a5 b5 e5 => ?_
  have e5' : Ex (Lb l4 61 61) h4 h5 := one_lb e5 ⟨by rw [b4.l61]; decide, by rw [b4.l61]; decide⟩
  have k5 := (k4.lat a5).ex16 (a5.fw e5') (by decide)
  have e05 := stepE b4.l61 z4 e04 e5
  have hl45 := e5.le
  have z5 : ∀ x, x < h.size → l5 x = 0 := fun x hx => (a5 x (by omega)).trans (z4 x hx)
  refine c_batch_Delete (key := [97]) b5 (by decide) fun l6 h6 a6 b6 e6 => ?_
  have e6' : Ex (Lb l5 61 61) h5 h6 := one_lb e6 ⟨by rw [b5.l61]; decide, by rw [b5.l61]; decide⟩
  have k6 := (k5.lat a6).ex16 (a6.fw e6') (by decide)
  have e06 := stepE b5.l61 z5 e05 e6
  have hl56 := e6.le
  have z6 : ∀ x, x < h.size → l6 x = 0 := fun x hx => (a6 x (by omega)).trans (z5 x hx)
  refine c_batch_Put (key := [98]) (val := [50]) b6 (by decide) fun l7 h7 a7 b7 e7 => ?_
  have e7' : Ex (Lb l6 61 61) h6 h7 := one_lb e7 ⟨by rw [b6.l61]; decide, by rw [b6.l61]; decide⟩
  have k7 := (k6.lat a7).ex16 (a7.fw e7') (by decide)
  have e07 := stepE b6.l61 z6 e06 e7
  have hl67 := e7.le
  have z7 : ∀ x, x < h.size → l7 x = 0 := fun x hx => (a7 x (by omega)).trans (z6 x hx)
  have hms : putM (putM (putM [] ⟨[97], false, [49]⟩) ⟨[97], true, []⟩) ⟨[98], false, [50]⟩ = ms39 := by decide
  rw [hms] at b7
  have tl := t.lt
  refine c_batch_Apply least_right (by decide) (t.ext e07) (z7 gTab tl) b7 k7 (by decide) (by decide) ms39_good fun l8 q8 h8 B k8 kx8 b8 hB z8 hq8 e8 => ?_
  have hp8 : psM [⟨[97], []⟩] ms39 ms39.length = [⟨[98], [50]⟩] := by decide
  rw [hp8] at k8
  rw [ex20, ex21]
  have e08 := Ex.lab0 e07 e8 (by decide) z7
  have hl07 := e07.le
  have hl78 := e8.le
  refine c_squeeze_Pairs k8 (by unfold Asc; simp) (by decide) (by decide) (by decide) (by decide) fun l9 h9 v9 a9 k9 o9 z9 e9 => ?_
  rw [ex20, ex21]
  have hB8 : B ≤ h8.size := by have := k8.lt; omega
  have b9 : BaV B h9 b ms39 := b8.ex e9 fun y hy => nLb (z8 y hy) (by decide)
  have e09 : Ext h h9 := e08.andThen e9 fun y hy => nLb (z8 y (by omega)) (by decide)
  refine c_batch_Len' b9 (by decide) fun h10 e10 => ?_
  rw [BiP_eql]
  refine cdp (fun _ => ?_) fun h => absurd rfl h
  rw [BiP_eql]
  refine cdp (fun _ => ?_) fun h => absurd rfl h
  rw [BiP_eql]
  refine cdp (fun _ => ?_) fun h => absurd rfl h
  have s9 : Sl No h10 v9 [(⟨[98], [50]⟩ : Pair)] := (o9.sl (U := No) fun _ _ h => h).ext e10
  refine s9.len ?_
  rw [BiP_eql]
  refine cdp (fun _ => ?_) fun h => absurd rfl h
  refine s9.ef (f := 0) (w := str [98]) (x := ⟨[98], [50]⟩) (by decide) rfl rfl ?_
  show BiP .eql (str [98]) (str [98]) _
  rw [BiP_seql]
  refine cdp (fun _ => ?_) fun h => absurd rfl h
  refine s9.ef (f := 1) (w := str [50]) (x := ⟨[98], [50]⟩) (by decide) rfl rfl ?_
  show BiP .eql (str [50]) (str [50]) _
  rw [BiP_seql]
  exact r h10 (e09.trans e10)
theorem c_law39_BatchNobody (t : Tz h) (r : ∀ h', Ext h h' → K (.bool true) h') : Ca f_law39_BatchNobody #[str key, str val] h K := by
  refine m_law39_BatchNobody_ok (c_batch_Put_nil fun h1 e1 => c_batch_Delete_nil fun h2 e2 => c_batch_Get_nil ?_)
  have e02 := e1.trans e2
  rw [ex30, ex31, ex32]
  show BiP .neq (str []) (str []) _
  rw [BiP_sneq]
  refine cdp (fun h => absurd rfl h) fun _ => ?_
  rw [CdP_false, CdP_false]
  refine c_batch_Len_nil ?_
  rw [BiP_neq]
  refine cdp (fun h => absurd rfl h) fun _ => ?_
  refine c_batch_Msgs_nil ?_
  rw [LenP_slice, BiP_neq]
  refine cdp (fun h => absurd rfl h) fun _ => ?_
  refine ⟨_, Config.zero.cs.toArray, rfl, by kernel_rfl, ?_⟩
  refine c_batch_Right_nil (c := .zero) fun h3 e3 => ?_
  unfold m_law39_BatchNobody_j43
  rw [CdP_false]
  unfold m_law39_BatchNobody_j44
  have e03 := e02.trans e3
  refine ⟨_, leastC.cs.toArray, rfl, by kernel_rfl, ?_⟩
  refine c_law34_Stored (c := leastC) (L := []) least_light least_ok (by decide) (by decide) (t.ext e03) (Sl.nil No h3) (by decide) (fun i o hi => by simp at hi) fun l4 q h4 y k4 z4 e4 hq => ?_
  rw [ex20, ex21]
  refine c_batch_New (lab := l4) fun l5 b h5 a5 b5 e5 hb => ?_
  refine eq_ptr_nil (by kernel_rfl) ?_
  show CdP (.bool false) _ _
  rw [CdP_false]
  refine eq_ptr_nil (by kernel_rfl) ?_
  unfold m_law39_BatchNobody_j60
  show CdP (.bool false) _ _
  rw [CdP_false]
  unfold m_law39_BatchNobody_j61
  refine c_batch_Apply_nil ?_
  rw [ex20, ex21]
  refine c_batch_Apply_nob (.inl rfl) fun h6 n6 e6' => ?_
  have e6 : Ext h5 h6 := e6'.mono fun y _ hy => by cases hy
  rw [ex20, ex21]
  refine ⟨_, kz.toArray, rfl, by kernel_rfl, ?_⟩
  refine bxa (cs := kz) fun b7 h7 e7 hb7 k7 _ => ?_
  refine c_batch_Apply_nob (.inr ⟨b7, rfl, k7⟩) fun h8 n8 e8' => ?_
  have hl03 := e03.le
  have hl4 := e4.le
  have hl5 := e5.le
  have hl6 := e6.le
  have hl7 := e7.le
  have e8 : Ex (fun y => y = b7) h7 h8 := e8'.mono fun y _ hy => by
    have : ptr b7 0 = ptr y 0 := hy
    simpa using this.symm
  rw [ex20, ex21]
  let l7 := loc l5 h5 b7
  have a7 : Lat l5 l7 h5 := loc_lat l5 (by omega)
  have q7 : l7 b7 = 99 := loc_at
  have e57 := e6.trans e7
  have k57 := (((k4.lat a5).ext e5).lat a7).ext e57
  have e8' : Ex (Lb l7 99 99) h7 h8 := one_lb e8 ⟨by rw [q7]; decide, by rw [q7]; decide⟩
  have k8 := k57.ex16 e8' (by decide)
  have e05 := (e03.trans e4).trans e5
  have e07 := e05.trans e57
  have e08 : Ext h h8 := e07.andThen e8 fun y hy he => by omega
  have z7 : ∀ x, x < h.size → l7 x = 0 := fun x hx => by rw [a7 x (by omega), a5 x (by omega)]; exact z4 x (by omega)
  refine c_kv_Close k8 (by decide) fun x h9 root D k9 _ _ _ e9 => ?_
  have e09 := Ex.lab0 e08 e9 (by decide) z7
  refine c_batch_Apply_closed k9 fun h10 k10 e10 => ?_
  have e010 : Ext h h10 := e09.andThen e10 fun y hy he => by omega
  rw [ex20, ex21]
  refine eq_ptr_nil (by kernel_rfl) ?_
  show CdP (.bool true) _ _
  rw [CdP_true, BiP_eql]
  refine cdp (fun _ => ?_) fun h => absurd rfl h
  refine eq_ptr_nil (by kernel_rfl) ?_
  show CdP (.bool true) _ _
  rw [CdP_true, BiP_eql]
  refine cdp (fun _ => ?_) fun h => absurd rfl h
  refine eq_ptr_nil (by kernel_rfl) ?_
  show CdP (.bool true) _ _
  rw [CdP_true, BiP_eql]
  refine cdp (fun _ => ?_) fun h => absurd rfl h
  refine eq_ptr_nil (by kernel_rfl) ?_
  show CdP (.bool true) _ _
  rw [CdP_true, BiP_eql]
  refine cdp (fun _ => ?_) fun h => absurd rfl h
  refine c_law39_awake (t.ext e010) fun h11 e11 => ?_
  unfold m_law39_BatchNobody_j142
  exact r h11 (e010.trans e11)
end
end Go.Sg
namespace Go.Proofs.YtfdephgpijheoaaGreatDoor
open Go Vc Go.ChangeMaps Go.ChangeShapes Go.WideShapes Go.ChangeAt Go.RowKit Go.Sg
theorem own : ownKnob Tryz.prog.godebug = none := by kernel_rfl
theorem gTabNamed : Tryz.prog.globalNamed "math/bits.deBruijn64tab" = some gTab := by kernel_rfl
theorem gTabType : (Tryz.prog.globals[gTab]?).map (·.type) = some t_A64_uint8 := by kernel_rfl
theorem laid_tab {H : Type} : (Rows.laid_math_bits_deBruijn64tab : DataW H) = .agg (tzTab.map fun (v : Nat) => .lit (.int .u8 (v : Int))) := by rfl
theorem tz_of_laid {W : World} (h : laidMetH Tryz.prog Rows.batchNobodyRow.laid W) : Tz W.heap := by
  rw [MakeChecks.laidMetH_plain _ _ _ (by kernel_rfl)] at h
  obtain ⟨ps, ⟨g0, t0, cs0, f0, p0, q0, hg0, ht0, hv0, hd0, _, _⟩, _, _⟩ := h
  obtain rfl := Option.some.inj (gTabNamed.symm.trans hg0)
  obtain rfl := Option.some.inj (gTabType.symm.trans ht0)
  have hu : Tryz.prog.underlying t_A64_uint8 = some (.array 64 t_uint8) := by kernel_rfl
  have hu8 : Tryz.prog.underlying t_uint8 = some (.int .u8) := by kernel_rfl
  have c8 : Tryz.prog.cellsOf t_uint8 = 1 := by kernel_rfl
  obtain ⟨xs, m, rfl, hx, hlen, hn, hel⟩ := DataW.trod_array hu hd0
  simp only [Prod.mk.injEq] at hx
  have hx1 : (.agg (tzTab.map fun (v : Nat) => .lit (.int .u8 (v : Int))) : DataW Unit) = .agg (xs.map (·.1)) := laid_tab.symm.trans hx.1
  simp only [DataW.agg.injEq] at hx1
  have hat : ∀ (j v : Nat), tzTab[j]? = some v → hget W.heap gTab j = some (.int .u8 (v : Int)) := fun j v hj => by
    have hj64 : j < 64 := (List.getElem?_eq_some_iff.1 hj).1
    have h1 := hel j hj64
    rw [c8, Nat.mul_one] at h1
    have hxj : xs[j]? = some (xs[j]'(by omega)) := List.getElem?_eq_getElem (by omega)
    rw [hxj] at h1
    obtain ⟨n, hc, he, hw⟩ := DataW.trod_int hu8 h1
    have h2 : (xs.map (·.1))[j]? = some (.lit (.int .u8 (v : Int))) := by rw [← hx1, List.getElem?_map, hj]; rfl
    rw [List.getElem?_map, hxj, he] at h2
    simp only [Option.map_some, Option.some.injEq, DataW.lit.injEq, Lit.int.injEq, true_and] at h2
    subst h2
    have h3 : cs0[j]? = some (.int .u8 (v : Int)) := by
      have := congrArg List.head? hc
      rw [List.head?_take, if_neg (by decide), List.head?_drop] at this
      simpa using this
    have h4 := World.var?_cell hg0 hv0 j
    rw [h3] at h4
    rw [← Vc.cell_hget]; exact h4
  have hlt : gTab < W.heap.size := by
    have := hat 0 0 rfl
    unfold hget at this
    cases hq : W.heap[gTab]? with
    | none => rw [hq] at this; cases this
    | some o => exact (Array.getElem?_eq_some_iff.1 hq).1
  exact ⟨hlt, hat⟩
theorem keptBut_ext {W W' : World} {may : MemPlace → Prop} (hk : Kin W W') (hx : Ext W.heap W'.heap) : W.keptBut W' may :=
  ⟨hk.os, hk.output, fun i hi => by rw [hx.eq i hi id]; exact (World.keptBut_refl W may).2.2 i hi⟩
noncomputable def laidWorld (os : Os) : World :=
  let w0 := World.holding Tryz.prog os ⟨#[], #[], []⟩
  { w0 with heap := w0.heap.modify gTab fun
      | .cells _ t frozen => .cells (tzTab.map fun (v : Nat) => Value.int .u8 (v : Int)).toArray t frozen
      | o => o }
theorem laidWorld_met (os : Os) (args : Array Value) : laidMetH Tryz.prog Rows.batchNobodyRow.laid ((laidWorld os).forCall (fun _ _ => 0) ⟨#[], args, []⟩).memory := by
  rw [MakeChecks.laidMetH_plain _ _ _ (by kernel_rfl)]
  exact laidMet_of_run' 8 (by kernel_rfl) (by kernel_rfl)
set_option maxRecDepth 100000 in
theorem lifted (os : Os) (started : os.Started) (H : Type) (enc : TypeId × Value → H) :
    ReturnsInHanded {} Tryz.checked os 4 .any (fun w args => (Rows.batchNobodySpec.pre enc Tryz.prog Tryz.f4 [] false w args ∧ laidMetH Tryz.prog Rows.batchNobodyRow.laid w) ∧ sizedMet enc Tryz.prog Tryz.f4 (OpenSpec.ofChange Rows.batchNobodySpec) false w args)
      (Rows.batchNobodySpec.post enc Tryz.prog Tryz.f4 false true false false) := by
  refine returnsInHanded_of_change_and (C := Tryz.checked) (X := fun w _ => laidMetH Tryz.prog Rows.batchNobodyRow.laid w) (fun _ _ _ hh h => h.of_heap hh) own started (by kernel_rfl) Tryz.func4
    (ChangeSpec.witness_at (enc := enc) (C := Tryz.checked) (os := os) (X := fun w _ => laidMetH Tryz.prog Rows.batchNobodyRow.laid w) false (laidWorld os) #[.string ⟨#[]⟩, .string ⟨#[]⟩] 8 rfl (by kernel_rfl) (by kernel_rfl) (by kernel_rfl) (by kernel_rfl) (by kernel_rfl) (laidWorld_met os _)) ?_
  intro W base args ds gs before hval0 hW _ _ hL _
  have hval : ∀ (j : Nat) t v, Tryz.f4.params[j]? = some t → args[j]? = some v → Value.okWide Tryz.prog W .any base t v := hval0
  have hW' := hW
  obtain ⟨p, q, hA0, hV, rfl, hfz, hnd⟩ := hW
  have hA : DataW.TrodAll enc Tryz.prog W 0 (fun _ => true) true Tryz.f4.params.toList args.toList ds p := hA0
  rw [Tryz.params4] at hA hval
  obtain ⟨v0, v1, d0, d1, p0, p1, rfl, rfl, rfl, h0, h1⟩ := trodAll_two hA
  obtain ⟨rfl, rfl⟩ := trodVars_none hV
  obtain ⟨lo, rfl, rfl, rfl, w0⟩ := open_string (t := 9) (by kernel_rfl) (hval 0 9 v0 rfl rfl) h0
  obtain ⟨hi, rfl, rfl, rfl, w1⟩ := open_string (t := 9) (by kernel_rfl) (hval 1 9 v1 rfl rfl) h1
  have tz := tz_of_laid hL
  obtain ⟨⟨lo⟩⟩ := lo
  obtain ⟨⟨hi⟩⟩ := hi
  clear hA0 hval0
  have law := c_law39_BatchNobody (K := fun v h => v = .bool true ∧ Ext W.heap h) (key := lo) (val := hi) tz (fun h' e => ⟨rfl, e⟩) W rfl
  refine Calls.mono law fun e W' he => ?_
  obtain ⟨v, rfl, hk, rfl, hx⟩ := he
  refine ⟨_, rfl, _, _, _, [], [], [], hW', ?_, ?_, ?_, ?_, fun h => by cases h⟩
  · exact trodAll_mk1 (shut_bool Tryz.underlying4 true)
  · exact trodAll_mk2 (shut_string (by kernel_rfl) w0) (shut_string (by kernel_rfl) w1)
  · rfl
  · exact keptBut_ext hk hx
theorem jf0 : Rows.batchNobodyRow.wf (OpenSpec.ofChange Rows.batchNobodySpec) = true := by kernel_rfl
theorem jf1 : laidOutB Tryz.prog = true := by kernel_rfl
theorem jf2 : mapsRowed Tryz.prog = true := by kernel_rfl
theorem jf3 : Tryz.f4.params.all (Tryz.prog.readableRec ·) = true := by kernel_rfl
theorem jf4 : namedTie Tryz.prog Rows.batchNobodyRow.named Rows.batchNobodySpec.vars = true := by kernel_rfl
theorem jf5 : (Rows.batchNobodyRow.stops == []) = true := by kernel_rfl
theorem jf6 : (Tryz.prog.stops == []) = true := by kernel_rfl
theorem jf7 : (Rows.batchNobodyRow.knobs == []) = true := by kernel_rfl
theorem jf8 : (Tryz.prog.stopKnobs == []) = true := by kernel_rfl
theorem jf9 : (Rows.batchNobodyRow.inPlace == Tryz.prog.inPlace 4) = true := by kernel_rfl
theorem jf10 : (Rows.batchNobodyRow.unfollowed == Tryz.prog.unfollowed 4) = true := by kernel_rfl
theorem jf11 : (Rows.batchNobodyRow.recurses == Tryz.prog.recurses 4) = true := by kernel_rfl
theorem jf12 : (Rows.batchNobodyRow.named == Tryz.prog.varsNamed 4) = true := by kernel_rfl
theorem jf13 : (Rows.batchNobodyRow.maps == (Tryz.f4.params.toList ++ Rows.batchNobodySpec.plain.varTypes Tryz.prog).any (Tryz.prog.mapsRec ·)) = true := by kernel_rfl
theorem jf14 : (Rows.batchNobodyRow.ifaces == (Tryz.f4.params.toList ++ Rows.batchNobodySpec.plain.varTypes Tryz.prog).any (Tryz.prog.ifacesRec ·)) = true := by kernel_rfl
theorem jf15 : (Rows.batchNobodyRow.mapsOut == Tryz.prog.mapsAmong Tryz.f4.resultTypes.toList) = true := by kernel_rfl
theorem jf16 : (Rows.batchNobodyRow.loops == (Tryz.f4.params.toList ++ Rows.batchNobodySpec.plain.varTypes Tryz.prog).any (Tryz.prog.loopsFrom ·)) = true := by kernel_rfl
theorem jf17 : (Rows.batchNobodyRow.wideKeys == (Tryz.f4.params.toList ++ Rows.batchNobodySpec.plain.varTypes Tryz.prog ++ Tryz.f4.resultTypes.toList).any (Tryz.prog.wideKeysFrom ·)) = true := by kernel_rfl
theorem jf18 : Rows.batchNobodySpec.vars.all (Tryz.prog.varReadable ·) = true := by kernel_rfl
theorem jf19 : Tryz.f4.resultTypes.all (fun t => Tryz.prog.readableRec t && decide (t < Tryz.prog.types.size)) = true := by kernel_rfl
theorem jf20 : (Rows.batchNobodyRow.ifacesOut == Tryz.f4.resultTypes.toList.any (Tryz.prog.ifacesRec ·)) = true := by kernel_rfl
theorem jf21 : (Rows.batchNobodyRow.loopsOut == Tryz.f4.resultTypes.toList.any (Tryz.prog.loopsFrom ·)) = true := by kernel_rfl
theorem jf22 : (Rows.batchNobodyRow.plainKeys == Tryz.prog.plainKeys) = true := by kernel_rfl
theorem jf23 : Rows.batchNobodyRow.shortTexts.isNone = true := by kernel_rfl
theorem jf24 : Tryz.prog.stopsHeard = true := by kernel_rfl
theorem jf25 : Tryz.prog.mayEnter = true := by kernel_rfl
theorem jf26 : (Rows.batchNobodyRow.lifted == Tryz.prog.liftsFinal) = true := by kernel_rfl
theorem jf27 : (Tryz.prog.make == some Rows.batchNobodyRow.make) = true := by kernel_rfl
theorem jf29 : (Rows.batchNobodyRow.pinned == Rows.batchNobodyRow.pinnedBy) = true := by kernel_rfl
theorem jf30 : (Rows.batchNobodyRow.veiled == (Tryz.f4.params.toList ++ Rows.batchNobodySpec.plain.varTypes Tryz.prog ++ Tryz.f4.resultTypes.toList).any (Tryz.prog.veiledRec ·)) = true := by kernel_rfl
theorem jf31 : Rows.batchNobodyRow.veiledFits Tryz.prog Tryz.f4.params.toList (Tryz.f4.params.toList ++ Rows.batchNobodySpec.plain.varTypes Tryz.prog ++ Tryz.f4.resultTypes.toList) = true := by kernel_rfl
theorem band {a b : Bool} (h : a = true) (k : b = true) : (a && b) = true := by rw [h, k]; rfl
theorem closed : joinedFacts Tryz.prog 4 Tryz.f4 Rows.batchNobodySpec Rows.batchNobodyRow = true :=
  band (band (band (band (band (band (band (band (band (band (band (band (band (band (band (band (band (band (band (band (band (band (band (band (band (band (band (band (band (band (band jf0 jf1) jf2) jf3) jf4) jf5) jf6) jf7) jf8) jf9) jf10) jf11) jf12) jf13) jf14) jf15) jf16) jf17) jf18) jf19) jf20) jf21) jf22) jf23) jf24) jf25) jf26) jf27) (by kernel_rfl)) jf29) jf30) jf31
theorem kw : Rows.batchNobodyRow.wfByText (OpenSpec.ofChange Rows.batchNobodySpec) = true := by kernel_rfl
theorem km : Tryz.prog.mainIs = some (true, "b930a49a48f7ea69164dfd424c24a42e9db92b0e4bb5fef919311b0f8a37c905".toList) := by kernel_rfl
theorem kl : true = Tryz.prog.looks [] := by kernel_rfl
theorem kg : false = Rows.batchNobodyRow.goesBy Tryz.prog := by kernel_rfl
theorem kn : Tryz.prog.funcNamed "sluicegate/sluicegatelaw39.BatchNobody" = some 4 := by kernel_rfl
theorem ks9 : Tryz.prog.wantsStandIn 9 = false := by kernel_rfl
theorem row_holds : Rows.BatchNobodySaid :=
  OpenClaim.holds_of_wide 4 Tryz.f4 rfl rfl rfl rfl rfl rfl rfl ⟨rfl, rfl, rfl, rfl, rfl⟩ rfl rfl rfl rfl rfl kn Tryz.func4 closed
    (of_decide_eq_true (by kernel_rfl)) (by unfold Func.isWrapper; first | (rw [if_pos (by decide +kernel)]; kernel_rfl) | (rw [if_neg (by decide +kernel)]; exact ⟨rfl, rfl⟩))
    (fun os started H enc _ => lifted os started H enc)
theorem stands (j : Nat) (t : TypeId) (ht : Tryz.f4.params[j]? = some t) : Tryz.prog.wantsStandIn t = false := by
  rw [Tryz.params4] at ht
  rcases j with _ | _ | j
  · obtain rfl : 9 = t := by simpa using ht
    exact ks9
  · obtain rfl : 9 = t := by simpa using ht
    exact ks9
  · simp at ht
theorem batchNobody_holds : Rows.BatchNobodyCardSaid :=
  Claim7.holds_tied_plain_at .later [] [.data] true (true, "b930a49a48f7ea69164dfd424c24a42e9db92b0e4bb5fef919311b0f8a37c905") true
    row_holds (fun _ h => by cases h) kw (fun _ h => by cases h) batchNobody_row_tie rfl ⟨rfl, rfl⟩ km rfl
    (fun f fn hf hfn => by
      obtain rfl : f = 4 := Option.some.inj (kn.symm.trans hf) |>.symm
      obtain rfl : fn = Tryz.f4 := (Option.some.inj (Tryz.func4.symm.trans hfn)).symm
      exact ⟨kl, stands⟩)
    kg
#print axioms batchNobody_holds
end Go.Proofs.YtfdephgpijheoaaGreatDoor
