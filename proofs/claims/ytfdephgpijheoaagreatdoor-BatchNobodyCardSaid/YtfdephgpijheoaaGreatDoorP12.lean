/-
  Part 12 of a proof: own texts, merged by program.
-/
import Derived.Shelf.SlIterI.Collect
import Derived.Test.YtfdephgpijheoaaGreatDoorP11
set_option linter.unusedVariables false
set_option linter.unusedSimpArgs false
namespace Go.Sg
open Go Vc
def kpin (kept i : Nat) : Nat := if i = kept ∧ i ≠ 0 then 1 else 0
structure ShC (lab : Nat → Nat) (h : Heap) (sp : Nat) (c : Config) (cp dp o g p : Nat) (S : Nat → Bool) (kept : Nat) : Prop where
  blk : Blk h sp (c.cs ++ [ptr dp 0, ptr cp 0, ptr o 0, .int .u32 kept])
  pol : Pol o g p h c.blocks.toNat S
  l9 : lab sp = 9
  l10 : lab o = 10
  l11 : lab p = 11
  l12 : lab g = 12
  lt : lab gTab = 0
structure ShS (lab : Nat → Nat) (h : Heap) (sp dp : Nat) (c : Config) (D : List (List UInt8)) (V : Nat → List UInt8) (S : Nat → Bool) (kept : Nat) (rd wr : BitVec 64) : Prop where
  right : c.Right
  dl : D.length = c.blocks.toNat
  kl : kept < c.blocks.toNat
  out : ∃ cp o g p, ShC lab h sp c cp dp o g p S kept ∧ CaS lab h cp dp c.frames.toNat c.bytes.toNat D V (kpin kept) rd wr
section
variable {lab lab' : Nat → Nat} {h h' : Heap} {sp cp dp o g p kept i : Nat} {c : Config} {D D' : List (List UInt8)} {V : Nat → List UInt8} {P : Nat → Nat} {S : Nat → Bool} {rd wr rd' wr' : BitVec 64} {K : Kt} {n : Node}
theorem ShC.ex {lo hi : Nat} (k : ShC lab h sp c cp dp o g p S kept) (e : Ex (Lb lab lo hi) h h') (h8 : hi ≤ 8 ∨ 13 ≤ lo) (h0 : 0 < lo) (a : Lat lab lab' h) : ShC lab' h' sp c cp dp o g p S kept := by
  have r := k.pol.row.lt
  have ot := k.pol.blk.lt
  have tt := k.pol.tz.lt
  exact ⟨k.blk.ex e (nLb k.l9 (by omega)), k.pol.ex e (nLb k.l10 (by omega)) (nLb k.l11 (by omega)) (nLb k.l12 (by omega)) (nLb k.lt (by omega)), (a _ k.blk.lt).trans k.l9, (a _ ot).trans k.l10, (a _ r.1).trans k.l11, (a _ r.2).trans k.l12, (a _ tt).trans k.lt⟩
def loc (lab : Nat → Nat) (h : Heap) (b : Nat) : Nat → Nat := upd (frl lab h) b 99
theorem loc_lat {b : Nat} (lab : Nat → Nat) (hb : h.size ≤ b) : Lat lab (loc lab h b) h := fun x hx => (upd_ne (by omega)).trans (frl_lat lab h x hx)
theorem loc_at {b : Nat} : loc lab h b b = 99 := upd_same
theorem ShC.ext (k : ShC lab h sp c cp dp o g p S kept) (e : Ext h h') : ShC lab h' sp c cp dp o g p S kept :=
  k.ex (lo := 1) (hi := 1) e.toM (.inl (by decide)) (by decide) (Lat.refl _ _)
theorem Lat.fw {lo hi : Nat} (a : Lat lab lab' h) (e : Ex (Lb lab lo hi) h h') : Ex (Lb lab' lo hi) h h' :=
  e.mono fun x hx y => by show lo ≤ lab' x ∧ lab' x ≤ hi; rw [a x hx]; exact y
theorem Cok.ex9 {s : CSt} {nf m : Nat} (k : Cok lab h s nf m D rd wr) {lo hi : Nat} (e : Ex (Lb lab lo hi) h h') (h9 : 9 ≤ lo) : Cok lab h' s nf m D rd wr :=
  ⟨k.blk.ex e (nLb k.l1 (by omega)), k.dev.ex e (nLb k.l6 (by omega)) (nLb k.l7 (by omega)), k.fr.ex e (nLb k.l2 (by omega)), k.fl, k.f64, by
    obtain ⟨es, cl, q1, q2⟩ := k.mp; exact ⟨es, cl, e.get q1 (nLb k.l3 (by omega)), q2⟩, k.em.exb e (fun b hb => nLb (k.l8 b hb) (by omega)),
    k.row.ex e (nLb k.l4 (by omega)) (nLb k.l5 (by omega)), k.l1, k.l2, k.l3, k.l4, k.l5, k.l6, k.l7, k.l8⟩
theorem CaS.ex {nf m : Nat} (k : CaS lab h cp dp nf m D V P rd wr) {lo hi : Nat} (e : Ex (Lb lab lo hi) h h') (h9 : 9 ≤ lo) (a : Lat lab lab' h) : CaS lab' h' cp dp nf m D V P rd wr := by
  obtain ⟨s, E, q1, q2, q3, q4, q5⟩ := k.out
  exact ⟨s, E, q1, q2, (q3.lat a).ex9 (a.fw e) h9, q4.ex e (by omega) a, q5⟩
theorem CaS.ext {nf m : Nat} (k : CaS lab h cp dp nf m D V P rd wr) (e : Ext h h') : CaS lab h' cp dp nf m D V P rd wr := k.ex (lo := 9) (hi := 9) e.toM (by decide) (Lat.refl _ _)
theorem CaS.pin {nf m : Nat} {P' : Nat → Nat} (k : CaS lab h cp dp nf m D V P rd wr) (e : ∀ j, P' j = P j) : CaS lab h cp dp nf m D V P' rd wr := by
  have : P' = P := funext e
  rw [this]; exact k
theorem blocks_eq (hr : c.Right) : c.blocks = (c.blocks.toNat : Int) ∧ c.bytes = (c.bytes.toNat : Int) ∧ c.frames = (c.frames.toNat : Int) ∧ 5 ≤ c.blocks.toNat ∧ c.blocks.toNat ≤ 65536 ∧ 8 ≤ c.frames.toNat ∧ c.frames.toNat ≤ 64 := by
  have h1 := hr.2.1
  have h2 := hr.2.2.1
  have h3 := hr.2.2.2.1
  have h4 := hr.2.2.2.2.1
  have h5 := hr.2.2.2.2.2.2
  unfold Config.leastBytes at h5
  omega
theorem c_shelf_made (k : ShC lab h sp c cp dp o g p S kept) (r : K (int 0) h) : Ca f_shelf_Shelf_made #[ptr sp 0] h K := by
  refine m_shelf_Shelf_made_ok (eq_ptr_nil (by kernel_rfl) (fl (by rw [k.blk.get]; rfl) ?_))
  refine eq_ptr_nil (by kernel_rfl) ?_
  exact r
theorem c_shelf_there (k : ShC lab h sp c cp dp o g p S kept) (hr : c.Right) (h0 : 0 < i) (hi : i < c.blocks.toNat) (r : K (int 0) h) : Ca f_shelf_Shelf_there #[ptr sp 0, .int .u32 i] h K := by
  have hb := blocks_eq hr
  refine m_shelf_Shelf_there_ok (eq_ptr_nil (by kernel_rfl) (fl (by rw [k.blk.get]; rfl) ?_))
  refine eq_ptr_nil (by kernel_rfl) ?_
  unfold m_shelf_Shelf_there_j12
  show BiP .eql (.int .u32 i) (.int .u32 0) _
  rw [BiP_eql]
  refine cdp (fun h => absurd h (by omega)) fun _ => ?_
  rw [CvP_int, wrap64 (by omega) (by omega), NilP_ptr, FaP_ptr]
  refine fv (v := int c.blocks) (by rw [k.blk.get]; rfl) ?_
  rw [BiP_geq]
  unfold m_shelf_Shelf_there_j23
  exact cdp (fun h => absurd h (by omega)) fun _ => r
theorem kpin_bd (kept j : Nat) : kpin kept j ≤ 1 := by unfold kpin; split <;> omega
theorem upd_kpin {Q : Nat → Nat} {i : Nat} : ∀ j, Q j = upd (upd Q i (Q i + 1)) i (upd Q i (Q i + 1) i - 1) j := fun j => by
  by_cases hj : j = i
  · subst hj; rw [upd_same, upd_same]; omega
  · rw [upd_ne hj, upd_ne hj]
theorem ShC.get {f : Nat} {v : Value} (k : ShC lab h sp c cp dp o g p S kept) (hf : (c.cs ++ [ptr dp 0, ptr cp 0, ptr o 0, .int .u32 kept])[f]? = some v) {R : Value → Prop} (r : R v) : Fl f (ptr sp 0) h R := fl (by rw [k.blk.get, Nat.zero_add]; exact hf) r
theorem ShC.cfg (k : ShC lab h sp c cp dp o g p S kept) {R : Value → Prop} (r : R c.v) : Fla 0 8 (ptr sp 0) h R := by
  unfold Fla
  rw [NilP_ptr, FaP_ptr]
  refine LdA_at (cs := c.cs) (fun j v hj => ?_) rfl r
  rw [k.blk.get]
  have hlt := (List.getElem?_eq_some_iff.1 hj).1
  rw [Nat.zero_add, List.getElem?_append_left hlt]; exact hj
theorem ShC.lat (k : ShC lab h sp c cp dp o g p S kept) (a : Lat lab lab' h) : ShC lab' h sp c cp dp o g p S kept := k.ex (lo := 1) (hi := 1) (Ex.refl _ _) (.inl (by decide)) (by decide) a
theorem CaS.lat {nf m : Nat} (k : CaS lab h cp dp nf m D V P rd wr) (a : Lat lab lab' h) : CaS lab' h cp dp nf m D V P rd wr := k.ex (lo := 9) (hi := 9) (Ex.refl _ _) (by decide) a
theorem ShS.lat (k : ShS lab h sp dp c D V S kept rd wr) (a : Lat lab lab' h) : ShS lab' h sp dp c D V S kept rd wr := by
  obtain ⟨hr, hD, hkl, cp, o, g, p, k1, k2⟩ := k
  exact ⟨hr, hD, hkl, cp, o, g, p, k1.lat a, k2.lat a⟩
theorem ShS.ext (k : ShS lab h sp dp c D V S kept rd wr) (e : Ext h h') : ShS lab h' sp dp c D V S kept rd wr := by
  obtain ⟨hr, hD, hkl, cp, o, g, p, k1, k2⟩ := k
  exact ⟨hr, hD, hkl, cp, o, g, p, k1.ext e, k2.ext e⟩
theorem pins_kept (hf : 8 ≤ c.frames.toNat) : ∃ Ps : List Nat, Ps.length < c.frames.toNat ∧ ∀ j, 0 < kpin kept j → j ∈ Ps := by
  refine ⟨[kept], by simp; omega, fun j hj => ?_⟩
  unfold kpin at hj
  split at hj
  · rename_i h; simp [h.1]
  · omega
theorem lbx {x : Nat} (e : Ex (Lb lab 1 8) h h') : Ex (Lb lab 1 12) h h' := Lb.wide e (by decide) (by decide)
theorem c_shelf_Load (k : ShS lab h sp dp c D V S kept rd wr) (h0 : 0 < i) (hi : i < c.blocks.toNat) (hV : V i = leafOf c n) (hn : n.level = 0) (ho : outerOk c allSpan n = true)
    (r : ∀ lab' h' D' rd' wr' v, Lat lab lab' h → ShS lab' h' sp dp c D' V S kept rd' wr' → Nd (Use lab') h' v n → Ex (Lb lab 1 12) h h' → (rd' = rd ∨ rd' = rd + 1) → (wr' = wr ∨ wr' = wr + 1) → K (.tuple #[v, int 0]) h') :
    Ca f_shelf_Shelf_Load #[ptr sp 0, .int .u32 i] h K := by
  have hb := blocks_eq k.right
  have kk := k
  refine m_shelf_Shelf_Load_ok (ala (cs := [int 0, .slice none 0 0, .slice none 0 0, .slice none 0 0, .slice none 0 0]) fun b1 h1 e1 hb1 kb hs1 => ?_)
  have a1 : Lat lab (loc lab h b1) h := loc_lat lab (by omega)
  obtain ⟨hr, hD, hkl, cp, o, g, p, k1, k2⟩ := (k.lat a1).ext e1
  obtain ⟨l1, hl1⟩ : ∃ l1, l1 = loc lab h b1 := ⟨_, rfl⟩
  have q1 : l1 b1 = 99 := by rw [hl1]; exact loc_at
  rw [← hl1] at a1 k1 k2
  refine c_shelf_there k1 hr h0 hi ?_
  rw [BiP_neq]
  refine cdp (fun h => absurd rfl h) fun _ => ?_
  refine k1.get (f := 9) rfl ?_
  refine c_cache_Pin k2 h0 (by omega) (pins_kept hb.2.2.2.2.2.1) (by have := kpin_bd kept i; omega) fun l2 h2 D2 rd2 wr2 a2 hD2 k2 hrd hwr e2 => ?_
  have k1 := k1.ex e2 (.inl (by decide)) (by decide) a2
  have kb := kb.ex e2 (nLb q1 (by decide))
  have hb1l : b1 < h1.size := by omega
  have q2 : l2 b1 = 99 := (a2 b1 hb1l).trans q1
  rw [BiP_neq]
  refine cdp (fun h => absurd rfl h) fun _ => ?_
  refine k1.get (f := 9) rfl ?_
  have a3 := frl_lat l2 h2
  have k1 := k1.lat a3
  have k2 := k2.lat a3
  have hh2 := e2.le
  have q3 : frl l2 h2 b1 = 99 := (a3 b1 (by omega)).trans q2
  refine c_cache_Read k2 (by rw [upd_same]; omega) fun x h3 o3 e3 => ?_
  have k1 := k1.ext e3
  have k2 := k2.ext e3
  have kb := kb.ext e3
  have hh3 := e3.le
  rw [ex20, ex21]
  refine k1.get (f := 9) rfl ?_
  refine c_cache_Unpin k2 (by rw [upd_same]; omega) (by rw [upd_same]; have := kpin_bd kept i; omega) fun h4 k4 e4 => ?_
  have k1 := k1.ex e4 (.inl (by decide)) (by decide) (Lat.refl _ h3)
  have kb := kb.ex e4 (nLb q3 (by decide))
  have k2 := k4.pin (P' := kpin kept) upd_kpin
  have hh4 := e4.le
  rw [BiP_neq]
  refine cdp (fun h => absurd rfl h) fun _ => ?_
  refine k1.cfg ?_
  have sx : Sl No h4 x (leafOf c n) := by
    rw [hV] at o3
    exact (o3.exb e4 fun b hb => nLb (frl_new (o3.block b hb)) (by decide)).sl fun _ _ h => h
  have a5 := frl_lat (frl l2 h2) h4
  have k1 := k1.lat a5
  have k2 := k2.lat a5
  have q5 : frl (frl l2 h2) h4 b1 = 99 := (a5 b1 (by omega)).trans q3
  refine c_code_Decode_leaf sx hr hn ho fun y h5 o5 e5 => ?_
  have k1 := k1.ext e5
  have k2 := k2.ext e5
  have kb := kb.ext e5
  have hh5 := e5.le
  rw [ex20, ex21]
  have hy1 : one' y = true := by rw [one_eq]; exact o5.one
  refine StA_b (vs := [int 0, .slice none 0 0, .slice none 0 0, .slice none 0 0, y]) kb rfl rfl (by
      show (true && (true && (true && (true && (one' y && true))))) = true
      rw [hy1]; rfl) fun h6 _ e6 kb' => ?_
  refine (LdA_b kb' rfl).2 ?_
  have e6' : Ex (Lb (frl (frl l2 h2) h4) 99 99) h5 h6 := one_lb e6 ⟨by rw [q5]; decide, by rw [q5]; decide⟩
  have k1 := k1.ex e6' (.inr (by decide)) (by decide) (Lat.refl _ h5)
  have k2 := k2.ex e6' (by decide) (Lat.refl _ h5)
  have a6 : Lat lab (frl (frl l2 h2) h4) h := ((a1.trans a2 e1.le).trans a3 (by omega)).trans a5 (by omega)
  have hlev : n = ⟨0, [], [], [], n.pairs⟩ := by
    obtain ⟨f1, f2, f3, f4, f5, f6, f7⟩ := outer_fits hr ho
    cases n; simp only at *; subst hn f5 f6 f7; rfl
  refine r _ h6 D2 rd2 wr2 _ a6 ⟨hr, by rw [hD2]; exact hD, hkl, cp, o, g, p, k1, k2⟩ ?_ ?_ hrd hwr
  · rw [hlev]
    refine ⟨_, _, _, _, rfl, Sl.nil _ _, Sl.nil _ _, Sl.nil _ _, ?_⟩
    exact (o5.exb e6 fun b hb hx => by have hx : b = b1 := hx; have := o5.block b hb; omega).sl fun b hb hu => hu (frl_new hb)
  · refine ⟨by have := e1.le; have := e6.le; omega, fun b hb hm => ?_⟩
    have hx : ∀ {l : Nat → Nat}, l b = lab b → ¬ Lb l 1 8 b := fun hl x => hm ⟨by rw [← hl]; exact x.1, by rw [← hl]; have := x.2; omega⟩
    have h1l := e1.le
    rw [e6.eq b (by omega) (by show ¬ b = b1; omega), e5.eq b (by omega) (fun x => x), e4.eq b (by omega) (hx (((a1.trans a2 e1.le).trans a3 (by omega)) b hb)), e3.eq b (by omega) (fun x => x), e2.eq b (by omega) (hx (a1 b hb)), e1.eq b hb (fun x => x)]
end
end Go.Sg
namespace Go.Sg
open Go Vc
section
variable {lab lab' : Nat → Nat} {h h' : Heap} {sp cp dp o g p kept i : Nat} {c : Config} {D D' : List (List UInt8)} {V : Nat → List UInt8} {P : Nat → Nat} {S : Nat → Bool} {rd wr rd' wr' : BitVec 64} {K : Kt} {n : Node} {U : Nat → Prop}
theorem c_shelf_lay (k : ShS lab h sp dp c D V S kept rd wr) (h0 : 0 < i) (hi : i < c.blocks.toNat) {x : Value} {bs : List UInt8} (sx : Sl (Use lab) h x bs) (hl : bs.length = c.bytes.toNat)
    (r : ∀ lab' h' D' wr', Lat lab lab' h → ShS lab' h' sp dp c D' (upd V i bs) S kept rd wr' → Ex (Lb lab 1 8) h h' → (wr' = wr ∨ wr' = wr + 1) → K (int 0) h') :
    Ca f_shelf_Shelf_lay #[ptr sp 0, .int .u32 i, x] h K := by
  have hb := blocks_eq k.right
  obtain ⟨hr, hD, hkl, cp, o, g, p, k1, k2⟩ := k
  refine m_shelf_Shelf_lay_ok (k1.get (f := 11) rfl ?_)
  rw [BiP_eql]
  refine cdp (fun he => ?_) (fun he => ?_)
  · have he : i = kept := by omega
    refine k1.get (f := 9) rfl ?_
    have hp : 0 < kpin kept i := by unfold kpin; rw [if_pos ⟨he, by omega⟩]; omega
    refine c_cache_Write k2 hp sx hl fun l1 h1 a1 k2 e1 => ?_
    exact r l1 h1 D wr a1 ⟨hr, hD, hkl, cp, o, g, p, k1.ex e1 (.inl (by decide)) (by decide) a1, k2⟩ e1 (.inl rfl)
  · have he : i ≠ kept := by omega
    refine k1.get (f := 9) rfl ?_
    have hp : kpin kept i = 0 := by unfold kpin; rw [if_neg (by simp [he])]
    refine c_cache_Fresh k2 h0 (by omega) (pins_kept hb.2.2.2.2.2.1) hp fun l1 h1 D1 wr1 a1 hD1 k2 hwr e1 => ?_
    have k1 := k1.ex e1 (.inl (by decide)) (by decide) a1
    rw [BiP_neq]
    refine cdp (fun h => absurd rfl h) fun _ => ?_
    refine k1.get (f := 9) rfl ?_
    refine c_cache_Write k2 (by rw [upd_same]; decide) (sx.lat e1 (by decide) a1) hl fun l2 h2 a2 k2 e2 => ?_
    have k1 := k1.ex e2 (.inl (by decide)) (by decide) a2
    refine k1.get (f := 9) rfl ?_
    refine c_cache_Unpin k2 (by rw [upd_same]; decide) (by rw [upd_same]; decide) fun h3 k2 e3 => ?_
    have k1 := k1.ex e3 (.inl (by decide)) (by decide) (Lat.refl _ _)
    have hV : upd (upd V i (List.replicate c.bytes.toNat 0)) i bs = upd V i bs := by
      funext j
      by_cases hj : j = i
      · subst hj; rw [upd_same, upd_same]
      · rw [upd_ne hj, upd_ne hj, upd_ne hj]
    rw [hV] at k2
    have a12 := a1.trans a2 e1.le
    have k2 := k2.pin (P' := kpin kept) (fun j => by
      by_cases hj : j = i
      · subst hj; rw [upd_same, upd_same, hp]
      · rw [upd_ne hj, upd_ne hj])
    exact r l2 h3 D1 wr1 a12 ⟨hr, by omega, hkl, cp, o, g, p, k1, k2⟩ (a12.ex (a1.ex e1 e2) e3) hwr
theorem Sl.l0 {α : Type} [El α] {n0 e} {v : Value} {l : List α} (o : Ow n0 e h v l) (hn : ∀ b, n0 ≤ b → lab b = 0) : Sl (Use lab) h v l := o.sl fun b hb hu => hu (hn b hb)
theorem c_shelf_Save (k : ShS lab h sp dp c D V S kept rd wr) (h0 : 0 < i) (hi : i < c.blocks.toNat) {x : Value} (d : Nd U h x n) (hf : n.fits) (hn : n.level = 0) (ho : outerOk c allSpan n = true)
    (r : ∀ lab' h' D' wr', Lat lab lab' h → ShS lab' h' sp dp c D' (upd V i (leafOf c n)) S kept rd wr' → Ex (Lb lab 1 12) h h' → (wr' = wr ∨ wr' = wr + 1) → K (int 0) h') :
    Ca f_shelf_Shelf_Save #[ptr sp 0, .int .u32 i, x] h K := by
  have hb := blocks_eq k.right
  have hdd := d
  obtain ⟨vk, vp, vb, vl, rfl, q1, q2, q3, q4⟩ := d.out
  refine m_shelf_Shelf_Save_ok (bxa (cs := [int n.level, vk, vp, vb, vl]) fun b1 h1 e1 hb1 kb hs1 => ?_)
  have a1 := frl_lat lab h
  have k := (k.lat a1).ext e1
  have kk := k
  obtain ⟨hr, hD, hkl, cp, o, g, p, k1, k2⟩ := k
  refine c_shelf_there k1 hr h0 hi ?_
  rw [BiP_neq]
  refine cdp (fun h => absurd rfl h) fun _ => ?_
  refine k1.cfg ((LdA_b kb rfl).2 ?_)
  refine c_code_Encode_leaf (n := n) (hdd.ext e1) hf hr hn ho fun y h2 o2 e2 => ⟨trivial, ?_⟩
  rw [ex20, ex21, BiP_neq]
  refine cdp (fun h => absurd rfl h) fun _ => ?_
  have sy : Sl (Use (frl lab h)) h2 y (leafOf c n) := Sl.l0 o2 fun b hb => frl_new (by have := e1.le; omega)
  refine c_shelf_lay (kk.ext e2) h0 hi sy (leaf_len hr ho) fun l3 h3 D3 wr3 a3 k3 e3 hwr => ?_
  have e12 := e1.trans e2
  exact r l3 h3 D3 wr3 (a1.trans a3 e12.le) k3 (Lb.wide (a1.ex (Ex.toM e12) e3) (by decide) (by decide)) hwr
theorem c_shelf_Make (k : ShS lab h sp dp c D V S kept rd wr) (hf : cnt c.blocks.toNat S < c.blocks.toNat) (hkS : S kept = true) {x : Value} (d : Nd U h x n) (hfit : n.fits) (hn : n.level = 0) (ho : outerOk c allSpan n = true)
    (r : ∀ i lab' h' D' wr', 0 < i → i < c.blocks.toNat → S i = false → Lat lab lab' h → ShS lab' h' sp dp c D' (upd V i (leafOf c n)) (upd S i true) kept rd wr' → Ex (Lb lab 1 12) h h' → (wr' = wr ∨ wr' = wr + 1) → K (.tuple #[.int .u32 (i : Nat), int 0]) h') :
    Ca f_shelf_Shelf_Make #[ptr sp 0, x] h K := by
  have hb := blocks_eq k.right
  have hdd := d
  obtain ⟨vk, vp, vb, vl, rfl, q1, q2, q3, q4⟩ := d.out
  refine m_shelf_Shelf_Make_ok (bxa (cs := [int n.level, vk, vp, vb, vl]) fun b1 h1 e1 hb1 kb hs1 => ?_)
  have a1 := frl_lat lab h
  have k := (k.lat a1).ext e1
  obtain ⟨hr, hD, hkl, cp, o, g, p, k1, k2⟩ := k
  refine c_shelf_made k1 ?_
  rw [BiP_neq]
  refine cdp (fun h => absurd rfl h) fun _ => ?_
  refine k1.cfg ((LdA_b kb rfl).2 ?_)
  refine c_code_Encode_leaf (n := n) (hdd.ext e1) hfit hr hn ho fun y h2 o2 e2 => ⟨trivial, ?_⟩
  rw [ex20, ex21, BiP_neq]
  refine cdp (fun h => absurd rfl h) fun _ => ?_
  have sy : Sl (Use (frl lab h)) h2 y (leafOf c n) := Sl.l0 o2 fun b hb => frl_new (by have := e1.le; omega)
  have k1 := k1.ext e2
  have k2 := k2.ext e2
  refine k1.get (f := 10) rfl ?_
  refine c_pool_Take k1.pol hf fun i h3 hi1 hi2 hsi p3 e3 => ?_
  have e3' : Ex (Lb (frl lab h) 11 12) h2 h3 := two_lb e3 ⟨by rw [k1.l11]; decide, by rw [k1.l11]; decide⟩ ⟨by rw [k1.l12]; decide, by rw [k1.l12]; decide⟩
  have k3 : ShS (frl lab h) h3 sp dp c D V (upd S i true) kept rd wr :=
    ⟨hr, hD, hkl, cp, o, g, p, ⟨k1.blk.ex e3' (nLb k1.l9 (by decide)), p3, k1.l9, k1.l10, k1.l11, k1.l12, k1.lt⟩, k2.ex e3' (by decide) (Lat.refl _ _)⟩
  rw [ex20, ex21, BiP_neq]
  refine cdp (fun h => absurd rfl h) fun _ => ?_
  refine c_shelf_lay k3 (by omega) hi2 (sy.lat e3' (by decide) (Lat.refl _ _)) (leaf_len hr ho) fun l4 h4 D4 wr4 a4 k4 e4 hwr => ?_
  rw [BiP_neq]
  refine cdp (fun h => absurd rfl h) fun _ => ?_
  have e12 := e1.trans e2
  have e3w : Ex (Lb (frl lab h) 1 12) h2 h3 := Lb.wide e3' (by decide) (by decide)
  exact r i l4 h4 D4 wr4 (by omega) hi2 hsi (a1.trans a4 (by have := e12.le; have := e3.le; omega)) k4 (a1.ex (Ex.toM e12) (e3w.trans (lbx (x := 0) e4))) hwr
theorem c_shelf_Keep0 (k : ShS lab h sp dp c D V S 0 rd wr) (h0 : 0 < i) (hi : i < c.blocks.toNat)
    (r : ∀ lab' h' D' rd' wr', Lat lab lab' h → ShS lab' h' sp dp c D' V S i rd' wr' → Ex (Lb lab 1 12) h h' → (rd' = rd ∨ rd' = rd + 1) → (wr' = wr ∨ wr' = wr + 1) → K (int 0) h') :
    Ca f_shelf_Shelf_Keep #[ptr sp 0, .int .u32 i] h K := by
  have hb := blocks_eq k.right
  obtain ⟨hr, hD, hkl, cp, o, g, p, k1, k2⟩ := k
  refine m_shelf_Shelf_Keep_ok ?_
  unfold m_shelf_Shelf_Keep
  rw [BiP_neq]
  refine cdp (fun _ => ?_) fun h => absurd (by omega) h
  refine c_shelf_there k1 hr h0 hi ?_
  rw [BiP_neq]
  refine cdp (fun h => absurd rfl h) fun _ => ?_
  unfold m_shelf_Shelf_Keep_j6
  refine c_shelf_made k1 ?_
  rw [BiP_neq]
  refine cdp (fun h => absurd rfl h) fun _ => ?_
  refine k1.get (f := 11) rfl ?_
  rw [BiP_eql]
  unfold m_shelf_Shelf_Keep_j18
  refine cdp (fun h => absurd h (by omega)) fun _ => ?_
  unfold m_shelf_Shelf_Keep_j19
  rw [BiP_neq]
  refine cdp (fun _ => ?_) fun h => absurd (by omega) h
  refine k1.get (f := 9) rfl ?_
  have hp : kpin 0 i = 0 := by unfold kpin; rw [if_neg (by omega)]
  refine c_cache_Pin k2 h0 (by omega) (pins_kept hb.2.2.2.2.2.1) (by omega) fun l1 h1 D1 rd1 wr1 a1 hD1 k2 hrd hwr e1 => ?_
  have k1 := k1.ex e1 (.inl (by decide)) (by decide) a1
  rw [BiP_neq]
  refine cdp (fun h => absurd rfl h) fun _ => ?_
  unfold m_shelf_Shelf_Keep_j28
  refine k1.get (f := 11) rfl ?_
  rw [BiP_neq]
  refine cdp (fun h => absurd rfl h) fun _ => ?_
  unfold m_shelf_Shelf_Keep_j42
  refine Fs_b k1.blk (show 0 + 11 < 12 by decide) rfl fun h2 _ e2 kb2 => ?_
  have e2' : Ex (Lb l1 9 9) h1 h2 := one_lb e2 ⟨by rw [k1.l9]; decide, by rw [k1.l9]; decide⟩
  have k3 : ShC l1 h2 sp c cp dp o g p S i :=
    ⟨kb2, k1.pol.ex e2' (nLb k1.l10 (by decide)) (nLb k1.l11 (by decide)) (nLb k1.l12 (by decide)) (nLb k1.lt (by decide)), k1.l9, k1.l10, k1.l11, k1.l12, k1.lt⟩
  have k2 := (k2.ex e2' (by decide) (Lat.refl _ _)).pin (P' := kpin i) (fun j => by
    by_cases hj : j = i
    · subst hj; rw [upd_same, hp]; unfold kpin; rw [if_pos ⟨rfl, by omega⟩]
    · rw [upd_ne hj]; unfold kpin; rw [if_neg (by simp [hj]), if_neg (by omega)])
  exact r l1 h2 D1 rd1 wr1 a1 ⟨hr, by omega, hi, cp, o, g, p, k3, k2⟩ (a1.ex (lbx (x := 0) e1) (Lb.wide e2' (by decide) (by decide))) hrd hwr
theorem c_shelf_Config (k : ShS lab h sp dp c D V S kept rd wr) (r : ∀ h', Ext h h' → K c.v h') : Ca f_shelf_Shelf_Config #[ptr sp 0] h K := by
  obtain ⟨hr, hD, hkl, cp, o, g, p, k1, k2⟩ := k
  refine m_shelf_Shelf_Config_ok (ala (cs := [int 0, int 0, int 0, int 0, int 0, int 0, int 0, int 0]) fun b h1 e1 hb kb _ => ?_)
  refine eq_ptr_nil (by kernel_rfl) ((k1.ext e1).cfg ?_)
  refine StA_b (vs := c.cs) kb rfl rfl rfl fun h2 _ e2 kb2 => ?_
  refine (LdA_b kb2 rfl).2 ?_
  exact r h2 (e1.andThen e2 fun x hx => by show ¬ x = b; omega)
end
end Go.Sg
namespace Go.Sg
open Go Vc
def nl (ps : List Pair) : Node := ⟨0, [], [], [], ps⟩
abbrev lok (c : Config) (ps : List Pair) : Prop := outerOk c allSpan (nl ps) = true
structure TrS (lab : Nat → Nat) (h : Heap) (tp sp dp : Nat) (c : Config) (D : List (List UInt8)) (V : Nat → List UInt8) (S : Nat → Bool) (root : Nat) (ps : List Pair) (rd wr : BitVec 64) : Prop where
  blk : ∃ u, Blk h tp [ptr sp 0, .int .u32 root, int 0, int u, int 0, int 0]
  sh : ShS lab h sp dp c D V S root rd wr
  l13 : lab tp = 13
  r0 : 0 < root
  leaf : V root = leafOf c (nl ps)
  ok : lok c ps
section
variable {lab lab' : Nat → Nat} {h h' : Heap} {tp sp cp dp o g p kept i root : Nat} {c : Config} {D D' : List (List UInt8)} {V : Nat → List UInt8} {S : Nat → Bool} {rd wr rd' wr' : BitVec 64} {K : Kt} {n : Node} {U : Nat → Prop} {ps : List Pair} {m : Msg}
theorem lok_fits (hr : c.Right) (h : lok c ps) : (nl ps).fits := by
  have := (outer_fits hr h).2.1
  refine ⟨by simp [nl], by simp [nl], by simp [nl], ?_⟩
  show ps.length ≤ _
  have : ps.length ≤ 1024 := this
  omega
theorem lok_asc (h : lok c ps) : Asc Pair.key ps := by
  unfold lok outerOk at h
  simp only [Bool.and_eq_true] at h
  exact rises_asc.1 h.1.2
theorem ShS.ex13 {hi : Nat} {lo : Nat} (k : ShS lab h sp dp c D V S kept rd wr) (e : Ex (Lb lab lo hi) h h') (hl : 13 ≤ lo) : ShS lab h' sp dp c D V S kept rd wr := by
  obtain ⟨hr, hD, hkl, cp, o, g, p, k1, k2⟩ := k
  exact ⟨hr, hD, hkl, cp, o, g, p, k1.ex e (.inr hl) (by omega) (Lat.refl _ _), k2.ex e (by omega) (Lat.refl _ _)⟩
theorem c_tree_none {cs : List Value} (k : Blk h tp (ptr sp 0 :: cs)) (r : K (.bool false) h) : Ca f_tree_Tree_none #[ptr tp 0] h K := by
  refine m_tree_Tree_none_ok (eq_ptr_nil (by kernel_rfl) (fl (by rw [k.get]; rfl) ?_))
  unfold m_tree_Tree_none_j11
  exact eq_ptr_nil (by kernel_rfl) r
theorem c_tree_New (k : ShS lab h sp dp c D V S 0 rd wr) (hf : cnt c.blocks.toNat S < c.blocks.toNat) (hS0 : S 0 = true) (ho : lok c [])
    (r : ∀ tp root lab' h' D' V' rd' wr', Lat lab lab' h → h.size ≤ tp → root < c.blocks.toNat → S root = false → TrS lab' h' tp sp dp c D' V' (upd S root true) root [] rd' wr' → Ex (Lb lab 1 12) h h' → K (.tuple #[ptr tp 0, int 0]) h') : Ca f_tree_New #[ptr sp 0] h K := by
  refine m_tree_New_ok ?_
  refine ⟨_, #[int 0, .slice none 0 0, .slice none 0 0, .slice none 0 0, .slice none 0 0], rfl, rfl, ?_⟩
  have d0 : Nd No h (.agg #[int 0, .slice none 0 0, .slice none 0 0, .slice none 0 0, .slice none 0 0]) (nl []) := ⟨_, _, _, _, rfl, Sl.nil _ _, Sl.nil _ _, Sl.nil _ _, Sl.nil _ _⟩
  refine c_shelf_Make (n := nl []) k hf hS0 d0 (lok_fits k.right ho) rfl ho fun i l1 h1 D1 wr1 hi0 hi hsi a1 k1 e1 hwr => ?_
  rw [ex20, ex21, BiP_neq]
  refine cdp (fun h => absurd rfl h) fun _ => ?_
  refine ⟨_, #[ptr sp 0, .int .u32 i, int 0, int 0, int 0, int 0], rfl, rfl, ?_⟩
  refine bxa (cs := [ptr sp 0, .int .u32 i, int 0, int 0, int 0, int 0]) fun tp h2 e2 htp kb _ => ?_
  have hl1 := e1.le
  let l2 := upd (frl l1 h1) tp 13
  have a2 : Lat l1 l2 h1 := fun b hb => (upd_ne (by omega)).trans (frl_lat l1 h1 b hb)
  have k2 := (k1.lat a2).ext e2
  have q2 : l2 tp = 13 := upd_same
  refine c_shelf_Keep0 k2 hi0 hi fun l3 h3 D3 rd3 wr3 a3 k3 e3 hrd3 hwr3 => ?_
  have htl := kb.lt
  have a12 := a1.trans a2 e1.le
  refine r tp i l3 h3 D3 _ rd3 wr3 (a12.trans a3 (by have := e2.le; omega)) (by omega) hi hsi ⟨⟨0, kb.ex e3 (nLb q2 (by decide))⟩, k3, (a3 tp htl).trans q2, hi0, upd_same, ho⟩ ?_
  exact a12.ex (e1.trans (Ex.toM e2)) e3
theorem c_tree_may {cs : List Value} (kb : Blk h tp (ptr sp 0 :: cs)) (k : ShS lab h sp dp c D V S kept rd wr) (hk : keyOk c m.key = true) (hv : (m.val.length : Int) ≤ c.val) (hd : m.del = true → m.val = []) (r : ∀ h', Ext h h' → K (.bool true) h') : Ca f_tree_Tree_may #[ptr tp 0, m.v] h K := by
  refine m_tree_Tree_may_ok (bxa (cs := [str m.key, .bool m.del, str m.val]) fun b h1 e1 hb k1 _ => ?_)
  refine fl (by rw [(kb.ext e1).get]; rfl) ?_
  refine c_shelf_Config (k.ext e1) fun h2 e2 => ?_
  refine alst (vs := c.cs) rfl rfl rfl fun b2 h3 e3 hb2 k3 _ => ?_
  have e13 := e2.trans e3
  have k1 := k1.ext e13
  refine (LdA_b k3 rfl).2 (fv (by rw [k1.get]; rfl) ?_)
  refine c_node_Key (c := c) fun h4 e4 => ?_
  have k1 := k1.ext e4
  have k3 := k3.ext e4
  rw [hk, CdP_true]
  refine fv (by rw [k1.get]; rfl) ?_
  rw [LenP_str]
  refine fv (v := int c.val) (by rw [k3.get]; rfl) ?_
  rw [BiP_leq, decide_eq_true hv, CdP_true]
  refine fv (by rw [k1.get]; rfl) ?_
  have e14 := (e1.trans e13).trans e4
  refine cd (fun hx => ?_) (fun hx => ?_)
  · refine fv (by rw [k1.get]; rfl) ?_
    rw [hd hx]
    show BiP .neq (str []) (str []) _
    rw [BiP_sneq, UnP_not]
    exact r h4 e14
  · rw [UnP_not]
    exact r h4 e14
theorem c_tree_direct (kb : ∃ u, Blk h tp [ptr sp 0, .int .u32 root, int 0, int u, int 0, int 0]) (k : ShS lab h sp dp c D V S root rd wr) (hl13 : lab tp = 13) (h0 : 0 < root) {x : Value} (d : Nd (Use lab) h x (nl ps)) (ha : Asc Pair.key ps) (hlen : ps.length ≤ 2 ^ 30) (ho : lok c (applyP ps m))
    (r : ∀ lab' h' D' wr' y, Lat lab lab' h → ShS lab' h' sp dp c D' (upd V root (leafOf c (nl (applyP ps m)))) S root rd wr' → Ex (Lb lab 1 12) h h' → (∃ cs, y = .agg cs ∧ cs.size = 5 ∧ cs.toList.all one' = true) → (wr' = wr ∨ wr' = wr + 1) → K (.tuple #[.bool true, y, int 0]) h') :
    Ca f_tree_Tree_direct #[ptr tp 0, x, m.v] h K := by
  have hr := k.right
  have hb := blocks_eq hr
  obtain ⟨u, kb⟩ := kb
  have htl0 := kb.lt
  obtain ⟨vk, vp, vb, vl, rfl, q1, q2, q3, q4⟩ := d.out
  refine m_tree_Tree_direct_ok (bxa (cs := [int 0, vk, vp, vb, vl]) fun b1 h1 e1 hb1 k1 hs1 => bxa (cs := [str m.key, .bool m.del, str m.val]) fun b2 h2 e2 hb2 k2 hs2 => ala (cs := [int 0, .slice none 0 0, .slice none 0 0, .slice none 0 0, .slice none 0 0]) fun b3 h3 e3 hb3 k3 hs3 => ?_)
  have e12 := e1.trans e2
  have e13 := e12.trans e3
  let l3 : Nat → Nat := upd (upd (frl lab h) b1 99) b3 99
  have a3 : Lat lab l3 h := fun b hb => (upd_ne (by omega)).trans ((upd_ne (by omega)).trans (frl_lat lab h b hb))
  have w1 : l3 b1 = 99 := (upd_ne (by omega)).trans upd_same
  have w3 : l3 b3 = 99 := upd_same
  have kk := (k.lat a3).ext e13
  have kb := kb.ext e13
  have k1 := (k1.ext e2).ext e3
  have k2 := k2.ext e3
  have htl := kb.lt
  refine fl (by rw [kb.get]; rfl) ?_
  refine c_shelf_Config kk fun h4 e4 => ?_
  refine alst (vs := c.cs) rfl rfl rfl fun b4 h5 e5 hb4 k4 _ => ?_
  have e35 := e4.trans e5
  have e15 := e13.trans e35
  have kk := kk.ext e35
  have kb := kb.ext e35
  have k1 := k1.ext e35
  have k2 := k2.ext e35
  have k3 := k3.ext e35
  refine fv (by rw [k1.get]; rfl) ?_
  rw [BiP_eql]
  refine cdp (fun _ => ?_) fun h => absurd rfl h
  refine fv (by rw [k1.get]; rfl) ((LdA_b k2 rfl).2 ?_)
  refine bs (n0 := h5.size) (e := t_api_Msg) (zs := #[str [], .bool false, str []]) [m] rfl (Nat.le_refl _) rfl (by decide) (cs := #[str m.key, .bool m.del, str m.val]) (by kernel_rfl) rfl fun v6 h6 o6 e6 => ?_
  have s6 : Sl No h6 v6 [m] := o6.sl fun _ _ h => h
  have sl6 : Sl No h6 vl ps := ((q4.ext e15).ext e6).no
  refine c_leaf_Apply sl6 s6 ha (by simp; omega) fun v7 h7 o7 e7 => ?_
  simp only [List.foldl_cons, List.foldl_nil] at o7
  have e57 := e6.trans e7
  have hv7 : v7.oneCell' = true := o7.one
  have kk := kk.ext e57
  have kb := kb.ext e57
  have k1 := k1.ext e57
  have k3 := k3.ext e57
  have k4 := k4.ext e57
  have hsz5 : h5.size ≤ h6.size := e6.le
  have hsz15 := e15.le
  have l34 := e4.le
  have l45 := e5.le
  have l56 := e6.le
  have l67 := e7.le
  rw [FaP_ptr]
  refine StP_b k1 (show 0 + 4 < 5 by decide) (by rw [one_eq]; exact hv7) fun h8 _ e8 k1' => ?_
  have e8' : Ex (Lb l3 99 99) h7 h8 := one_lb e8 ⟨by rw [w1]; decide, by rw [w1]; decide⟩
  have kk := kk.ex13 e8' (by decide)
  have kb := kb.ex e8 (by show ¬ tp = b1; omega)
  have k3 := k3.ex e8 (by show ¬ b3 = b1; omega)
  have k4 := k4.ex e8 (by show ¬ b4 = b1; omega)
  have o8 := o7.exb e8 (fun b hb => by have := o7.block b hb; show ¬ b = b1; omega)
  have s8 : Sl No h8 v7 (applyP ps m) := o8.sl fun _ _ h => h
  refine fv (v := v7) (by rw [k1'.get]; rfl) (s8.len ?_)
  refine fv (v := int c.leaf) (by rw [k4.get]; rfl) ?_
  have hfit := outer_fits hr ho
  have hle : ((applyP ps m).length : Int) ≤ c.leaf := hfit.2.2.1
  rw [BiP_leq, decide_eq_true hle]
  unfold m_tree_Tree_direct_j62
  rw [UnP_not]
  show CdP (.bool false) _ _
  rw [CdP_false]
  refine ⟨fun b' _ => b' = b1 ∨ b' = tp, ?_⟩
  refine LaX_b (cs := [int 0, vk, vp, vb, v7]) k1' rfl (fun _ => .inl rfl) ?_
  rw [NilP_ptr, FaP_ptr]
  refine LdX_b kb rfl (fun _ => .inr rfl) ?_
  rw [NilP_ptr, FaP_ptr]
  refine LdX_b kb rfl (fun _ => .inr rfl) ?_
  refine LaX_b (cs := [int 0, vk, vp, vb, v7]) k1' rfl (fun _ => .inl rfl) ?_
  have d8 : Nd No h8 (.agg [int 0, vk, vp, vb, v7].toArray) (nl (applyP ps m)) := by
    have z1 := ((q1.ext e15).ext e57).no
    have z2 := ((q2.ext e15).ext e57).no
    have z3 := ((q3.ext e15).ext e57).no
    have emp : ∀ {α : Type} [El α] {v : Value}, Sl No h7 v ([] : List α) → Sl No h8 v ([] : List α) := fun {α} _ {v} s => by
      obtain ⟨a, cap, r1, r2, r3, r4⟩ := s.out
      exact ⟨a, cap, r1, r2, r3, fun x hx => ⟨(r4 x hx).1, fun h => absurd rfl h⟩⟩
    exact ⟨_, _, _, _, rfl, emp z1, emp z2, emp z3, s8⟩
  have wtp : l3 tp = 13 := (a3 tp htl0).trans hl13
  refine c_shelf_Save (n := nl (applyP ps m)) kk h0 kk.kl d8 (lok_fits hr ho) rfl ho fun l9 h9 D9 wr9 a9 k9 e9 hwr => ⟨?_, ?_⟩
  · rintro b o (rfl | rfl)
    · exact hget_eq (e9.eq _ k1'.lt (nLb w1 (by decide))) o
    · exact hget_eq (e9.eq _ kb.lt (nLb wtp (by decide))) o
  have k3 := k3.ex e9 (nLb w3 (by decide))
  have b3l : b3 < h8.size := by have := e8.le; have := e7.le; omega
  have w9 : l9 b3 = 99 := (a9 b3 b3l).trans w3
  have hall : [int 0, vk, vp, vb, v7].all one' = true := by
    obtain ⟨a1, c1, r1, _⟩ := q1.out
    obtain ⟨a2, c2, r2, _⟩ := q2.out
    obtain ⟨a3, c3, r3, _⟩ := q3.out
    have hv : one' v7 = true := by rw [one_eq]; exact hv7
    rw [r1, r2, r3]
    show (true && (true && (true && (true && (one' v7 && true))))) = true
    rw [hv]; rfl
  refine StA_b (vs := [int 0, vk, vp, vb, v7]) k3 rfl rfl hall fun h10 _ e10 k3' => ⟨trivial, ?_⟩
  refine (LdA_b k3' rfl).2 ?_
  have e10' : Ex (Lb l9 99 99) h9 h10 := one_lb e10 ⟨by rw [w9]; decide, by rw [w9]; decide⟩
  have h8le : h.size ≤ h8.size := by have := e57.le; have := e8.le; omega
  refine r l9 h10 D9 wr9 _ (a3.trans a9 h8le) (k9.ex13 e10' (by decide)) ?_ ⟨_, rfl, rfl, hall⟩ hwr
  refine ⟨by have := e9.le; have := e10.le; omega, fun b hb hm => ?_⟩
  have h5l := e57.le
  rw [e10.eq b (by have := e9.le; omega) (by show ¬ b = b3; omega), e9.eq b (by omega) (fun x => hm (by show 1 ≤ lab b ∧ lab b ≤ 12; rw [← a3 b hb]; exact x)), e8.eq b (by omega) (by show ¬ b = b1; omega), e57.eq b (by omega) (fun x => x), e15.eq b hb (fun x => x)]
end
end Go.Sg
namespace Go.Sg
open Go Vc
section
variable {lab lab' : Nat → Nat} {h h' : Heap} {tp sp cp dp o g p kept i root : Nat} {c : Config} {D D' : List (List UInt8)} {V : Nat → List UInt8} {S : Nat → Bool} {rd wr rd' wr' : BitVec 64} {K : Kt} {n : Node} {U : Nat → Prop} {ps : List Pair} {m : Msg}
theorem addw {a b : Int} {K : Value → Prop} (r : ∀ x, K (int x)) : BiP .add (int a) (int b) K := ⟨_, by simp [binVal]; rfl, r _⟩
theorem put_j32 (kb : ∃ u, Blk h tp [ptr sp 0, .int .u32 root, int 0, int u, int 0, int 0]) (k : ShS lab h sp dp c D V S root rd wr) (hl13 : lab tp = 13) (h0 : 0 < root) {b1 b2 : Nat} (k1 : Blk h b1 [str m.key, .bool m.del, str m.val]) {cs : List Value} (k2 : Blk h b2 cs) (d : Nd (Use lab) h (.agg cs.toArray) (nl ps))
    (hcs : cs.length = 5) (ha : Asc Pair.key ps) (hlen : ps.length ≤ 2 ^ 30) (ho : lok c (applyP ps m))
    (r : ∀ lab' h' D' V' wr', Lat lab lab' h → TrS lab' h' tp sp dp c D' V' S root (applyP ps m) rd wr' → Ex (Lb lab 1 13) h h' → K (int 0) h') :
    m_tree_Tree_Put_j32 (ptr tp 0) (ptr b1 0) (ptr b2 0) (int 0) h K := by
  unfold m_tree_Tree_Put_j32
  rw [BiP_neq]
  refine cdp (fun h => absurd rfl h) fun _ => ?_
  refine (LdA_b k2 hcs).2 ((LdA_b k1 rfl).2 ?_)
  refine c_tree_direct (m := m) kb k hl13 h0 d ha hlen ho fun l1 h1 D1 wr1 y a1 s1 e1 hy hwr => ?_
  obtain ⟨u, kb⟩ := kb
  obtain ⟨ys, rfl, hys1, hys2⟩ := hy
  rw [ex30, ex31, ex32]
  have htl := kb.lt
  have kb := kb.ex e1 (nLb hl13 (by decide))
  have w1 : l1 tp = 13 := (a1 tp htl).trans hl13
  have hyy : ys = ys.toList.toArray := by simp
  rw [hyy]
  refine alst (vs := ys.toList) rfl (by simpa using hys1) hys2 fun b3 h2 e2 hb3 k3 _ => ?_
  rw [BiP_neq]
  refine cdp (fun h => absurd rfl h) fun _ => ?_
  rw [CdP_true]
  have kb := kb.ext e2
  have s1 := s1.ext e2
  rw [NilP_ptr, FaP_ptr]
  refine fv (v := int u) (by rw [kb.get]; rfl) ?_
  refine addw fun u' => ?_
  rw [NilP_ptr, FaP_ptr, FaP_ptr]
  refine StP_b kb (show 0 + 3 + 0 < 6 by decide) rfl fun h3 _ e3 kb' => ?_
  have e3' : Ex (Lb l1 13 13) h2 h3 := one_lb e3 ⟨by rw [w1]; decide, by rw [w1]; decide⟩
  refine r l1 h3 D1 _ wr1 a1 ⟨⟨u', kb'⟩, s1.ex13 e3' (by decide), w1, h0, upd_same, ho⟩ ?_
  exact a1.ex ((Lb.wide e1 (by decide) (by decide)).trans (Ex.toM e2)) (Lb.wide e3' (by decide) (by decide))
theorem agr1 {M : Nat → Prop} {X : Nat → Nat → Prop} {h h' : Heap} {b : Nat} (hX : ∀ b' o, X b' o → b' = b) (e : Ex M h h') (hb : b < h.size) (hm : ¬ M b) : Agr X h h' := by
  intro b' o hx
  rw [hX b' o hx]
  exact hget_eq (e.eq _ hb hm) o
theorem c_tree_Put (k : TrS lab h tp sp dp c D V S root ps rd wr) (hk : keyOk c m.key = true) (hv : (m.val.length : Int) ≤ c.val) (hd : m.del = true → m.val = []) (ho : lok c (applyP ps m))
    (r : ∀ lab' h' D' V' rd' wr', Lat lab lab' h → TrS lab' h' tp sp dp c D' V' S root (applyP ps m) rd' wr' → Ex (Lb lab 1 13) h h' → K (int 0) h') : Ca f_tree_Tree_Put #[ptr tp 0, m.v] h K := by
  obtain ⟨⟨u, kb⟩, ks, hl13, h0, hleaf, hok⟩ := k
  have hr := ks.right
  have hb := blocks_eq hr
  have htl := kb.lt
  have hasc := lok_asc hok
  have hps : ps.length ≤ 2 ^ 30 := by have : ps.length ≤ 1024 := (outer_fits hr hok).2.1; omega
  refine m_tree_Tree_Put_ok (bxa (cs := [str m.key, .bool m.del, str m.val]) fun b1 h1 e1 hb1 k1 hs1 => ?_)
  have a1 : Lat lab (loc lab h b1) h := loc_lat lab (by omega)
  have ks1 := (ks.lat a1).ext e1
  have kb1 := kb.ext e1
  have w1 : loc lab h b1 b1 = 99 := loc_at
  have wt : loc lab h b1 tp = 13 := (a1 tp htl).trans hl13
  refine c_tree_none kb1 ?_
  rw [CdP_false]
  refine (LdA_b k1 rfl).2 ?_
  refine c_tree_may (m := m) kb1 ks1 hk hv hd fun h2 e2 => ?_
  have ks2 := ks1.ext e2
  have kb2 := kb1.ext e2
  have k12 := k1.ext e2
  have e12 := e1.trans e2
  rw [UnP_not]
  show CdP (.bool false) _ _
  rw [CdP_false]
  refine ⟨fun b' _ => b' = tp, ?_⟩
  rw [NilP_ptr, FaP_ptr]
  refine LdX_b kb2 rfl (fun _ => rfl) ?_
  rw [NilP_ptr, FaP_ptr]
  refine LdX_b kb2 rfl (fun _ => rfl) ?_
  have hl12 := e12.le
  have b1l : b1 < h2.size := k12.lt
  have tpl : tp < h2.size := kb2.lt
  refine ⟨?_, ?_⟩
  · refine c_shelf_Load (n := nl ps) ks2 h0 ks.kl hleaf rfl hok fun l3 h3 D3 rd3 wr3 v a3 s3 d3 e3 _ _ => ⟨trivial, ?_⟩
    obtain ⟨vk, vp, vb, vl, rfl, q1, q2, q3, q4⟩ := d3.out
    have d3' := d3
    rw [ex20, ex21]
    have hall : [int (nl ps).level, vk, vp, vb, vl].all one' = true := by
      obtain ⟨x1, c1, r1, _⟩ := q1.out
      obtain ⟨x2, c2, r2, _⟩ := q2.out
      obtain ⟨x3, c3, r3, _⟩ := q3.out
      obtain ⟨x4, c4, r4, _⟩ := q4.out
      rw [r1, r2, r3, r4]; rfl
    refine ala (cs := [int 0, .slice none 0 0, .slice none 0 0, .slice none 0 0, .slice none 0 0]) fun b4 h4 e4 hb4 k4 _ => ?_
    have w3t : l3 tp = 13 := (a3 tp tpl).trans wt
    refine ⟨?_, ?_⟩
    · refine agr1 (b := tp) (fun b' o hx => hx) (e3.trans (Ex.toM e4)) tpl (nLb wt (by decide))
    refine StA_b (vs := [int (nl ps).level, vk, vp, vb, vl]) k4 rfl rfl hall fun h5 _ e5 k5 => ⟨trivial, ?_⟩
    have e45 : Ext h3 h5 := e4.andThen e5 fun x hx => by show ¬ x = b4; omega
    have kb5 := (kb2.ex e3 (nLb wt (by decide))).ext e45
    have k15 := (k12.ex e3 (nLb w1 (by decide))).ext e45
    refine put_j32 ⟨u, kb5⟩ (s3.ext e45) w3t h0 k15 k5 (d3'.ext e45) rfl hasc hps ho fun l6 h6 D6 V6 wr6 a6 t6 e6 => ?_
    have hl3 := e3.le
    have hl45 := e45.le
    have a13 : Lat lab l3 h := a1.trans a3 (by omega)
    refine r l6 h6 D6 V6 rd3 wr6 (a13.trans a6 (by omega)) t6 ?_
    exact a13.ex ((a1.ex (Ex.toM e12) (Lb.wide e3 (by decide) (by decide))).trans (Ex.toM e45)) e6
  · refine ala (cs := [int 0, .slice none 0 0, .slice none 0 0, .slice none 0 0, .slice none 0 0]) fun b4 h3 e3 hb4 k4 _ => ⟨?_, ?_⟩
    · exact agr1 (b := tp) (fun b' o hx => hx) e3 tpl (fun x => x)
    have a3 : Lat (loc lab h b1) (loc (loc lab h b1) h2 b4) h2 := loc_lat _ (by omega)
    have ks3 := (ks2.lat a3).ext e3
    have w4 : loc (loc lab h b1) h2 b4 b4 = 99 := loc_at
    have w14 : loc (loc lab h b1) h2 b4 b1 = 99 := (a3 b1 b1l).trans w1
    have wt4 : loc (loc lab h b1) h2 b4 tp = 13 := (a3 tp tpl).trans wt
    refine c_shelf_Load (n := nl ps) ks3 h0 ks.kl hleaf rfl hok fun l5 h5 D5 rd5 wr5 v a5 s5 d5 e5 _ _ => ⟨trivial, ?_⟩
    obtain ⟨vk, vp, vb, vl, rfl, q1, q2, q3, q4⟩ := d5.out
    have d5' := d5
    rw [ex20, ex21]
    have hall : [int (nl ps).level, vk, vp, vb, vl].all one' = true := by
      obtain ⟨x1, c1, r1, _⟩ := q1.out
      obtain ⟨x2, c2, r2, _⟩ := q2.out
      obtain ⟨x3, c3, r3, _⟩ := q3.out
      obtain ⟨x4, c4, r4, _⟩ := q4.out
      rw [r1, r2, r3, r4]; rfl
    have b4l := k4.lt
    have k4 := k4.ex e5 (nLb w4 (by decide))
    have w5 : l5 b4 = 99 := (a5 b4 b4l).trans w4
    refine StA_b (vs := [int (nl ps).level, vk, vp, vb, vl]) k4 rfl rfl hall fun h6 _ e6 k6 => ⟨trivial, ?_⟩
    have e6' : Ex (Lb l5 99 99) h5 h6 := one_lb e6 ⟨by rw [w5]; decide, by rw [w5]; decide⟩
    have hl3 := e3.le
    have kb5 := (kb2.ext e3).ex e5 (nLb wt4 (by decide))
    have k15 := (k12.ext e3).ex e5 (nLb w14 (by decide))
    have kb6 := kb5.ex e6 (by show ¬ tp = b4; omega)
    have k16 := k15.ex e6 (by show ¬ b1 = b4; omega)
    have w5t : l5 tp = 13 := (a5 tp (by omega)).trans wt4
    have d6 : Nd (Use l5) h6 (.agg [int (nl ps).level, vk, vp, vb, vl].toArray) (nl ps) := d5'.keep e6' (fun b hb => by show l5 b ≠ 0; have := hb.1; omega)
    refine put_j32 ⟨u, kb6⟩ (s5.ex13 e6' (by decide)) w5t h0 k16 k6 d6 rfl hasc hps ho fun l7 h7 D7 V7 wr7 a7 t7 e7 => ?_
    have hl5 := e5.le
    have hl6 := e6.le
    have a15 : Lat lab l5 h := (a1.trans a3 (by omega)).trans a5 (by omega)
    refine r l7 h7 D7 V7 rd5 wr7 (a15.trans a7 (by omega)) t7 ?_
    have a13 : Lat lab (loc (loc lab h b1) h2 b4) h := a1.trans a3 (by omega)
    refine a15.ex ?_ e7
    refine ⟨by omega, fun b hb hm => ?_⟩
    rw [e6.eq b (by omega) (by show ¬ b = b4; omega), e5.eq b (by omega) (fun x => hm (by show 1 ≤ lab b ∧ lab b ≤ 13; rw [← a13 b hb]; exact ⟨x.1, by have := x.2; omega⟩)), e3.eq b (by omega) (fun x => x), e12.eq b hb (fun x => x)]
end
end Go.Sg
namespace Go.Sg
open Go Vc
structure Nv where
  cs : List Value
  len : cs.length = 5
  one : ∀ v ∈ cs, v.oneCell' = true
instance : El Nv := ⟨5, fun n => n.cs, fun n => n.len, by decide, fun n => n.one⟩
end Go.Sg
namespace Go.Sg
open Go Vc
section
variable {h : Heap} {K : Kt} {g cap : Nat}
theorem c_Less_u32 {a b : Nat} (r : K (.bool (decide ((a : Int) < b))) h) : Ca f_cmp_Less_uint32 #[.int .u32 a, .int .u32 b] h K := by
  refine m_cmp_Less_uint32_ok (m_cmp_isNaN_uint32_ok ?_)
  unfold m_cmp_isNaN_uint32
  rw [BiP_neq, decide_eq_false (by simp)]
  exact CdP_false.2 (BiP_lss.2 r)
theorem is_any {s : ByteArray} {x : Nat} {k} {K : Value → Prop} (hs : x < s.size) (r : ∀ b : UInt8, K (.int .u8 b.toNat)) : IsP (.string s) (.int k (x : Int)) K := by
  refine ⟨s, k, x, rfl, rfl, by omega, s[x], ?_, r _⟩
  rw [Int.toNat_natCast]
  exact getElem?_pos s x hs
theorem c_mbits_Len {x : Nat} (hx : x < 64) (r : ∀ b : UInt8, K (int (0 + (b.toNat : Int))) h) : Ca f_bits_Len #[.int .u64 x] h K := by
  refine m_bits_Len_ok (m_bits_Len64_ok ?_)
  unfold m_bits_Len64
  rw [BiP_geq]
  refine cdp (fun h => absurd h (by omega)) fun _ => ?_
  unfold m_bits_Len64_j4
  rw [BiP_geq]
  refine cdp (fun h => absurd h (by omega)) fun _ => ?_
  unfold m_bits_Len64_j9
  rw [BiP_geq]
  refine cdp (fun h => absurd h (by omega)) fun _ => ?_
  unfold m_bits_Len64_j14
  rw [CvP_int, wrapU rfl (by omega) (by show _ < (2 : Int) ^ 8; omega)]
  refine is_any (Nat.lt_of_lt_of_le hx (Nat.le_of_ble_eq_true (by kernel_rfl))) fun b => ?_
  have hb := b.toNat_lt
  rw [CvP_int, wrap64 (by omega) (by omega)]
  exact add64 (by omega) (r b)
theorem swap_perm (L : List U32) (j : Nat) (h1 : j + 1 < L.length) : ((L.set (j + 1) L[j]).set j L[j + 1]).Perm L := by
  have := @List.set_set_perm U32 L (j + 1) j h1 (by omega)
  exact this
theorem c_insertion {L0 : List U32} (o : Own g cap t_uint32 h L0) (hl : L0.length ≤ 64) {n : Nat} (hn : n = L0.length)
    (r : ∀ L h', L.Perm L0 → Own g cap t_uint32 h' L → Ex (fun b => b = g) h h' → K (.tuple #[]) h') : Ca f_slices_insertionSortOrdered_uint32 #[.slice (some ⟨g, 0, none⟩) n cap, int 0, int n] h K := by
  subst hn
  have hcap := o.le
  refine m_slices_insertionSortOrdered_uint32_ok (add64 (by omega) ?_)
  refine lop (σ := Nat × List U32) (fun p => [int (p.1 + 1 : Nat)]) (fun p h' => p.2.Perm L0 ∧ Own g cap t_uint32 h' p.2 ∧ Ex (fun b => b = g) h h' ∧ p.1 ≤ 64) (fun p => L0.length - (p.1 + 1)) (0, L0) rfl ⟨.refl _, o, Ex.refl _ _, Nat.zero_le _⟩ ?_
  rintro ⟨i, L⟩ h1 N ⟨hp, o1, e1, hi⟩ hN
  simp only at hp o1 hi
  simp only [m_slices_insertionSortOrdered_uint32_l2, gv_zero, gv_succ]
  have hlen := hp.length_eq
  rw [BiP_lss]
  refine cdp (fun hlt => ?_) (fun hge => r L h1 hp o1 e1)
  have next : ∀ (L' : List U32) (h2 : Heap), L'.Perm L0 → Own g cap t_uint32 h2 L' → Ex (fun b => b = g) h h2 → m_slices_insertionSortOrdered_uint32_j34 (.slice (some ⟨g, 0, none⟩) L0.length cap) (int 0) (int L0.length) (int (i + 1 : Nat)) h2 N K := by
    intro L' h2 q1 q2 q3
    unfold m_slices_insertionSortOrdered_uint32_j34
    refine add64 (by omega) ?_
    have := hN (i + 1, L') h2 ⟨q1, q2, q3, by show i + 1 ≤ 64; omega⟩ (by simp only; omega)
    simpa using this
  refine lop (σ := Nat × List U32) (fun p => [int p.1]) (fun p h' => p.2.Perm L0 ∧ Own g cap t_uint32 h' p.2 ∧ Ex (fun b => b = g) h h' ∧ p.1 < L0.length) (fun p => p.1) (i + 1, L) rfl ⟨hp, o1, e1, by omega⟩ ?_
  rintro ⟨j, L'⟩ h2 N2 ⟨hp2, o2, e2, hj⟩ hN2
  simp only at hp2 o2 hj
  simp only [m_slices_insertionSortOrdered_uint32_l6, gv_zero, gv_succ]
  have hlen2 := hp2.length_eq
  rw [BiP_gtr]
  refine cdp (fun hj0 => ?_) (fun hj0 => ?_)
  · obtain ⟨k, rfl⟩ : ∃ k, j = k + 1 := ⟨j - 1, by omega⟩
    have rd := o2.rd (n := L0.length) hlen2.symm hcap
    have hk1 : L'[k + 1]? = some L'[k + 1] := List.getElem?_eq_getElem (by omega)
    have hk0 : L'[k]? = some L'[k] := List.getElem?_eq_getElem (by omega)
    have ek : ((k + 1 : Nat) : Int) - 1 = (k : Nat) := by omega
    refine rd.ei (i := ((k + 1 : Nat) : Int)) (x := L'[k + 1]) (by omega) (by rw [Int.toNat_natCast]; exact hk1) rfl ?_
    refine sub64 (by omega) ?_
    rw [ek]
    refine rd.ei (i := (k : Int)) (x := L'[k]) (by omega) (by rw [Int.toNat_natCast]; exact hk0) rfl ?_
    refine c_Less_u32 ⟨trivial, ?_⟩
    unfold m_slices_insertionSortOrdered_uint32_j20
    refine cdp (fun _ => ?_) (fun _ => next L' h2 hp2 o2 e2)
    unfold m_slices_insertionSortOrdered_uint32_j21
    refine sub64 (by omega) (sub64 (by omega) ?_)
    rw [ek]
    refine rd.ei (i := (k : Int)) (x := L'[k]) (by omega) (by rw [Int.toNat_natCast]; exact hk0) rfl ?_
    refine rd.ei (i := ((k + 1 : Nat) : Int)) (x := L'[k + 1]) (by omega) (by rw [Int.toNat_natCast]; exact hk1) rfl ?_
    refine own_set1 (i := k + 1) (a' := L'[k]) rfl rfl rfl o2 hlen2.symm (by omega) fun h3 o3 e3 => ⟨trivial, ?_⟩
    refine own_set1 (i := k) (a' := L'[k + 1]) rfl rfl rfl o3 (by rw [List.length_set]; exact hlen2.symm) (by rw [List.length_set]; omega) fun h4 o4 e4 => ⟨trivial, ?_⟩
    refine sub64 (by omega) ?_
    rw [ek]
    exact hN2 (k, _) h4 ⟨(swap_perm L' k (by omega)).trans hp2, o4, (e2.trans e3).trans e4, by show k < _; omega⟩ (by show k < k + 1; omega)
  · unfold m_slices_insertionSortOrdered_uint32_j20
    rw [CdP_false]
    exact next L' h2 hp2 o2 e2
theorem c_Sort_u32 {n0 : Nat} {v : Value} {L0 : List U32} (o : Ow n0 t_uint32 h v L0) (hl : L0.length ≤ 12)
    (r : ∀ L h', L.Perm L0 → Ow n0 t_uint32 h' v L → Ex (fun b => v.ownBlock = some b) h h' → K (.tuple #[]) h') : Ca f_slices_Sort_uint32 #[v] h K := by
  have s : Sl No h v L0 := o.sl fun _ _ h => h
  refine m_slices_Sort_uint32_ok (s.len ?_)
  rw [CvP_int, wrapU rfl (by omega) (by show _ < (2 : Int) ^ 64; omega)]
  refine c_mbits_Len (by omega) fun b => m_slices_pdqsortOrdered_uint32_ok ?_
  unfold m_slices_pdqsortOrdered_uint32
  refine lop (σ := Unit) (fun _ => [int 0, int L0.length, int (0 + (b.toNat : Int)), .bool true, .bool true]) (fun _ h' => h' = h) (fun _ => 0) () rfl rfl ?_
  rintro _ h1 N rfl hN
  simp only [m_slices_pdqsortOrdered_uint32_l1, gv_zero, gv_succ]
  refine sub64 (by omega) ?_
  rw [BiP_leq]
  refine cdp (fun _ => ?_) fun h => absurd (by omega) h
  rcases o.cases' with ⟨rfl, hl0⟩ | ⟨g, cap, rfl, hg, og⟩
  · subst hl0
    refine m_slices_insertionSortOrdered_uint32_ok (add64 (by omega) ?_)
    refine lop (σ := Unit) (fun _ => [int (0 + 1)]) (fun _ h' => h' = h1) (fun _ => 0) () rfl rfl ?_
    rintro _ h2 N rfl hN
    simp only [m_slices_insertionSortOrdered_uint32_l2, gv_zero, gv_succ]
    rw [BiP_lss]
    refine cdp (fun h => absurd h (by simp)) fun _ => ?_
    exact r [] h2 (.refl _) o (Ex.refl _ _)
  · refine c_insertion og (by omega) rfl fun L h2 hp o2 e2 => ?_
    refine r L h2 hp (o2.ow' hg hp.length_eq) (e2.mono fun b _ hb => ?_)
    have hb : b = g := hb
    rw [hb]; rfl
end
end Go.Sg
namespace Go.Sg
open Go Vc Go.Proofs Go.RowKit Go.Maps Go.Sort Go.Shelf
abbrev encU : Int → Value := Value.int .u32
theorem encU_inj {x y : Int} (h : encU x = encU y) : x = y := by simpa [encU] using h
theorem keyOf_u32 {P : Program} {k : TypeId} (hk : P.underlying k = some (.int .u32)) {key : Value} {kl : Lit} (h : keyOf P k key = some kl) : ∃ x : Int, key = encU x ∧ kl = .int .u32 x := by
  cases key <;> simp [keyOf, hk, mapKey] at h
  rename_i q a
  obtain ⟨⟨rfl, hw⟩, rfl⟩ := h
  exact ⟨a, rfl, rfl⟩
def CollU {H : Type} (D0 : DataW H) (left : Lit → Bool) (ss : List Int) : Prop := ss.Nodup ∧ ∀ x, x ∈ ss ↔ (Maps.has D0 (.int .u32 x) = true ∧ left (.int .u32 x) = false)
theorem CollU.step {H : Type} {D0 : DataW H} {left : Lit → Bool} {ss : List Int} (h : CollU D0 left ss) {x : Int} {y : DataW H} (hlk : left (.int .u32 x) = true) (hat : ∀ zd, D0.atKey (.int .u32 x) zd = y) : CollU D0 (fun z => left z && !z.sameKey (.int .u32 x)) (ss ++ [x]) := by
  have hhas : Maps.has D0 (.int .u32 x) = true := has_true_of_atKey hat
  have hnew : x ∉ ss := fun hx => by have := ((h.2 x).1 hx).2; rw [hlk] at this; cases this
  refine ⟨List.nodup_append.2 ⟨h.1, by simp, fun a ha b hb => by simp at hb; subst hb; exact fun e => hnew (e ▸ ha)⟩, fun y => ?_⟩
  by_cases hy : y = x
  · subst hy; simp [hhas, Lit.sameKey]
  · simp [h.2 y, hy, Lit.sameKey]
theorem u_map : Pg.underlying t_M_uint32_int = some (.map t_uint32 t_int) := by kernel_rfl
theorem u_u32 : Pg.underlying t_uint32 = some (.int .u32) := by kernel_rfl
set_option maxRecDepth 100000 in
set_option maxHeartbeats 1000000 in
theorem keys1U_in {H : Type} (F : Fence) (n : Nat) (h10 : F.fn f_maps_Keys_map_1) (hro : F.round = none) (hn : 1 ≤ n) (l Bm b nn : Nat) (D0 : DataW H) {R : Value → Option (DataW H × List MemPlace)} (J : List Int → World → Prop)
    (hY : ∀ pre x W, J pre W → pre.length < Maps.size D0 → YieldAt F (n - 1) Pg l #[encU x] W fun e W' => e = .returned (.bool true) ∧ J (pre ++ [x]) W' ∧ KeepsWalks W W')
    (W : World) (hJ : AbidesFrom W.heap.size J) (hm : W.cell? ⟨Bm, 0, none⟩ = some (.map (some b))) (hown : W.ownsMap Pg t_uint32 R b nn D0) (h0 : J [] W) :
    CallsIn F n Pg f_maps_Keys_map_1 #[.func (.yield l) #[] #[], .pointer (some ⟨Bm, 0, none⟩)] W fun e W' => (∃ v, e = .returned v) ∧ ∃ ss : List Int, (ss.Nodup ∧ ∀ x, x ∈ ss ↔ Maps.has D0 (.int .u32 x) = true) ∧ J ss W' := by
  have mixed := mixed
  have t23 := u_map
  have t26 := u_u32
  refine callsIn_of_wp b_maps_Keys_map_1_at rfl h10 ?_ hro
  simp only [b_maps_Keys_map_1_nt, List.size_toArray, List.length_cons, List.length_nil, Nat.reduceAdd, Nat.reduceSub, Array.replicate_succ, Array.replicate_zero, List.push_toArray, List.append_toArray, List.nil_append, List.cons_append]
  gi_wp2_with (first
    | (gi_at_range; refine wpListIn_range_own _ rfl _ t_M_uint32_int rfl t_uint32 t_int (int_keyed u_u32) u_map _ b nn _ rfl hown ?_; intro w0 hrg0 hg0 hs0)
    | gi_in)
  go_frame
  gi_loopw [3] (fun _ wr => ∃ (left : Lit → Bool) (cnt : Nat) (ss : List Int), wr.ranges Pg t_uint32 R b W.heap.size nn D0 left cnt ∧ ss.length + cnt ≤ Maps.size D0 ∧ CollU D0 left ss ∧ J ss wr)
    (fun _ wr => wr.rangeLeft b W.heap.size)
  case atStart =>
    exact ⟨_, _, [], hrg0, by simp, ⟨List.nodup_nil, fun x => by cases Maps.has D0 (.int .u32 x) <;> simp⟩, hJ [] W w0 none h0 hg0 (fun r e => by cases e)⟩
  case round =>
    obtain ⟨left, cnt, ss, hrg, hcs, hC, hJs⟩ := hrel
    gi_wp2_with (first
      | (gi_at_next; refine wpListIn_next_ranges _ rfl _ rfl t_uint32 (int_keyed u_u32) R encU id (fun key kl hk => by obtain ⟨x, hx, _⟩ := keyOf_u32 u_u32 hk; exact ⟨x, hx⟩) (fun v _ _ => ⟨v, rfl⟩) b W.heap.size nn _ _ _ rfl hrg ?_ ?_)
      | gi_in)
    · intro hc0 hl0
      gi_wp2
      go_end0
      exact ⟨⟨_, rfl⟩, ss, ⟨hC.1, fun x => by rw [hC.2 x, hl0]; simp⟩, hJs⟩
    · intro x c kl yd yp w2 cnt2 hkey hlk hv hat hrg2 hlt hg2 hs2 hen
      obtain ⟨x', ex, rfl⟩ := keyOf_u32 u_u32 hkey
      obtain rfl : x = x' := encU_inj ex
      have hJ2 : J ss w2 := hJ ss wr w2 (some W.heap.size) hJs hg2 (fun r e => by cases e; exact ⟨Nat.le_refl _, hrg.iter_walk⟩)
      obtain ⟨fn, tmps, assign, body, hy, hR⟩ := hY ss x w2 hJ2 (by omega)
      clear hs2
      gi_wp2
      refine hR.mono ?_
      rintro e W3 ⟨rfl, hJ3, hk3⟩
      gi_wp2
      have hrg3 := hrg2.of_walks hk3
      go_roundw
      case rel => exact ⟨_, cnt2, ss ++ [x], hrg3, by simp; omega, hC.step hlk hat, hJ3⟩
      case measure => rw [hrg3.left_eq, hrg.left_eq]; exact hlt
end Go.Sg
namespace Go.Sg
open Go Vc Go.Proofs Go.RowKit Go.Maps Go.Sort Go.Shelf
def apAssign : Code := (Code.region 2 #[{ dst := some 5, op := Op.assign (Operand.tmp 7), type := t_uint32, pos := "iter.go:51", after := #[], guard := none }] false)
def apBody : Code := (Code.block 1 (Code.region 3 #[{ dst := some 8, op := Op.load t_S_uint32 (Operand.tmp 2), type := t_S_uint32, pos := "iter.go:52", after := #[], guard := none }, { dst := some 9, op := Op.move (Operand.tmp 5), type := t_uint32, pos := "iter.go:52", after := #[], guard := none }, { dst := some 10, op := Op.buildSlice t_S_uint32 1 #[(0, Operand.tmp 9)], type := t_S_uint32, pos := "iter.go:52", after := #[{ on := 1, ground := Ground.data }], guard := none }, { dst := some 11, op := Op.call { callee := Callee.builtin Builtin.append, args := #[Operand.tmp 8, Operand.tmp 10], argTypes := #[t_S_uint32, t_S_uint32] }, type := t_S_uint32, pos := "iter.go:52", after := #[{ on := 0, ground := Ground.data }, { on := 2, ground := Ground.data }], guard := none }, { dst := none, op := Op.store t_S_uint32 (Operand.tmp 2) (Operand.tmp 11), type := 0, pos := "iter.go:52", after := #[{ on := 3, ground := Ground.data }, { on := 3, ground := Ground.chain }, { on := 0, ground := Ground.phase }, { on := 1, ground := Ground.phase }, { on := 2, ground := Ground.phase }, { on := 3, ground := Ground.phase }], guard := none }] false))
def apRec (fn : FuncId) (sv : Value) (Bs D : Nat) (st : LoopState) (pend : Option Code) : Loop :=
  { state := st, pending := pend, fn, tmps := #[.slice none 0 0, sv, .pointer (some ⟨Bs, 0, none⟩), undef, .slice none 0 0, undef, sv, undef, undef, undef, undef, undef, undef], params := #[7], assign := apAssign, body := apBody, defers := D }
structure ApAt (w0 : World) (fn : FuncId) (sv : Value) (Bs l D : Nat) (ss : List Int) (W : World) : Prop where
  box : ∃ v, W.heap[Bs]? = some (.cells #[v] t_S_uint32 (0, 0)) ∧ W.ownsRow w0.heap.size t_uint32 1 v ss.length (ss.map encU)
  L : W.heap[l]? = some (.loop (apRec fn sv Bs D .ready none))
  K : W.heap[D]? = some (.deferred (some []))
  below : Below w0.heap.size w0 W
theorem ap_abides (w0 : World) (fn : FuncId) (sv : Value) (Bs l D B : Nat) (hB : w0.heap.size ≤ B) : AbidesFrom B (ApAt w0 fn sv Bs l D) := fun s W W' row h hg hrow => by
  have hrow' : ∀ r, row = some r → ∃ o : Obj, W.heap[r]? = some o ∧ o.isWalk = true := fun r e => (hrow r e).2
  obtain ⟨v, hv, hr⟩ := h.box
  exact ⟨⟨v, (grownBy_keeps hg hrow' hv rfl).trans hv, ownsRow_abides_a hr hg hrow'⟩, (grownBy_keeps hg hrow' h.L rfl).trans h.L, (grownBy_keeps hg hrow' h.K rfl).trans h.K,
    h.below.grown hg h.below.size (fun k e => Nat.le_trans hB (hrow k e).1)⟩
theorem u_su32 : Pg.underlying t_S_uint32 = some (.slice t_uint32) := by kernel_rfl
theorem i_u32 : (Pg.info? t_uint32).map (fun i => (i.zero, i.size, i.bytes)) = some (some (.int .u32 0), 1, 4) := by kernel_rfl
set_option maxRecDepth 100000 in
set_option maxHeartbeats 2000000 in
theorem apYield (F : Fence) (m : Nat) (w0 : World) (fn : FuncId) (hfn : F.fn fn) (sv : Value) (Bs l D : Nat) (hBl : Bs ≠ l) (hDl : D ≠ l) (hDB : D ≠ Bs) (h0B : w0.heap.size ≤ Bs) (h0l : w0.heap.size ≤ l)
    (N : Nat) (hN : N ≤ maxLen) (hNb : N * 4 ≤ 140737488355328) (ss : List Int) (x : Int) (W : World) (h : ApAt w0 fn sv Bs l D ss W) (hlen : ss.length < N) :
    YieldAt F m Pg l #[encU x] W fun e W' => e = .returned (.bool true) ∧ ApAt w0 fn sv Bs l D (ss ++ [x]) W' ∧ KeepsWalks W W' := by
  have mixed := mixed
  have t24 := u_su32
  have t26 := u_u32
  have hne : t_S_uint32 ≠ t_uint32 := by decide
  obtain ⟨i0, hi, hz0, hz1, hz2⟩ := info_parts i_u32
  obtain ⟨v, hv, hrow⟩ := h.box
  refine ⟨fn, #[.slice none 0 0, sv, .pointer (some ⟨Bs, 0, none⟩), undef, .slice none 0 0, undef, sv, encU x, undef, undef, undef, undef, undef], apAssign, apBody, by simpa [apRec] using run_yield (P := Pg) (args := #[encU x]) h.L rfl, roundIn_of_wpIn hfn ?_⟩
  have hl : l < W.heap.size := (Array.getElem?_eq_some_iff.1 h.L).1
  have hbr := run_beginRound (P := Pg) h.L rfl
  obtain ⟨W2, hW2⟩ : ∃ W2, W.putObj l (.loop { apRec fn sv Bs D .ready none with state := .busy }) = W2 := ⟨_, rfl⟩
  rw [hW2] at hbr
  have hg2 : W.grownBy W2 (some l) := by rw [← hW2]; exact grownBy_putObj_a _ _ _
  have hk2 : KeepsWalks W W2 := by rw [← hW2]; exact KeepsWalks.putObj _ h.L rfl
  have hv2 : W2.heap[Bs]? = some (.cells #[v] t_S_uint32 (0, 0)) := by rw [← hW2]; exact (World.putObj_heap_other hBl).trans hv
  have hK2 : W2.heap[D]? = some (.deferred (some [])) := by rw [← hW2]; exact (World.putObj_heap_other hDl).trans h.K
  have hL2 : W2.heap[l]? = some (.loop { apRec fn sv Bs D .ready none with state := .busy }) := by rw [← hW2]; exact World.putObj_heap_same hl
  have hrow2 : W2.ownsRow w0.heap.size t_uint32 1 v ss.length (ss.map encU) := hrow.kept hg2 (ownsRow_ne_a hrow h.L (fun cur e => by first | cases e | exact hne (Obj.cells.inj e).2.1))
  have hb2 : Below w0.heap.size w0 W2 := h.below.grown hg2 h.below.size (fun k e => by cases e; exact h0l)
  obtain ⟨hc2, hf2⟩ := cell_of_box_a hv2
  have hBlt : Bs < W2.heap.size := (Array.getElem?_eq_some_iff.1 hv2).1
  have hl2 : l < W2.heap.size := (Array.getElem?_eq_some_iff.1 hL2).1
  have hDlt : D < W2.heap.size := (Array.getElem?_eq_some_iff.1 hK2).1
  have ne_of : ∀ {j : Nat} {o : Obj}, W2.heap[j]? = some o → (∀ cur, o ≠ .cells cur t_uint32 (0, 0)) → some j ≠ v.ownBlock := fun hj hno => by
    rcases ownsRow_ne_a hrow2 hj hno with e | e
    · rw [e]; simp
    · exact fun e' => e e'.symm
  clear hW2
  unfold apAssign
  gi_wp2_with gi_round_op_a
  unfold apBody
  gi_wp2_with (first
    | (gi_at_builtin; refine wpListIn_append_own _ rfl _ _ t_S_uint32 rfl w0.heap.size t_uint32 i0 (.int .u32 0) 1 4 u_su32 hi hz0 hz1 hz2 rfl (by decide) _ _ _ rfl (hrow2.alloc _) ⟨W2.heap.size, 0, none⟩ 1 1 [encU x] rfl rfl (cell_one_new _ _ _) (by simp [Value.oneCell', encU]) (by omega) (by omega) (by have := hb2.size; simp; omega) ?_; intro v' w3 hown' hg3 hnil3
       have hv3 : w3.heap[Bs]? = some (.cells #[v] t_S_uint32 (0, 0)) := (hg3.block Bs (by simp; omega) (ne_of hv2 (fun cur e => by first | cases e | exact hne (Obj.cells.inj e).2.1))).trans ((Below.heap_alloc _ _ Bs hBlt).trans hv2)
       obtain ⟨hc3, hf3⟩ := cell_of_box_a hv3
       obtain ⟨g', cap', cur', rfl, hbase', hgb', hr1, hr2, hr3, hr4⟩ : ∃ g' cap' cur', v' = .slice (some ⟨g', 0, none⟩) (ss.length + 1) cap' ∧ w0.heap.size ≤ g' ∧ w3.heap[g']? = some (.cells cur' t_uint32 (0, 0)) ∧ ss.length + 1 ≤ cap' ∧ cap' ≤ maxLen ∧ cur'.size = cap' * 1 ∧ cur'.toList.take ((ss.length + 1) * 1) = ss.map encU ++ [encU x] := by
         rcases hown'.2 with ⟨_, h0⟩ | h'
         · exact absurd h0 (by omega)
         · exact h'
       go_frame)
    | gi_round_op_a)
  have hg3' : (W2.alloc (.cells #[encU x] t_uint32)).grownBy w3 v.ownBlock := hg3
  have hL3 : w3.heap[l]? = some (.loop { apRec fn sv Bs D .ready none with state := .busy }) := (hg3'.block l (by simp; omega) (ne_of hL2 (fun cur e => by cases e))).trans ((Below.heap_alloc _ _ l hl2).trans hL2)
  have hK3 : w3.heap[D]? = some (.deferred (some [])) := (hg3'.block D (by simp; omega) (ne_of hK2 (fun cur e => by cases e))).trans ((Below.heap_alloc _ _ D hDlt).trans hK2)
  obtain ⟨w4, hw4⟩ : ∃ w4, w3.setCell ⟨Bs, 0, none⟩ (.slice (some ⟨g', 0, none⟩) (ss.length + 1) cap') = w4 := ⟨_, rfl⟩
  rw [hw4]
  have hg4 : w3.grownBy w4 (some Bs) := by rw [← hw4]; exact grownBy_setCell0_a _ _ _
  have hv4 : w4.heap[Bs]? = some (.cells #[.slice (some ⟨g', 0, none⟩) (ss.length + 1) cap'] t_S_uint32 (0, 0)) := by rw [← hw4]; exact heap_setCell_box_a _ hv3
  have hL4 : w4.heap[l]? = some (.loop { apRec fn sv Bs D .ready none with state := .busy }) := (hg4.block l (Array.getElem?_eq_some_iff.1 hL3).1 (fun e => hBl (by cases e; rfl))).trans hL3
  have hK4 : w4.heap[D]? = some (.deferred (some [])) := (hg4.block D (Array.getElem?_eq_some_iff.1 hK3).1 (fun e => hDB (by cases e; rfl))).trans hK3
  have hrow4 := hown'.kept hg4 (ownsRow_ne_a hown' hv3 (fun cur e => by first | cases e | exact hne (Obj.cells.inj e).2.1))
  have hl4 : l < w4.heap.size := (Array.getElem?_eq_some_iff.1 hL4).1
  have hb3 : Below w0.heap.size w0 w3 := (hb2.alloc hb2.size _).grown hg3' (by have := hb2.size; simp; omega) (fun k e => (hrow2.lt k e).1)
  have hb4 : Below w0.heap.size w0 w4 := hb3.grown hg4 hb3.size (fun k e => by cases e; exact h0B)
  have hk4 : KeepsWalks W w4 := ((hk2.trans (KeepsWalks.alloc _ _)).trans (KeepsWalks.of_grownBy hg3' (ownsRow_not_walk_a (hrow2.alloc _)))).trans (by rw [← hw4]; exact KeepsWalks.setCell _ _ _)
  clear hw4
  refine ⟨_, _, run_endRound none hL4, rfl, ⟨⟨_, (World.putObj_heap_other hBl).trans hv4, ?_⟩, World.putObj_heap_same hl4, (World.putObj_heap_other hDl).trans hK4, hb4.grown (grownBy_putObj_a _ _ _) hb4.size (fun k e => by cases e; exact h0l)⟩, hk4.trans (KeepsWalks.putObj _ hL4 rfl)⟩
  have := hrow4.kept (grownBy_putObj_a w4 l (.loop { { apRec fn sv Bs D .ready none with state := .busy } with state := if (none : Option Code).isNone then .ready else .done, pending := none })) (ownsRow_ne_a hrow4 hL4 (fun cur e => by cases e))
  simpa using this
set_option maxRecDepth 100000 in
set_option maxHeartbeats 2000000 in
theorem appendSeqU_in (F : Fence) (n : Nat) (h11 : F.fn f_slices_AppendSeq_uint32) (hro : F.round = none) (hn : 2 ≤ n) (g : Nat) (lb : Array Value) (hFg : F.fn g) (eg : ∀ args w, (callFunc g args).run Pg w = .ok (.enter g args) w)
    (S : List Int → Prop) (N : Nat) (hN : N ≤ maxLen) (hNb : N * 4 ≤ 140737488355328) (w : World) (hseq : SeqGives F (n - 1) Pg g lb encU S N w) :
    CallsIn F n Pg f_slices_AppendSeq_uint32 #[.slice none 0 0, .func (.func g) #[] lb] w fun e w' => ∃ (v : Value) (ss : List Int), e = .returned v ∧ S ss ∧ w'.ownsRow w.heap.size t_uint32 1 v ss.length (ss.map encU) ∧ Below w.heap.size w w' := by
  have h1 : 1 ≤ n := by omega
  have mixed := mixed
  have t24 := u_su32
  have t26 := u_u32
  have hne : t_S_uint32 ≠ t_uint32 := by decide
  refine callsIn_of_wp_marks b_slices_AppendSeq_uint32_at rfl h11 ?_ hro
  simp only [b_slices_AppendSeq_uint32_nt, List.size_toArray, List.length_cons, List.length_nil, Nat.reduceAdd, Nat.reduceSub, Array.replicate_succ, Array.replicate_zero, List.push_toArray, List.append_toArray, List.nil_append, List.cons_append]
  gi_wp2
  refine wpIn_rangeFunc ?_
  intro fn hfn
  rw [hro]
  obtain ⟨W0, hW0⟩ : ∃ W0, w.alloc (.cells #[.slice none 0 0] t_S_uint32) = W0 := ⟨_, rfl⟩
  have hs0 : W0.heap.size = w.heap.size + 1 := by rw [← hW0]; simp
  have hv0 : W0.heap[w.heap.size]? = some (.cells #[.slice none 0 0] t_S_uint32 (0, 0)) := by rw [← hW0]; exact World.alloc_heap_new w _
  have hb0 : Below w.heap.size w W0 := by rw [← hW0]; exact (Below.refl _ w).alloc (Nat.le_refl _) _
  rw [hW0]
  obtain ⟨W1, hW1⟩ : ∃ W1, (W0.alloc (.deferred (some []))).alloc (.loop (apRec fn (.func (.func g) #[] lb) w.heap.size W0.heap.size .ready none)) = W1 := ⟨_, rfl⟩
  have hold : ∀ k, k < W0.heap.size → W1.heap[k]? = W0.heap[k]? := fun k hk => by
    rw [← hW1]; exact (Below.heap_alloc _ _ k (by simp; omega)).trans (Below.heap_alloc _ _ k hk)
  have hb1 : Below w.heap.size w W1 := by rw [← hW1]; exact (hb0.alloc hb0.size _).alloc (by have := hb0.size; simp; omega) _
  have hs1 : W1.heap.size = W0.heap.size + 2 := by rw [← hW1]; simp
  have hM : ApAt w fn (.func (.func g) #[] lb) w.heap.size (W0.heap.size + 1) W0.heap.size [] W1 :=
    ⟨⟨_, (hold w.heap.size (by omega)).trans hv0, ⟨rfl, .inl ⟨rfl, rfl⟩⟩⟩,
     by rw [← hW1]; have := World.alloc_heap_new (W0.alloc (.deferred (some []))) (.loop (apRec fn (.func (.func g) #[] lb) w.heap.size W0.heap.size .ready none)); rwa [World.size_alloc] at this,
     by rw [← hW1]; exact (Below.heap_alloc _ _ _ (by simp)).trans (World.alloc_heap_new W0 _), hb1⟩
  refine ⟨W0.heap.size + 1, [{ target := .collected W0.heap.size, args := #[] }], W1, { target := .fn (.func g) lb, args := #[.func (.yield (W0.heap.size + 1)) #[] #[]] }, W1, g,
    #[.func (.yield (W0.heap.size + 1)) #[] #[]] ++ lb, W1, ?_, ?_, ?_, ?_, fun _ => h1, ?_⟩
  · rw [← hW1]; exact run_enterLoop_outer _ _ _ _ _
  · simp [resolve, go_sem]
  · intro f' hf'; simp [Target.leads] at hf'; subst hf'; exact hFg
  · simp [invoke, go_sem, eg]
  · refine (hseq (W0.heap.size + 1) (ApAt w fn (.func (.func g) #[] lb) w.heap.size (W0.heap.size + 1) W0.heap.size) W1 hb1 (ap_abides _ _ _ _ _ _ _ hb1.size)
      (fun pre x W hJ hl => apYield F (n - 1 - 1) w fn hfn _ w.heap.size (W0.heap.size + 1) W0.heap.size (by omega) (by omega) (by omega) (Nat.le_refl _) (by omega) N hN hNb pre x W hJ hl) hM).mono ?_
    rintro e W2 ⟨⟨v0, rfl⟩, ss, hS, h2⟩
    obtain ⟨v, hv, hrow⟩ := h2.box
    have hend := run_endLoop (P := Pg) h2.L (by simp [apRec])
    obtain ⟨W3, hW3⟩ : ∃ W3, W2.putObj (W0.heap.size + 1) (.loop { apRec fn (.func (.func g) #[] lb) w.heap.size W0.heap.size .ready none with state := .exhausted }) = W3 := ⟨_, rfl⟩
    rw [hW3] at hend
    have hg3 : W2.grownBy W3 (some (W0.heap.size + 1)) := by rw [← hW3]; exact grownBy_putObj_a _ _ _
    have hv3 : W3.heap[w.heap.size]? = some (.cells #[v] t_S_uint32 (0, 0)) := by rw [← hW3]; exact (World.putObj_heap_other (by omega)).trans hv
    have hK3 : W3.heap[W0.heap.size]? = some (.deferred (some [])) := by rw [← hW3]; exact (World.putObj_heap_other (by omega)).trans h2.K
    have hrow3 := hrow.kept hg3 (ownsRow_ne_a hrow h2.L (fun cur e => by cases e))
    have hb3 : Below w.heap.size w W3 := h2.below.grown hg3 h2.below.size (fun k e => by cases e; omega)
    obtain ⟨hc3, hf3⟩ := cell_of_box_a hv3
    clear hW3
    refine ⟨none, W3, hend, ?_⟩
    gi_wp2
    rw [← hs0]
    refine ⟨by simp, .inl ⟨_, _, rfl, run_takeDeferred hK3, ?_⟩⟩
    exact ⟨_, results_tmp rfl _ _ _, v, ss, rfl, hS, hrow3.kept (grownBy_putObj_a _ _ _) (ownsRow_ne_a hrow3 hK3 (fun cur e => by cases e)), hb3.grown (grownBy_putObj_a _ _ _) hb3.size (fun k e => by cases e; omega)⟩
end Go.Sg
