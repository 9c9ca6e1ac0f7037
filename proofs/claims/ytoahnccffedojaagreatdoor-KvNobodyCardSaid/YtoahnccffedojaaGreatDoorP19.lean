/-
  Part 19 of a proof: own texts, merged by program.
-/
import Derived.Test.YtoahnccffedojaaGreatDoorP18
set_option linter.unusedVariables false
set_option linter.unusedSimpArgs false
/-! Contracts of cache: New. -/
namespace Go.Sg
open Go Vc
section
variable {h : Heap} {K : Kt} {nf n dp dg : Nat} {D : List (List UInt8)} {rd wr : BitVec 64}
/-- The labels of a device. -/
def dlab (dp dg : Nat) : Nat → Nat := fun b => if b = dp then 6 else if b = dg then 7 else 0
theorem c_cache_New (d : Dv dg dp h n D rd wr) (h1 : 1 ≤ nf) (h64 : nf ≤ 64)
    (r : ∀ lab' c h', Lat (dlab dp dg) lab' h → CaS lab' h' c dp nf n D (fun i => D.getD i []) (fun _ => 0) rd wr → h.size ≤ c → Ex (two dp dg) h h' → K (.tuple #[ptr c 0, int 0]) h') :
    Ca f_cache_New #[ptr dp 0, int nf] h K := by
  have hdl := d.lt
  have hb1 := d.b1
  have hne := d.ne
  refine m_cache_New_ok (c_dev_Blocks d ?_)
  rw [BiP_eql]
  refine cdp (fun h => absurd h (by omega)) fun _ => ?_
  rw [BiP_lss]
  refine cdp (fun h => absurd h (by omega)) fun _ => ?_
  rw [BiP_gtr]
  unfold m_cache_New_j10
  refine cdp (fun h => absurd h (by omega)) fun _ => ?_
  unfold m_cache_New_j11
  refine c_chain_New (by omega) (by omega) fun rg rp h2 hrg hrp c2 e2 => ?_
  rw [ex20, ex21, BiP_neq]
  refine cdp (fun h => absurd rfl h) fun _ => ?_
  have hrl : rp < h2.size ∧ rg < h2.size := by
    obtain ⟨_, _, _, r1, _, _, _, _, r2⟩ := c2; exact ⟨r1.lt, r2.lt⟩
  have hrn : rp ≠ rg := c2.ne
  refine mkn (n0 := h2.size) T_frame z_frame (Nat.le_refl _) (by show nf * 4 ≤ _; omega) (by decide) fun fg h3 hfg o3 e3 => ?_
  have hfl := o3.lt
  refine vc_makeMap (ev := nint) fun mb h4 hmb m4 hs4 q4 => ?_
  have e4 : Ext h3 h4 := ⟨by omega, fun b hb _ => q4 b hb⟩
  refine ⟨_, #[ptr dp 0, .slice (some ⟨fg, 0, none⟩) nf nf, .map (some mb), .slice none 0 0, ptr rp 0], rfl, rfl, ?_⟩
  refine bxa (cs := [ptr dp 0, .slice (some ⟨fg, 0, none⟩) nf nf, .map (some mb), .slice none 0 0, ptr rp 0]) fun c h5 e5 hc k5 _ => ?_
  have hl2 := e2.le
  have hl3 := e3.le
  have e25 : Ext h2 h5 := (e3.trans e4).trans e5
  have e05 : Ext h h5 := e2.trans e25
  let lab : Nat → Nat := fun b => if b = dp then 6 else if b = dg then 7 else if b = rp then 4 else if b = rg then 5 else if b = fg then 2 else if b = mb then 3 else if b = c then 1 else 0
  have hlab : Lat (dlab dp dg) lab h := fun b hb => by
    simp only [lab, dlab]
    split
    · rfl
    · split
      · rfl
      · rw [if_neg (by omega), if_neg (by omega), if_neg (by omega), if_neg (by omega), if_neg (by omega)]
  let s0 : CSt := ⟨c, fg, mb, rp, rg, dp, dg, .slice none 0 0, [], [], List.replicate nf Fr.nil, []⟩
  have k0 : Cok lab h5 s0 nf n D rd wr := by
    refine ⟨k5, d.ext e05, (o3.ext e4).ext e5, by simp [s0], h64, ?_, Ow.nil _ _ _, c2.ext e25, ?_, ?_, ?_, ?_, ?_, ?_, ?_, ?_⟩
    · obtain ⟨es, cl, q1, q2⟩ := m4; exact ⟨es, cl, e5.get q1, q2⟩
    · show lab c = 1
      simp only [lab]; rw [if_neg (by omega), if_neg (by omega), if_neg (by omega), if_neg (by omega), if_neg (by omega), if_neg (by omega), if_pos trivial]
    · show lab fg = 2
      simp only [lab]; rw [if_neg (by omega), if_neg (by omega), if_neg (by omega), if_neg (by omega), if_pos trivial]
    · show lab mb = 3
      simp only [lab]; rw [if_neg (by omega), if_neg (by omega), if_neg (by omega), if_neg (by omega), if_neg (by omega), if_pos trivial]
    · show lab rp = 4
      simp only [lab]; rw [if_neg (by omega), if_neg (by omega), if_pos trivial]
    · show lab rg = 5
      simp only [lab]; rw [if_neg (by omega), if_neg (by omega), if_neg (by omega), if_pos trivial]
    · show lab dp = 6
      simp only [lab, if_true]
    · show lab dg = 7
      simp only [lab]; rw [if_neg (by omega), if_pos trivial]
    · intro b hb; simp [s0, Value.ownBlock] at hb
  refine lop (σ := Nat × (Nat → Nat) × Value) (fun p => [int p.1]) (fun p h' => p.1 ≤ nf ∧ Lat lab p.2.1 h5 ∧ Cok p.2.1 h' { s0 with ve := p.2.2, em := List.range p.1 } nf n D rd wr ∧ Ex (Lb lab 1 8) h5 h') (fun p => nf - p.1) (0, lab, .slice none 0 0) rfl ⟨Nat.zero_le _, Lat.refl _ _, k0, Ex.refl _ _⟩ ?_
  rintro ⟨f, l6, v6⟩ h6 N ⟨hf, a6, k6, e6⟩ hN
  simp only at hf a6 k6 e6
  simp only [m_cache_New_l25, gv_zero, gv_succ]
  rw [BiP_lss]
  refine cdp (fun hlt => ?_) (fun hge => ?_)
  · refine em_push (s := { s0 with ve := v6, em := List.range f }) (f := f) k6 (by show (List.range f).length ≤ 64; rw [List.length_range]; omega) fun l7 v7 h7 a7 k7 e7 => ?_
    refine add64 (by omega) ?_
    have := hN (f + 1, l7, v7) h7 ⟨by show f + 1 ≤ nf; omega, a6.trans a7 e6.le, by show Cok l7 h7 { s0 with ve := v7, em := List.range (f + 1) } nf n D rd wr; rw [List.range_succ]; exact k7, a6.ex e6 e7⟩ (by simp only; omega)
    simpa using this
  · have hfn : f = nf := by omega
    subst hfn
    unfold m_cache_New_j40
    refine r l6 c h6 (fun b hb => (a6 b (by have := e05.le; omega)).trans (hlab b hb)) ⟨{ s0 with ve := v6, em := List.range f }, fun _ => none, rfl, rfl, k6, ?_, fun i hi => by simp [vw], fun i => by simp [pn], rfl⟩ (by have := e4.le; omega) ?_
    · refine ⟨fun i => by simp [s0], fun i g hg => by simp [s0] at hg, ?_, fun g hg => ?_, by simp [s0], fun g => by simp [s0], fun i e hE => by cases hE⟩
      · show ([] ++ List.range f ++ []).Nodup
        simp [List.nodup_range]
      · simpa [s0] using hg
    · refine ⟨by have := e05.le; have := e6.le; omega, fun b hb hm => ?_⟩
      rw [e6.eq b (by have := e05.le; omega) fun x => ?_, e05.eq b hb (fun x => x)]
      have hl := hlab b hb
      obtain ⟨x1, x2⟩ := x
      rw [hl] at x1
      simp only [dlab] at x1
      split at x1
      · rename_i he; exact hm (.inl he)
      · split at x1
        · rename_i he; exact hm (.inr he)
        · omega
end
end Go.Sg
/-! Building bytes in a slice of the call's own. -/
namespace Go.Sg
open Go Vc
/-- From a slice v to v': nothing else that was there has turned. -/
structure Bld (h : Heap) (v : Value) (h' : Heap) (v' : Value) : Prop where
  ex : Ex (fun b => v.ownBlock = some b) h h'
  at_ : v'.ownBlock = v.ownBlock ∨ ∃ b, v'.ownBlock = some b ∧ h.size ≤ b
theorem Bld.refl (h v) : Bld h v h v := ⟨Ex.refl _ _, .inl rfl⟩
theorem Bld.trans {h1 h2 h3 : Heap} {v1 v2 v3 : Value} (a : Bld h1 v1 h2 v2) (b : Bld h2 v2 h3 v3) : Bld h1 v1 h3 v3 := by
  refine ⟨⟨Nat.le_trans a.ex.le b.ex.le, fun x hx hm => (b.ex.eq x (Nat.lt_of_lt_of_le hx a.ex.le) fun he => ?_).trans (a.ex.eq x hx hm)⟩, ?_⟩
  · rcases a.at_ with h | ⟨c, h, hc⟩
    · exact hm (h ▸ he)
    · rw [h] at he; cases he; omega
  · rcases b.at_ with h | ⟨c, h, hc⟩
    · rcases a.at_ with h' | ⟨c, h', hc⟩
      · exact .inl (h.trans h')
      · exact .inr ⟨c, h.trans h', hc⟩
    · exact .inr ⟨c, h, Nat.le_trans a.ex.le hc⟩
theorem Bld.ext {h1 h2 : Heap} {v : Value} (e : Ext h1 h2) : Bld h1 v h2 v := ⟨e.toM, .inl rfl⟩
theorem Bld.blk {h h' : Heap} {v v' : Value} (a : Bld h v h' v') {b : Nat} {cs : List Value} (k : Blk h b cs) (hb : v.ownBlock ≠ some b) : Blk h' b cs := k.ex a.ex hb
/-- What was built anew: nothing that was there has turned. -/
theorem Bld.new {h h' : Heap} {v v' : Value} (a : Bld h v h' v') (hv : v.ownBlock = none) : Ext h h' := a.ex.mono fun x _ hx => by rw [hv] at hx; cases hx
theorem Bld.ne {h h' : Heap} {v v' : Value} (a : Bld h v h' v') {b : Nat} (hb : b < h.size) (hv : v.ownBlock ≠ some b) : v'.ownBlock ≠ some b := fun he => by
  rcases a.at_ with h | ⟨c, h, hc⟩
  · exact hv (h ▸ he)
  · rw [h] at he; cases he; omega
theorem Ow.bld {α : Type} [El α] {e} {h h' : Heap} {v v' x : Value} {l : List α} (o : Ow 0 e h x l) (a : Bld h v h' v') (hn : ∀ b, x.ownBlock = some b → v.ownBlock ≠ some b) : Ow 0 e h' x l := o.exb a.ex hn
/-- A slice built anew. -/
theorem Ow.anew {α : Type} [El α] {e} {n0 : Nat} {h : Heap} {v : Value} {l : List α} (o : Ow 0 e h v l) (hb : ∀ b, v.ownBlock = some b → n0 ≤ b) : Ow n0 e h v l := by
  rcases o with o | ⟨g, cap, cur, h1, h2, h3⟩
  · exact .inl o
  · exact .inr ⟨g, cap, cur, h1, hb g (by rw [h1]; rfl), h3⟩
section
variable {h : Heap} {K : Kt} {v x : Value} {l : List UInt8} {ty : TypeId}
theorem bytes_cells (s : Str) : Lib.strCells ⟨s.toArray⟩ = cells s := by
  show (s.toArray.toList.map fun b => Value.int .u8 b.toNat) = _
  induction s with
  | nil => rfl
  | cons a s ih => simp only [List.toArray_cons] at *; simpa [cells, El.enc] using ih
theorem i_byte : ∃ i, Pg.info? t_uint8 = some i ∧ i.zero = some (.int .u8 0) ∧ i.size = 1 ∧ i.bytes = 1 := by
  have h : (Pg.info? t_uint8).map (fun i => (i.zero, i.size, i.bytes)) = some (some (.int .u8 0), 1, 1) := by kernel_rfl
  cases hi : Pg.info? t_uint8 with
  | none => rw [hi] at h; cases h
  | some i =>
    rw [hi] at h
    simp only [Option.map_some, Option.some.injEq, Prod.mk.injEq] at h
    exact ⟨i, rfl, h.1, h.2.1, h.2.2⟩
/-- append(own, list...). -/
theorem bld_app {U} {m : List UInt8} (o : Ow 0 t_uint8 h v l) (s : Sl U h x m) (hl : l.length + m.length ≤ 2 ^ 40) (r : ∀ v' h', Ow 0 t_uint8 h' v' (l ++ m) → Bld h v h' v' → K v' h') :
    VH Pg (Builtin.append_ #[t_S_uint8, t_S_uint8] ty #[v, x]) h K :=
  app_ob T_byte o s hl (by decide) fun v' h' o' e' hv => r v' h' o' ⟨e', hv.imp id fun h => ⟨_, h, Nat.le_refl _⟩⟩
/-- append(own, text...). -/
theorem bld_str {s : Str} (o : Ow 0 t_uint8 h v l) (hl : l.length + s.length ≤ 2 ^ 40) (r : ∀ v' h', Ow 0 t_uint8 h' v' (l ++ s) → Bld h v h' v' → K v' h') :
    VH Pg (Builtin.append_ #[t_S_uint8, t_string] ty #[v, str s]) h K := by
  obtain ⟨i, hi, hz, hs, hb⟩ := i_byte
  have hts : Pg.underlying t_string = some .string := by kernel_rfl
  intro w hw
  subst hw
  have hsz : (ByteArray.mk s.toArray).size = s.length := by simp [ByteArray.size]
  have ow := o.owns w rfl
  have hz1 : El.z UInt8 = 1 := rfl
  have h63 : l.length + s.length ≤ maxLen := by simp only [maxLen]; omega
  rcases o.cases' with ⟨rfl, hl0⟩ | ⟨g, cap, rfl, _, og⟩
  · subst hl0
    have ow' : w.ownsRow w.heap.size t_uint8 1 (.slice none 0 0) ([] : List UInt8).length (cells ([] : List UInt8)) := (Ow.nil (α := UInt8) w.heap.size t_uint8 w.heap).owns w rfl
    obtain ⟨v', w', h1, h2, h3, h4⟩ := Lib.run_append_own_string (P := Pg) w w.heap.size t_S_uint8 t_string ty t_uint8 i T_byte.und hts hi hz hs hb _ _ _ ow' ⟨s.toArray⟩ (by rw [hsz]; exact h63) (by rw [hsz]; simp only [List.length_nil]; omega) (Nat.le_refl _)
    rw [hsz, bytes_cells, ← cells_append] at h2
    have o2 : Ow w.heap.size t_uint8 w'.heap v' ([] ++ s) := Ow.of h2
    refine ⟨v', w', h1, grown_kin h3, r _ _ (o2.low (Nat.zero_le _)) ⟨⟨h3.size, fun b hb _ => h3.block b hb (by simp [Value.ownBlock])⟩, ?_⟩⟩
    rcases o2.cases' with ⟨rfl, _⟩ | ⟨g, cap, rfl, hg, _⟩
    · exact .inl rfl
    · exact .inr ⟨g, rfl, hg⟩
  · obtain ⟨v', w', h1, h2, h3, h4⟩ := Lib.run_append_own_string (P := Pg) w 0 t_S_uint8 t_string ty t_uint8 i T_byte.und hts hi hz hs hb _ _ _ ow ⟨s.toArray⟩ (by rw [hsz]; exact h63) (by rw [hsz]; omega) (Nat.zero_le _)
    rw [hsz, bytes_cells, ← cells_append] at h2
    have o2 : Ow 0 t_uint8 w'.heap v' (l ++ s) := Ow.of h2
    refine ⟨v', w', h1, grown_kin h3, r _ _ o2 ⟨⟨h3.size, fun b hb hm => h3.block b hb fun he => hm he.symm⟩, ?_⟩⟩
    obtain ⟨cur, q1, q2, q3, q4, q5⟩ := og
    by_cases hr : l.length + s.length ≤ cap
    · have hh := Lib.run_append_room_string (P := Pg) w t_S_uint8 t_string ty t_uint8 i T_byte.und hts hi hs g l.length cap cur.toArray q1 ⟨s.toArray⟩ (by rw [hsz]; exact hr) (by rw [hsz]; simp only [List.size_toArray]; rw [q4, hz1]; omega)
      rw [hh] at h1
      injection h1 with h1 _
      rw [← h1]; exact .inl rfl
    · have holds : ∀ j u, (cells l)[j]? = some u → w.cell? ((⟨g, 0, none⟩ : Addr).add j) = some u := ow.cells (g := g) rfl
      have hh := Lib.run_append_grow_string (P := Pg) w t_S_uint8 t_string ty t_uint8 i (.int .u8 0) T_byte.und hts hi hz ⟨g, 0, none⟩ l.length cap (cells l) (by rw [cells_length, hs, hz1]) holds ⟨s.toArray⟩ (by rw [hsz]; omega) (by rw [hsz]; omega) (by rw [hsz, hb]; exact growslice_fits (by omega) (by omega))
      rw [hh] at h1
      injection h1 with h1 _
      rw [← h1]; exact .inr ⟨_, rfl, Nat.le_refl _⟩
theorem zc_rep (n : Nat) : ∀ i z, Pg.info? t_uint8 = some i → i.zero = some z → (Builtin.zeroCells z.cells n).toList = cells (List.replicate n (0 : UInt8)) := fun i z h1 h2 => zeroCells_rep (z_byte i z h1 h2) n
/-- append(own, make([]byte, n)...). -/
theorem bld_zer {n : Nat} (o : Ow 0 t_uint8 h v l) (hl : l.length + n ≤ 2 ^ 40) (r : ∀ v' h', Ow 0 t_uint8 h' v' (l ++ List.replicate n 0) → Bld h v h' v' → K v' h') :
    VH Pg (Builtin.append_ #[t_S_uint8, t_int] ty #[v, .int .i64 n]) h K := by
  obtain ⟨i, hi, hz, hs, hb⟩ := i_byte
  have hti : Pg.underlying t_int = some (.int .i64) := by kernel_rfl
  have hw64 : IntKind.i64.wrap (n : Int) = n := wrap64 (by omega) (by omega)
  have hn0 : ¬ (n : Int) < 0 := by omega
  have hw0 : IntKind.i64.wrap 0 = 0 := wrap64 (by omega) (by omega)
  have hn48 : ¬ (281474976710656 < (n : Int)) := by omega
  have grow : ∀ (a : Option Addr) (cap : Nat), v = .slice a l.length cap → cap < l.length + n → 0 < n → VH Pg (Builtin.append_ #[t_S_uint8, t_int] ty #[v, .int .i64 n]) h K := by
    intro a cap hv hg hn
    refine app_zeros (U := No) T_byte hti hv (o.sl fun _ _ h => h) (List.replicate n 0) (zc_rep n) (by simp) hn hg hl (by decide) fun g c h1 o1 hg1 e1 => ?_
    refine r _ _ (o1.ow' (Nat.zero_le _) (by simp)) ⟨e1.toM, .inr ⟨g, rfl, by omega⟩⟩
  rcases o.cases' with ⟨rfl, hl0⟩ | ⟨g, cap, rfl, _, og⟩
  · by_cases hn : n = 0
    · subst hn
      refine vh_pure (v := .slice none 0 0) (fun w hw => ?_) (r _ _ (by simpa using o) (Bld.refl _ _))
      simp [Builtin.append_, run_underlying T_byte.und, run_underlying hti, sizeOf, typeInfo, hi, asInt, asIntOf, hw0, hs, hb]
    · subst hl0
      exact grow none 0 rfl (by simp; omega) (by omega)
  · by_cases hr : l.length + n ≤ cap
    · have ow := og.write l.length (List.replicate n (0 : UInt8)) (Nat.le_refl _) (by simpa using hr)
      rw [List.take_length, List.drop_eq_nil_of_le (by omega), List.append_nil] at ow
      obtain ⟨cur, c1, c2, c3, c4, c5⟩ := og
      have hb' : Blk h g cur := ⟨t_uint8, c1⟩
      have hz1 : El.z UInt8 = 1 := rfl
      intro w hw
      subst hw
      have hst := run_storeCells_cells (P := Pg) g (l.length * El.z UInt8) (cells (List.replicate n (0 : UInt8))) 0 w (fun j hj => by
          rw [cell_hget, hb'.get, Nat.add_zero, List.getElem?_eq_getElem (by
            rw [cells_length, List.length_replicate, hz1] at hj
            rw [c4, hz1]; omega)]; rfl)
        (fun j _ => by rw [frozen_hfz]; exact hb'.fz _) (cells_one _)
      simp only [Nat.add_zero, hz1, Nat.mul_one] at hst
      rw [hz1, Nat.mul_one] at ow
      refine ⟨.slice (some ⟨g, 0, none⟩) (l.length + n) cap, w.setCells g l.length (cells (List.replicate n (0 : UInt8))), ?_, kin_sets _ _ _ _, ?_⟩
      · by_cases hn : n = 0
        · subst hn
          simp [Builtin.append_, run_underlying T_byte.und, run_underlying hti, sizeOf, typeInfo, hi, asInt, asIntOf, hw0, hs, hb, c2, storeCells, World.setCells]
        · have hzc := zc_rep n i _ hi hz
          simp [Builtin.append_, run_underlying T_byte.und, run_underlying hti, sizeOf, typeInfo, zeroValue, hi, asInt, asIntOf, hw64, hs, hb, hn0, hn48, hz, hn, hr, Addr.add_lit, hzc, hst]
      · rw [sets_hsets]
        refine r _ _ (ow.ow' (Nat.zero_le _) (by simp)) ⟨hsets_ex rfl, .inl rfl⟩
    · have := og.le
      exact grow _ cap rfl (by omega) (by omega)
end
end Go.Sg
