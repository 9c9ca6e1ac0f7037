/-
  Part 5 of a proof: own texts, merged by program.
-/
import Derived.Test.YtfdephgpijheoaaGreatDoorP04
set_option linter.unusedVariables false
set_option linter.unusedSimpArgs false
namespace Go.Sg
open Go Vc
section
variable {α : Type} [El α] {t t' e ty : TypeId} {by' : Nat} {h : Heap} {K : Kt} {n0 : Nat}
theorem Sl.cells {U v} {l : List α} (s : Sl U h v l) : ∃ a cap, v = .slice a l.length cap ∧ ((a = none ∧ l = []) ∨ ∃ b o, a = some ⟨b, o, none⟩ ∧ ∀ j v, (cells l)[j]? = some v → hget h b (o + j) = some v) := by
  obtain ⟨a, cap, h1, h2, h3, h4⟩ := s.out
  refine ⟨a, cap, h1, ?_⟩
  cases a with
  | none => exact .inl ⟨rfl, List.eq_nil_of_length_eq_zero (by have := h3 rfl; omega)⟩
  | some a =>
    obtain ⟨b, o, sp⟩ := a
    obtain ⟨k1, k2⟩ := h4 _ rfl
    simp only at k1
    subst k1
    refine .inr ⟨b, o, rfl, ?_⟩
    by_cases hl : l = []
    · subst hl; intro j v hj; simp at hj
    · exact (k2 hl).2.2
theorem run_first (w : World) {U v} {l : List α} (s : Sl U w.heap v l) (n : Nat) (hn : n ≤ l.length) : (Builtin.firstCells (El.z α) n v).run Pg w = .ok (cells (l.take n)).toArray w := by
  obtain ⟨a, cap, rfl, ⟨rfl, rfl⟩ | ⟨b, o, rfl, hc⟩⟩ := s.cells
  · simp [Builtin.firstCells]
  · simp only [Builtin.firstCells]
    have hl : (Sg.cells (l.take n)).length = n * El.z α := by rw [cells_length, List.length_take, Nat.min_eq_left hn]
    rw [← hl]
    refine run_loadCells_list (P := Pg) w ⟨b, o, none⟩ _ fun j v hj => ?_
    rw [Addr.add_lit, cell_hget]
    refine hc j v ?_
    rw [← cells_take, List.getElem?_take] at hj
    split at hj
    · exact hj
    · cases hj
theorem copy_own {U} (T : SlT α t e by') {g k dl dc cap : Nat} {src : Value} {l m : List α} (o : Own g cap e h l) (s : Sl U h src m) (hk : k ≤ l.length) (hm : k + min m.length dl ≤ cap)
    (r : ∀ h', Own g cap e h' (l.take k ++ m.take dl ++ l.drop (k + min m.length dl)) → Ex (fun x => x = g) h h' → K (int (min m.length dl : Nat)) h') :
    VH Pg (Builtin.copy_ #[t, t'] ty #[.slice (some ⟨g, k * El.z α, none⟩) dl dc, src]) h K := by
  obtain ⟨i, z, hi, hz, hs, hb, hzs⟩ := T.info
  intro w hw
  subst hw
  have hml : (m.take dl).length = min m.length dl := by simp; omega
  have hf := run_first w s (min m.length dl) (Nat.min_le_left _ _)
  have hmt : m.take (min m.length dl) = m.take dl := by
    rcases Nat.le_total m.length dl with h | h
    · rw [Nat.min_eq_left h, List.take_length, List.take_of_length_le h]
    · rw [Nat.min_eq_right h]
  rw [hmt] at hf
  have hlen : (Builtin.lenOf src).run Pg w = .ok m.length w := by
    obtain ⟨a, cap, rfl, _⟩ := s.cells; simp [Builtin.lenOf]
  have ow := o.write k (m.take dl) hk (by omega)
  rw [hml] at ow
  obtain ⟨cur, c1, c2, c3, c4, c5⟩ := o
  have hb' : Blk w.heap g cur := ⟨e, c1⟩
  have hst := run_storeCells_cells (P := Pg) g (k * El.z α) (cells (m.take dl)) 0 w (fun j hj => by
      rw [cell_hget, hb'.get, Nat.add_zero, List.getElem?_eq_getElem (by
        rw [cells_length, hml] at hj
        have : (k + min m.length dl) * El.z α ≤ cap * El.z α := Nat.mul_le_mul_right _ hm
        rw [Nat.add_mul] at this
        omega)]; rfl)
    (fun j _ => by rw [frozen_hfz]; exact hb'.fz _) (cells_one _)
  simp only [Nat.add_zero] at hst
  refine ⟨int (min m.length dl : Nat), w.setCells g (k * El.z α) (cells (m.take dl)), ?_, kin_sets _ _ _ _, ?_⟩
  rotate_left
  · rw [sets_hsets]
    exact r _ ow (hsets_ex rfl)
  · have hmin : m.length.min dl = min m.length dl := rfl
    simp [Builtin.copy_, run_underlying T.und, hlen, sizeOf, typeInfo, hi, hs, hmin, hf, hst, goInt]
theorem Own.ex {g cap} {h' : Heap} {M : Nat → Prop} {l : List α} (o : Own g cap e h l) (k : Ex M h h') (hm : ¬ M g) : Own g cap e h' l := by
  obtain ⟨cur, c1, c2⟩ := o; exact ⟨cur, k.get c1 hm, c2⟩
theorem Own.ext {g cap} {h' : Heap} {l : List α} (o : Own g cap e h l) (k : Ext h h') : Own g cap e h' l := o.ex k fun x => x
theorem Own.sl {U : Nat → Prop} {g cap} {l : List α} (o : Own g cap e h l) (hg : ¬ U g) : Sl U h (.slice (some ⟨g, 0, none⟩) l.length cap) l :=
  ⟨_, cap, rfl, o.le, (fun x => nomatch x), fun x hx => by
    cases hx
    exact ⟨rfl, fun _ => ⟨o.lt, hg, fun j v hj => by rw [Nat.zero_add]; exact o.at hj⟩⟩⟩
theorem app_room {U} (T : SlT α t e by') {g cap : Nat} {x : Value} {l m : List α} (o : Own g cap e h l) (s : Sl U h x m) (hm : l.length + m.length ≤ cap)
    (r : ∀ h', Own g cap e h' (l ++ m) → Ex (fun x => x = g) h h' → K (.slice (some ⟨g, 0, none⟩) (l.length + m.length) cap) h') :
    VH Pg (Builtin.append_ #[t, t] ty #[.slice (some ⟨g, 0, none⟩) l.length cap, x]) h K := by
  obtain ⟨i, z, hi, hz, hs, hb, hzs⟩ := T.info
  intro w hw
  subst hw
  have hf := run_first w s m.length (Nat.le_refl _)
  rw [List.take_length] at hf
  have hlen : (Builtin.lenOf x).run Pg w = .ok m.length w := by
    obtain ⟨a, cap, rfl, _⟩ := s.cells; simp [Builtin.lenOf]
  have ow := o.write l.length m (Nat.le_refl _) hm
  rw [List.take_length, List.drop_eq_nil_of_le (by omega), List.append_nil] at ow
  obtain ⟨cur, c1, c2, c3, c4, c5⟩ := o
  have hb' : Blk w.heap g cur := ⟨e, c1⟩
  have hst := run_storeCells_cells (P := Pg) g (l.length * El.z α) (cells m) 0 w (fun j hj => by
      rw [cell_hget, hb'.get, Nat.add_zero, List.getElem?_eq_getElem (by
        rw [cells_length] at hj
        have : (l.length + m.length) * El.z α ≤ cap * El.z α := Nat.mul_le_mul_right _ hm
        rw [Nat.add_mul] at this
        omega)]; rfl)
    (fun j _ => by rw [frozen_hfz]; exact hb'.fz _) (cells_one _)
  simp only [Nat.add_zero] at hst
  refine ⟨.slice (some ⟨g, 0, none⟩) (l.length + m.length) cap, w.setCells g (l.length * El.z α) (cells m), ?_, kin_sets _ _ _ _, ?_⟩
  rotate_left
  · rw [sets_hsets]
    exact r _ ow (hsets_ex rfl)
  · have hui : ∀ k, ¬ (TypeDesc.slice e = TypeDesc.int k) := fun k h => by cases h
    simp [Builtin.append_, run_underlying T.und, hlen, sizeOf, typeInfo, hi, hs, hf, Addr.add_lit, hst, hm]
theorem clear_own (T : SlT α t e by') (hone : ∀ i z, Pg.info? e = some i → i.zero = some z → ∀ v ∈ z.cells.toList, v.oneCell' = true) {g k n c cap : Nat} {l : List α} (o : Own g cap e h l) (hk : l.length ≤ k) (hn : k + n ≤ cap)
    (r : ∀ h', Own g cap e h' l → Ex (fun x => x = g) h h' → K (.tuple #[]) h') :
    VH Pg (Builtin.clear_ #[t] ty #[.slice (some ⟨g, k * El.z α, none⟩) n c]) h K := by
  obtain ⟨i, z, hi, hz, hs, hb, hzs⟩ := T.info
  intro w hw
  subst hw
  cases n with
  | zero => exact ⟨_, w, by simp [Builtin.clear_, run_underlying T.und], Kin.refl _, r _ o (Ex.refl _ _)⟩
  | succ n =>
    have hzl : (Builtin.zeroCells z.cells (n + 1)).toList.length = (n + 1) * El.z α := by simp [Builtin.zeroCells, hzs]
    have hz1 : ∀ v ∈ (Builtin.zeroCells z.cells (n + 1)).toList, v.oneCell' = true := by
      intro v hv
      simp only [Builtin.zeroCells, Array.toList_map, List.mem_map, Array.toList_range, List.mem_range] at hv
      obtain ⟨j, hj, rfl⟩ := hv
      have hp : 0 < z.cells.size := by rw [hzs]; exact El.pos
      have hlt : j % z.cells.size < z.cells.size := Nat.mod_lt _ hp
      rw [getElem!_pos z.cells _ hlt]
      exact hone i z hi hz _ (by simp)
    obtain ⟨cur, c1, c2, c3, c4, c5⟩ := o
    have hb' : Blk w.heap g cur := ⟨e, c1⟩
    have hle : k * El.z α + (Builtin.zeroCells z.cells (n + 1)).toList.length ≤ cur.length := by
      rw [hzl, ← Nat.add_mul, c4]; exact Nat.mul_le_mul_right _ hn
    have hst := run_storeCells_cells (P := Pg) g (k * El.z α) (Builtin.zeroCells z.cells (n + 1)).toList 0 w (fun j hj => by
        rw [cell_hget, hb'.get, Nat.add_zero, List.getElem?_eq_getElem (by omega)]; rfl)
      (fun j _ => by rw [frozen_hfz]; exact hb'.fz _) hz1
    simp only [Nat.add_zero] at hst
    refine ⟨.tuple #[], w.setCells g (k * El.z α) (Builtin.zeroCells z.cells (n + 1)).toList, ?_, kin_sets _ _ _ _, ?_⟩
    · simp [Builtin.clear_, run_underlying T.und, zeroValue, typeInfo, hi, hz, hst]
    · rw [sets_hsets]
      refine r _ ?_ (hsets_ex rfl)
      have hgen : ∀ (vs : List Value) (h : Heap) (cs : List Value) (o : Nat), h[g]? = some (.cells cs.toArray e (0, 0)) → (hsets h g o vs)[g]? = some (.cells (over cs o vs).toArray e (0, 0)) := by
        intro vs
        induction vs with
        | nil => intro h cs o hh; exact hh
        | cons v vs ih =>
          intro h cs o hh
          rw [hsets, over]
          refine ih _ _ _ ?_
          rw [hset, Array.getElem?_modify, if_pos rfl, hh]
          simp
      refine ⟨_, hgen _ _ _ _ c1, c2, c3, by rw [over_length, c4], ?_⟩
      rw [over_eq _ _ _ hle, List.append_assoc, List.take_append_of_le_length (by rw [List.length_take]; have := Nat.mul_le_mul_right (El.z α) hk; have := Nat.mul_le_mul_right (El.z α) hn; rw [Nat.add_mul] at this; omega), List.take_take, Nat.min_eq_left (Nat.mul_le_mul_right _ hk), c5]
theorem app_zeros {U} (T : SlT α t e by') (htn : Pg.underlying t' = some (.int .i64)) {x : Value} {l : List α} {cap n : Nat} {a : Option Addr} (hx : x = .slice a l.length cap) (s : Sl U h x l) (zs : List α)
    (hzs' : ∀ i z, Pg.info? e = some i → i.zero = some z → (Builtin.zeroCells z.cells n).toList = cells zs) (hn : zs.length = n) (h0 : 0 < n) (hg : cap < l.length + n) (hl : l.length + n ≤ 2 ^ 40) (hby : by' ≤ 64)
    (r : ∀ g c h', Own g c e h' (l ++ zs) → g = h.size → Ext h h' → K (.slice (some ⟨g, 0, none⟩) (l.length + n) c) h') :
    VH Pg (Builtin.append_ #[t, t'] ty #[x, .int .i64 n]) h K := by
  obtain ⟨i, z, hi, hz, hs, hb, hzs⟩ := T.info
  intro w hw
  subst hw
  have hf := run_first w.drew (l := l) (U := U) (v := x) s l.length (Nat.le_refl _)
  rw [List.take_length, hx, ← hs] at hf
  have h48 : n * i.bytes ≤ 281474976710656 := by
    have : n * i.bytes ≤ 2 ^ 40 * 64 := Nat.mul_le_mul (by omega) (by omega)
    omega
  have hr := Lib.run_append_grow_zeros (P := Pg) w t t' ty e i z .i64 .i64 T.und htn hi hz a l.length cap (cells l) hf n h0 (by rw [hs]; exact El.pos) hg (by omega) h48
    (growslice_fits hg (by
      have : (l.length + n) * i.bytes ≤ 2 ^ 40 * 64 := Nat.mul_le_mul hl (by omega)
      omega))
  have hml : l.length + n ≤ maxLen := by simp only [maxLen]; omega
  have hge := grownCap_ge w (l.length + n) cap e
  have hcm := grownCap_le_maxLen w (l.length + n) cap e hml
  rw [hx]
  refine ⟨_, _, hr, ⟨rfl, rfl, rfl⟩, r _ _ _ ?_ rfl ⟨by simp [World.alloc], fun b hb _ => heap_alloc_old w.drew _ hb⟩⟩
  refine ⟨cells l ++ cells zs ++ (Builtin.zeroCells z.cells (grownCap w (l.length + n) cap e - (l.length + n))).toList, ?_, ?_, hcm, ?_, ?_⟩
  · refine (heap_alloc_new w.drew _).trans ?_
    have he : ∀ A B : Array Value, A = B → some (Obj.cells A e (0, 0)) = some (Obj.cells B e (0, 0)) := fun A B h => by rw [h]
    refine he _ _ ?_
    apply Array.toList_inj.1
    simp [hzs' i z hi hz]
  · rw [List.length_append, hn]; exact hge
  · have hc2 : ∀ c, l.length + n ≤ c → l.length + n + (c - (l.length + n)) = c := fun c h => by omega
    simp only [List.length_append, cells_length, Array.length_toList, size_zeroCells, hzs, hn, ← Nat.add_mul]
    rw [hc2 _ hge]
  · rw [List.length_append, ← cells_append, ← List.length_append, ← cells_length, List.take_left]
end
end Go.Sg
namespace Go.Sg
open Go Vc
section
variable {α : Type} [El α] {t e ty ty' : TypeId} {by' : Nat} {h : Heap} {K : Kt} {n0 : Nat}
theorem bnd_nat {i d : Nat} : bnd (some (int i)) d = some i := by simp [bnd]
theorem slice3 (T : SlT α t e by') {a : Option Addr} {n cap i j k : Nat} (hij : i ≤ j) (hjn : j ≤ k) (hk : k ≤ cap) (r : ∀ v, K v h) :
    VH Pg (Instr.sliceAt t (.slice a n cap) (some (int i)) (some (int j)) (some (int k))) h K := by
  obtain ⟨inf, z, hi, hz, hs, hb, hzs⟩ := T.info
  refine vh_pure (v := .slice (if k = i then a else a.map (·.add (i * El.z α))) (j - i) (k - i)) (fun w _ => ?_) (r _)
  have b1 := bnd_ok (P := Pg) (v := int k) (y := cap) (l := k) (code := .slice3Acap) (d := 0) bnd_nat hk w
  have b2 := bnd_ok (P := Pg) (v := int j) (y := k) (l := j) (code := .slice3B) (d := 0) bnd_nat hjn w
  have b3 := bnd_ok (P := Pg) (v := int i) (y := j) (l := i) (code := .slice3C) (d := 0) bnd_nat hij w
  simp [Instr.sliceAt, run_underlying T.und, Instr.slice, Instr.sliceBounds, b1, b2, b3, sizeOf, typeInfo, hi, hs]
theorem sl_own {g n cap i : Nat} {R : Value → Prop} {z : Nat} (hin : i ≤ cap) (hc : 0 < cap) (r : R (.slice (some ⟨g, 0, none⟩) i cap)) (hn : n ≤ cap) : SlP z (.slice (some ⟨g, 0, none⟩) n cap) none (some (int i)) R := by
  refine ⟨_, _, _, 0, i, rfl, rfl, bnd_nat, Nat.zero_le _, hin, fun _ => hn, .inr ⟨_, _, rfl⟩, ?_⟩
  rw [if_neg (by omega)]
  simpa [Addr.add_lit] using r
theorem sl_mid {g n cap i j : Nat} {R : Value → Prop} {z : Nat} {hi : Option Value} (hb : bnd hi n = some j) (hij : i ≤ j) (hj : j ≤ cap) (hn : n ≤ cap)
    (r : ∀ o, (i < cap → o = i * z) → R (.slice (some ⟨g, o, none⟩) (j - i) (cap - i))) : SlP z (.slice (some ⟨g, 0, none⟩) n cap) (some (int i)) hi R := by
  refine ⟨_, _, _, i, j, rfl, bnd_nat, hb, hij, hj, fun _ => hn, .inr ⟨_, _, rfl⟩, ?_⟩
  by_cases hc : cap = i
  · rw [if_pos hc]; exact r 0 (fun h => by omega)
  · rw [if_neg hc]; simpa [Addr.add_lit] using r (i * z) (fun _ => rfl)
theorem delete_gen (T : SlT α t e by') (hone : ∀ i z, Pg.info? e = some i → i.zero = some z → ∀ v ∈ z.cells.toList, v.oneCell' = true) {x : Value} {l : List α} (o : Ow n0 e h x l) (hlen : l.length ≤ 2 ^ 40) {i : Nat} (hi : i < l.length)
    (r : ∀ v' h', Ow n0 e h' v' (l.take i ++ l.drop (i + 1)) → Ex (fun b => n0 ≤ b) h h' → K v' h') :
    LenP (some true) x fun x1 => VH Pg (Instr.sliceAt t x (some (int i)) (some (int (i + 1 : Nat))) (some x1)) h fun x3 h2 =>
      BiP .eql (int i) (int (i + 1 : Nat)) fun x4 => CdP x4 (K x h2)
        (LenP (some true) x fun x5 => SlP (El.z α) x none (some (int i)) fun x6 => SlP (El.z α) x (some (int (i + 1 : Nat))) none fun x7 =>
          VH Pg (Builtin.append_ #[t, t] t #[x6, x7]) h2 fun x9 h8 =>
          True ∧ (LenP (some true) x9 fun x10 => SlP (El.z α) x9 (some x10) (some x5) fun x11 => VH Pg (Builtin.clear_ #[t] ty' #[x11]) h8 fun x13 h12 => K x9 h12)) := by
  rcases o.cases' with ⟨rfl, rfl⟩ | ⟨g, cap, rfl, hg, ow⟩
  · simp at hi
  · have hle := ow.le
    rw [LenP_slice]
    refine slice3 T (by omega) (by omega) hle fun _ => ?_
    rw [BiP_eql]
    refine cdp (fun h => absurd h (by omega)) fun _ => ?_
    rw [LenP_slice]
    refine sl_own (by omega) (by omega) ?_ hle
    have s : Sl No h (.slice (some ⟨g, 0, none⟩) l.length cap) l := ow.sl (fun h => h)
    refine s.part (a := i + 1) (b := l.length) bnd_nat rfl (by omega) (Nat.le_refl _) fun v7 s7 => ?_
    rw [List.take_length] at s7
    have hl1 : (l.take i).length = i := by rw [List.length_take]; omega
    have ap := fun (r : _) => app_room (t := t) (ty := t) (K := fun x9 h8 => True ∧ (LenP (some true) x9 fun x10 => SlP (El.z α) x9 (some x10) (some (int l.length)) fun x11 => VH Pg (Builtin.clear_ #[t] ty' #[x11]) h8 fun x13 h12 => K x9 h12)) T (ow.pre i) s7 (by rw [hl1, List.length_drop]; omega) r
    rw [hl1] at ap
    refine ap fun h8 o8 e8 => ⟨trivial, ?_⟩
    rw [LenP_slice]
    have hn8 : i + (l.drop (i + 1)).length = l.length - 1 := by rw [List.length_drop]; omega
    rw [hn8]
    refine sl_mid (bnd_nat) (by omega) hle (by omega) fun o ho => ?_
    have ho := ho (by omega)
    subst ho
    have hfl : (l.take i ++ l.drop (i + 1)).length = l.length - 1 := by rw [List.length_append, hl1, hn8]
    refine clear_own T hone o8 (by omega) (by omega) fun h12 o12 e12 => ?_
    exact r _ _ (o12.ow' hg hfl) ((e8.trans e12).mono fun x _ hx => by omega)
end
section
variable {h : Heap} {K : Kt} {n0 : Nat}
theorem zero_one {e : TypeId} (h : (Pg.info? e).bind (fun i => i.zero.map fun z => z.cells.toList.all Value.oneCell') = some true) : ∀ i z, Pg.info? e = some i → i.zero = some z → ∀ v ∈ z.cells.toList, v.oneCell' = true := by
  intro i z hi hz v hv
  rw [hi] at h
  simp only [Option.bind_some, hz, Option.map_some, Option.some.injEq, List.all_eq_true] at h
  exact h v hv
theorem c_Delete_Pair {x : Value} {l : List Pair} (o : Ow n0 t_api_Pair h x l) (hlen : l.length ≤ 2 ^ 40) {i : Nat} (hi : i < l.length)
    (r : ∀ v' h', Ow n0 t_api_Pair h' v' (l.take i ++ l.drop (i + 1)) → Ex (fun b => n0 ≤ b) h h' → K v' h') : Ca f_slices_Delete_api_Pair #[x, int i, int (i + 1 : Nat)] h K :=
  m_slices_Delete_api_Pair_ok (delete_gen T_Pair (zero_one (by kernel_rfl)) o hlen hi r)
end
end Go.Sg
namespace Go.Sg
open Go Vc
theorem cxh {f : FuncId} {fn : Func} {args : Array Value} {h : Heap} {K : Kt} {e : Array Value → Sem Value} {v : Value} (hf : Pg.funcs[f]? = some fn) (h1 : (fn.name == "runtime.NumGoroutine") = false) (h2 : fn.body.isNone = true)
    (h3 : Extern.findNext fn = none) (h4 : Extern.find fn = some e) (hr : ∀ w : World, w.heap = h → (e args).run Pg w = .ok v w) (r : K v h) : Cx f args h K := by
  intro w hw
  have h1' : ¬ fn.name = "runtime.NumGoroutine" := by simpa using h1
  have h2' : fn.body = none := by simpa using h2
  exact ⟨v, w, by simp [callFunc, hf, h1', h2', h3, h4, hr w hw], Kin.refl w, by rw [hw]; exact r⟩
section
variable {α : Type} [El α] {t t' e ty ty' : TypeId} {by' : Nat} {h : Heap} {K : Kt} {n0 n1 : Nat}
theorem copy_raw (T : SlT α t e by') {g k dl dc cap b o sl sc : Nat} {l m : List α} (ow : Own g cap e h l) (hsrc : ∀ j v, (cells m)[j]? = some v → hget h b (o + j) = some v) (hml : m.length = min sl dl) (hk : k ≤ l.length) (hm : k + m.length ≤ cap)
    (r : ∀ h', Own g cap e h' (l.take k ++ m ++ l.drop (k + m.length)) → Ex (fun x => x = g) h h' → K (int (m.length : Nat)) h') :
    VH Pg (Builtin.copy_ #[t, t'] ty #[.slice (some ⟨g, k * El.z α, none⟩) dl dc, .slice (some ⟨b, o, none⟩) sl sc]) h K := by
  obtain ⟨i, z, hi, hz, hs, hb, hzs⟩ := T.info
  intro w hw
  subst hw
  have hf : (loadCells ⟨b, o, none⟩ (m.length * El.z α)).run Pg w = .ok (cells m).toArray w := by
    rw [← cells_length]
    exact run_loadCells_list (P := Pg) w ⟨b, o, none⟩ _ fun j v hj => by rw [Addr.add_lit, cell_hget]; exact hsrc j v hj
  have ow' := ow.write k m hk hm
  obtain ⟨cur, c1, c2, c3, c4, c5⟩ := ow
  have hb' : Blk w.heap g cur := ⟨e, c1⟩
  have hst := run_storeCells_cells (P := Pg) g (k * El.z α) (cells m) 0 w (fun j hj => by
      rw [cell_hget, hb'.get, Nat.add_zero, List.getElem?_eq_getElem (by
        rw [cells_length] at hj
        have : (k + m.length) * El.z α ≤ cap * El.z α := Nat.mul_le_mul_right _ hm
        rw [Nat.add_mul] at this
        omega)]; rfl)
    (fun j _ => by rw [frozen_hfz]; exact hb'.fz _) (cells_one _)
  simp only [Nat.add_zero] at hst
  refine ⟨int (m.length : Nat), w.setCells g (k * El.z α) (cells m), ?_, kin_sets _ _ _ _, ?_⟩
  rotate_left
  · rw [sets_hsets]
    exact r _ ow' (hsets_ex rfl)
  · have hmin : sl.min dl = m.length := hml.symm
    simp [Builtin.copy_, run_underlying T.und, Builtin.lenOf, Builtin.firstCells, sizeOf, typeInfo, hi, hs, hmin, hf, hst, goInt]
theorem zeroCells_rep {z : Value} {a : α} (hz : z.cells.toList = El.enc a) (n : Nat) : (Builtin.zeroCells z.cells n).toList = cells (List.replicate n a) := by
  have hsz : z.cells.size = El.z α := by have := congrArg List.length hz; rw [El.len] at this; simpa using this
  apply List.ext_getElem?
  intro j
  have hp := El.pos (α := α)
  by_cases hj : j < n * El.z α
  · have hi : j / El.z α < n := by rw [Nat.div_lt_iff_lt_mul hp]; exact hj
    have hm : j % El.z α < El.z α := Nat.mod_lt _ hp
    have hd : j / El.z α * El.z α + j % El.z α = j := Nat.div_add_mod' _ _
    have h1 : (cells (List.replicate n a))[j]? = (El.enc a)[j % El.z α]? := by
      have := cells_get (l := List.replicate n a) (i := j / El.z α) (a := a) (by rw [List.getElem?_replicate, if_pos hi]) (j % El.z α) hm
      rwa [hd] at this
    rw [h1, ← hz]
    simp only [Builtin.zeroCells, Array.toList_map, Array.toList_range, List.getElem?_map, hsz]
    rw [List.getElem?_range hj]
    simp only [Option.map_some]
    rw [getElem!_pos z.cells _ (by rw [hsz]; exact hm)]
    simp [hsz, hm]
  · rw [List.getElem?_eq_none (by simp [Builtin.zeroCells, hsz]; omega), List.getElem?_eq_none (by rw [cells_length]; simp; omega)]
theorem cap_sl (T : SlT α t e by') {a : Option Addr} {n c : Nat} (r : K (int c) h) : VH Pg (Builtin.cap_ #[t] ty #[.slice a n c]) h K :=
  vh_pure (v := int c) (fun w _ => by simp [Builtin.cap_, run_underlying T.und, goInt]) r
theorem insert_gen {f : FuncId} {zz : Nat} (hzz : zz = El.z α) (T : SlT α t e by') (hby : by' ≤ 64) (htn : Pg.underlying t' = some (.int .i64)) (z0 : α) (hz0 : ∀ i z, Pg.info? e = some i → i.zero = some z → z.cells.toList = El.enc z0)
    {A : Value → Value → Value → Heap → Prop}
    (hov : ∀ (K : Kt) (h : Heap) (va g o la ca lb cb kA kB : Nat) (tA tB : TypeId), va ≠ g → (∃ cs : Array Value, h[va]? = some (.cells cs tA (0, 0))) → (∃ cs : Array Value, h[g]? = some (.cells cs tB (0, 0)) ∧ cs.size ≠ 0) → K (.bool false) h → Cx f #[.slice (some ⟨va, 0, none⟩) la ca, .slice (some ⟨g, o, none⟩) lb cb] h K)
    {x v : Value} {l m : List α} {i : Nat} (o : Ow n0 e h x l) (s : Ow n1 e h v m) (hap : ∀ b, x.ownBlock = some b → b < n1) (hm1 : m.length = 1) (hi : i ≤ l.length) (hn0 : n0 ≤ h.size) (hlen : l.length + m.length ≤ 2 ^ 40)
    (r : ∀ v' h', Ow n0 e h' v' (l.take i ++ m ++ l.drop i) → Ex (fun b => n0 ≤ b) h h' → K v' h') :
    SlP zz x (some (int i)) none fun x1 =>
    LenP (some true) v fun x2 =>
    BiP .eql x2 (.int .i64 0) fun x3 =>
    CdP x3 (K x h)
    (LenP (some true) x fun x4 =>
    BiP .eql (int i) x4 fun x5 =>
    CdP x5
    (VH Pg (Builtin.append_ #[t, t] t #[x, v]) h fun x7 h6 => K x7 h6)
    (BiP .add x4 x2 fun x8 =>
    VH Pg (Builtin.cap_ #[t] ty #[x]) h fun x10 h9 =>
    BiP .gtr x8 x10 fun x11 =>
    CdP x11
    (SlP zz x none (some (int i)) fun x12 =>
    BiP .add x4 x2 fun x13 =>
    BiP .sub x13 (int i) fun x14 =>
    VH Pg (Builtin.append_ #[t, t'] t #[x12, x14]) h9 fun x16 h15 =>
    SlP zz x16 (some (int i)) none fun x17 =>
    VH Pg (Builtin.copy_ #[t, t] ty #[x17, v]) h15 fun x19 h18 =>
    BiP .add (int i) x2 fun x20 =>
    SlP zz x16 (some x20) none fun x21 =>
    SlP zz x (some (int i)) none fun x22 =>
    VH Pg (Builtin.copy_ #[t, t] ty #[x21, x22]) h18 fun x24 h23 =>
    True ∧ (K x16 h23))
    (BiP .add x4 x2 fun x25 =>
    SlP zz x none (some x25) fun x26 =>
    BiP .add (int i) x2 fun x27 =>
    SlP zz x26 (some x27) none fun x28 =>
    Cx f #[v, x28] h9 fun x30 h29 =>
    UnP .not x30 fun x31 =>
    CdP x31
    (BiP .add (int i) x2 fun x32 =>
    SlP zz x26 (some x32) none fun x33 =>
    SlP zz x26 (some (int i)) none fun x34 =>
    VH Pg (Builtin.copy_ #[t, t] ty #[x33, x34]) h29 fun x36 h35 =>
    True ∧ (SlP zz x26 (some (int i)) none fun x37 =>
    VH Pg (Builtin.copy_ #[t, t] ty #[x37, v]) h35 fun x39 h38 =>
    K x26 h38))
    (A x2 x4 x26 h29)))) := by
  subst hzz
  have sx : Sl No h x l := o.sl fun _ _ h => h
  have sv : Sl No h v m := s.sl fun _ _ h => h
  have hm0 : 0 < m.length := by omega
  refine sx.part (a := i) (b := l.length) bnd_nat rfl hi (Nat.le_refl _) fun v1 s1 => ?_
  refine sv.len ?_
  rw [BiP_eql]
  refine cdp (fun h => absurd h (by omega)) fun _ => ?_
  refine sx.len ?_
  rw [BiP_eql]
  refine cdp (fun hin => ?_) fun hin => ?_
  · have hin : i = l.length := by omega
    subst hin
    refine app T o sv hn0 hlen hby fun v' h' o' e' _ => r _ _ ?_ e'
    rw [List.take_length, List.drop_eq_nil_of_le (Nat.le_refl _), List.append_nil]; exact o'
  · rcases o.cases' with ⟨rfl, rfl⟩ | ⟨g, cap, rfl, hg, ow⟩
    · have h0 : i = 0 := by simpa using hi
      exact absurd hin (by simp [h0])
    · have hle := ow.le
      have hgn : g < n1 := hap g rfl
      have hil : i < l.length := by omega
      have hl1 : (l.take i).length = i := by rw [List.length_take]; omega
      have c1 : ((l.length : Int) + m.length) = ((l.length + m.length : Nat) : Int) := by omega
      have c2 : ((i : Int) + m.length) = ((i + m.length : Nat) : Int) := by omega
      refine add64 (by omega) ?_
      refine cap_sl T ?_
      rw [BiP_gtr]
      refine cdp (fun hgr => ?_) fun hfit => ?_
      · refine sl_own (by omega) (by omega) ?_ hle
        refine add64 (by omega) ?_
        refine sub64 (by omega) ?_
        have c3 : ((l.length : Int) + m.length - i) = ((l.length + m.length - i : Nat) : Int) := by omega
        rw [c3]
        generalize hN : l.length + m.length - i = N
        have s12 : Sl No h (.slice (some ⟨g, 0, none⟩) i cap) (l.take i) := by
          have := (ow.pre i).sl (U := No) (fun h => h)
          rwa [hl1] at this
        refine app_zeros T htn (cap := cap) (a := some ⟨g, 0, none⟩) (by rw [hl1]) s12 (List.replicate N z0) (fun ii z h1 h2 => zeroCells_rep (hz0 ii z h1 h2) N) (by simp) (by omega) (by omega) (by omega) hby fun g2 cc h15 o15 hg2 e15 => ?_
        have hL15 : (l.take i ++ List.replicate N z0).length = i + N := by rw [List.length_append, hl1, List.length_replicate]
        rw [hl1]
        have hcc := o15.le
        rw [hL15] at hcc
        refine sl_mid rfl (by omega) hcc hcc fun o17 ho17 => ?_
        have ho17 := ho17 (by omega)
        subst ho17
        have sv15 := sv.ext e15
        have hmin : min m.length (i + N - i) = m.length := by omega
        refine copy_own T o15 sv15 (by omega) (by omega) fun h18 o18 e18 => ?_
        rw [hmin] at o18
        have hL18 : (l.take i ++ List.replicate N z0).take i ++ m.take (i + N - i) ++ (l.take i ++ List.replicate N z0).drop (i + m.length) = l.take i ++ m ++ List.replicate (N - m.length) z0 := by
          rw [List.take_append, hl1, Nat.sub_self, List.take_zero, List.append_nil, List.take_take, Nat.min_self, List.take_of_length_le (by omega : m.length ≤ _), List.drop_append, hl1, List.drop_eq_nil_of_le (by omega : (l.take i).length ≤ _), List.nil_append, List.drop_replicate, (by omega : i + m.length - i = m.length)]
        rw [hL18] at o18
        have hl18 : (l.take i ++ m ++ List.replicate (N - m.length) z0).length = i + N := by simp [hl1]; omega
        refine add64 (by omega) ?_
        rw [c2]
        refine sl_mid rfl (by omega) hcc hcc fun o21 ho21 => ?_
        have ho21 := ho21 (by omega)
        subst ho21
        have ex18 : Ext h h18 := e15.andThen e18 fun x hx => by omega
        have sx18 := sx.ext ex18
        refine sx18.part (a := i) (b := l.length) bnd_nat rfl hi (Nat.le_refl _) fun v22 s22 => ?_
        rw [List.take_length] at s22
        have hd : (l.drop i).length = l.length - i := List.length_drop
        have hmin2 : min (l.drop i).length (i + N - (i + m.length)) = l.length - i := by rw [hd]; omega
        refine copy_own T o18 s22 (by omega) (by omega) fun h23 o23 e23 => ⟨trivial, ?_⟩
        rw [hmin2] at o23
        have hL23 : (l.take i ++ m ++ List.replicate (N - m.length) z0).take (i + m.length) ++ (l.drop i).take (i + N - (i + m.length)) ++ (l.take i ++ m ++ List.replicate (N - m.length) z0).drop (i + m.length + (l.length - i)) = l.take i ++ m ++ l.drop i := by
          have hlm : (l.take i ++ m).length = i + m.length := by rw [List.length_append, hl1]
          rw [List.take_append, hlm, Nat.sub_self, List.take_zero, List.append_nil, List.take_of_length_le (by omega : (l.take i ++ m).length ≤ _), List.take_of_length_le (by rw [hd]; omega : (l.drop i).length ≤ _), List.drop_eq_nil_of_le (by rw [hl18]; omega : (l.take i ++ m ++ List.replicate (N - m.length) z0).length ≤ _), List.append_nil]
        rw [hL23] at o23
        exact r _ _ (o23.ow' (by omega) (by simp [hl1]; omega)) ((ex18.andThen e23 fun x hx => by omega).toM)
      · refine add64 (by omega) ?_
        rw [c1]
        refine sl_own (by omega) (by omega) ?_ hle
        refine add64 (by omega) ?_
        rw [c2]
        refine sl_mid rfl (by omega) (by omega) (by omega) fun o28 _ => ?_
        rcases s.cases' with ⟨_, h0⟩ | ⟨gv', cv', rfl, hgv, wv⟩
        · rw [h0] at hm0; simp at hm0
        · have q1 : ∃ cs : Array Value, h[gv']? = some (.cells cs e (0, 0)) := by obtain ⟨c, hc, _⟩ := wv; exact ⟨_, hc⟩
          have q2 : ∃ cs : Array Value, h[g]? = some (.cells cs e (0, 0)) ∧ cs.size ≠ 0 := by
            obtain ⟨c, hc, h4, h5, h6, _⟩ := ow
            refine ⟨_, hc, ?_⟩
            have := Nat.mul_pos (by omega : 0 < cap) (El.pos (α := α))
            simp only [List.size_toArray]; omega
          refine hov _ h gv' g o28 _ _ _ _ 0 0 e e (by omega) q1 q2 ?_
          rw [UnP_not, Bool.not_false, CdP_true]
          refine add64 (by omega) ?_
          rw [c2]
          refine sl_mid rfl (by omega) (by omega) (by omega) fun o33 ho33 => ?_
          have ho33 := ho33 (by omega)
          subst ho33
          refine sl_mid rfl (by omega) (by omega) (by omega) fun o34 ho34 => ?_
          have ho34 := ho34 (by omega)
          subst ho34
          have hd : (l.drop i).length = l.length - i := List.length_drop
          refine copy_raw T ow (m := l.drop i) (k := i + m.length) (fun j w hj => ow.at (by rw [← cells_drop, List.getElem?_drop] at hj; exact hj)) (by rw [hd]; omega) (by omega) (by rw [hd]; omega) fun h35 o35 e35 => ⟨trivial, ?_⟩
          have hL35 : l.take (i + m.length) ++ l.drop i ++ l.drop (i + m.length + (l.drop i).length) = l.take (i + m.length) ++ l.drop i := by
            rw [List.drop_eq_nil_of_le (by rw [hd]; omega : l.length ≤ i + m.length + (l.drop i).length), List.append_nil]
          rw [hL35] at o35
          have hl35 : (l.take (i + m.length)).length = i + m.length := by rw [List.length_take]; omega
          refine sl_mid rfl (by omega) (by omega) (by omega) fun o37 ho37 => ?_
          have ho37 := ho37 (by omega)
          subst ho37
          have sv35 : Sl No h35 _ m := (s.ex e35 (fun b hb _ => by omega)).sl fun _ _ h => h
          refine copy_own T o35 sv35 (by rw [List.length_append, hl35]; omega) (by omega) fun h38 o38 e38 => ?_
          have hmin : min m.length (l.length + m.length - i) = m.length := by omega
          rw [hmin] at o38
          have hL38 : (l.take (i + m.length) ++ l.drop i).take i ++ m.take (l.length + m.length - i) ++ (l.take (i + m.length) ++ l.drop i).drop (i + m.length) = l.take i ++ m ++ l.drop i := by
            rw [List.take_append_of_le_length (by omega), List.take_take, Nat.min_eq_left (by omega), List.take_of_length_le (by omega : m.length ≤ _), List.drop_append, hl35, Nat.sub_self, List.drop_zero, List.drop_eq_nil_of_le (by omega : (l.take (i + m.length)).length ≤ _), List.nil_append]
          rw [hL38] at o38
          exact r _ _ (o38.ow' hg (by simp [hl1]; omega)) ((e35.trans e38).mono fun x _ hx => by omega)
end
theorem ov_ok {f : FuncId} {fn : Func} {t e tb : TypeId} {α : Type} [El α] {by' : Nat} (T : SlT α t e by') (hf : Pg.funcs[f]? = some fn) (h1 : (fn.name == "runtime.NumGoroutine") = false) (h2 : fn.body.isNone = true)
    (h3 : Extern.findNext fn = none) (h4 : Extern.find fn = some (Extern.SlicesOverlaps.overlaps #[t, t] #[tb])) :
    ∀ (K : Kt) (h : Heap) (va g o la ca lb cb kA kB : Nat) (tA tB : TypeId), va ≠ g → (∃ cs : Array Value, h[va]? = some (.cells cs tA (0, 0))) → (∃ cs : Array Value, h[g]? = some (.cells cs tB (0, 0)) ∧ cs.size ≠ 0) → K (.bool false) h → Cx f #[.slice (some ⟨va, 0, none⟩) la ca, .slice (some ⟨g, o, none⟩) lb cb] h K := by
  intro K h va g o la ca lb cb kA kB tA tB hne ⟨c1, q1⟩ ⟨c2, q2, q3⟩ r
  obtain ⟨i, z, hi, hz, hs, hb, hzs⟩ := T.info
  refine cxh hf h1 h2 h3 h4 (fun w hw => ?_) r
  subst hw
  refine Lib.run_overlaps_apart (P := Pg) w t tb e T.und (El.z α) (fun w => by simp [sizeOf, typeInfo, hi, hs]) ⟨va, 0, none⟩ ⟨g, o, none⟩ la ca lb cb hne tA tB c1.size c2.size ?_ ?_ q3 ?_ ?_
  · simp [World.shape?, q1]
  · simp [World.shape?, q2]
  · simp [World.frozen?, q1]
  · simp [World.frozen?, q1]
section
variable {h : Heap} {K : Kt} {n0 n1 : Nat}
theorem c_Insert_Pair {x v : Value} {l : List Pair} {a : Pair} {i : Nat} (o : Ow n0 t_api_Pair h x l) (s : Ow n1 t_api_Pair h v [a]) (hap : ∀ b, x.ownBlock = some b → b < n1) (hi : i ≤ l.length) (hn0 : n0 ≤ h.size) (hlen : l.length < 2 ^ 40)
    (r : ∀ v' h', Ow n0 t_api_Pair h' v' (l.take i ++ [a] ++ l.drop i) → Ex (fun b => n0 ≤ b) h h' → K v' h') : Ca f_slices_Insert_api_Pair #[x, int i, v] h K :=
  m_slices_Insert_api_Pair_ok (by
    have hz : ∀ i z, Pg.info? t_api_Pair = some i → i.zero = some z → z.cells.toList = El.enc (⟨[], []⟩ : Pair) := by
      have h : (Pg.info? t_api_Pair).bind (fun i => i.zero.map fun z => z.cells.toList) = some [str [], str []] := by kernel_rfl
      intro i z hi hz
      rw [hi] at h
      simp only [Option.bind_some, hz, Option.map_some, Option.some.injEq] at h
      exact h
    have hov := ov_ok (tb := t_bool) T_Pair b_slices_overlaps_api_Pair_at (by kernel_rfl) (by kernel_rfl) (by kernel_rfl) (by kernel_rfl)
    unfold m_slices_Insert_api_Pair
    exact insert_gen (α := Pair) (f := f_slices_overlaps_api_Pair) (zz := 2) rfl T_Pair (by decide) (t' := t_int) (by kernel_rfl) ⟨[], []⟩ hz hov o s hap rfl hi hn0 (by simp only [List.length_singleton]; omega) r)
end
end Go.Sg
namespace Go.Sg
open Go Vc
section
variable {α : Type} (key : α → Str)
def Asc (l : List α) : Prop := l.Pairwise fun a b => key a < key b
def ahead (l : List α) (k : Str) : List α := l.filter fun a => decide (key a < k)
def behind (l : List α) (k : Str) : List α := l.filter fun a => decide (k < key a)
def ins (l : List α) (k : Str) (mid : List α) : List α := ahead key l k ++ mid ++ behind key l k
def pos (l : List α) (k : Str) : Nat := (ahead key l k).length
def has (l : List α) (k : Str) : Bool := l.any fun a => decide (key a = k)
variable {key}
theorem slt_trans {a b c : Str} (h : a < b) (k : b < c) : a < c := List.lt_trans h k
theorem slt_irrefl (a : Str) : ¬ a < a := List.lt_irrefl a
theorem slt_asymm {a b : Str} (h : a < b) : ¬ b < a := List.lt_asymm h
theorem slt_total (a b : Str) : a < b ∨ a = b ∨ b < a := by
  rcases cmp_cases a b with ⟨_, h⟩ | ⟨_, h⟩ | ⟨_, h⟩
  · exact .inl h
  · exact .inr (.inl h)
  · exact .inr (.inr h)
theorem not_slt {a b : Str} : ¬ a < b ↔ b < a ∨ a = b := by
  constructor
  · intro h; rcases slt_total a b with h1 | h1 | h1
    · exact absurd h1 h
    · exact .inr h1
    · exact .inl h1
  · rintro (h | rfl) h2
    · exact slt_asymm h h2
    · exact slt_irrefl _ h2
theorem Asc.cons {a : α} {l : List α} : Asc key (a :: l) ↔ (∀ b ∈ l, key a < key b) ∧ Asc key l := List.pairwise_cons
theorem ahead_nil_of {l : List α} {k : Str} (h : ∀ a ∈ l, ¬ key a < k) : ahead key l k = [] := by
  unfold ahead; rw [List.filter_eq_nil_iff]; intro a ha; simpa using h a ha
theorem behind_all {l : List α} {k : Str} (h : ∀ a ∈ l, k < key a) : behind key l k = l := by
  unfold behind; rw [List.filter_eq_self]; intro a ha; simpa using h a ha
theorem part_asc : ∀ {l : List α} {k : Str}, Asc key l → l = ahead key l k ++ l.filter (fun a => decide (key a = k)) ++ behind key l k ∧ (l.filter fun a => decide (key a = k)).length ≤ 1
  | [], _, _ => by simp [ahead, behind]
  | a :: l, k, h => by
    obtain ⟨h1, h2⟩ := Asc.cons.1 h
    obtain ⟨ih1, ih2⟩ := part_asc (k := k) h2
    rcases slt_total (key a) k with h3 | h3 | h3
    · have n1 : key a ≠ k := fun e => slt_irrefl _ (e ▸ h3)
      have n2 : ¬ k < key a := slt_asymm h3
      simp only [ahead, behind, List.filter_cons, h3, n1, n2, decide_true, decide_false, if_true, Bool.false_eq_true, if_false, List.cons_append]
      exact ⟨by congr 1, ih2⟩
    · have n1 : ¬ key a < k := by rw [h3]; exact slt_irrefl _
      have n2 : ¬ k < key a := by rw [h3]; exact slt_irrefl _
      have n3 : l.filter (fun a => decide (key a = k)) = [] := by
        rw [List.filter_eq_nil_iff]; intro b hb; have := h1 b hb; rw [h3] at this; simp; intro e; rw [e] at this; exact slt_irrefl _ this
      have n4 : ahead key l k = [] := ahead_nil_of fun b hb => by have := h1 b hb; rw [h3] at this; exact slt_asymm this
      have n5 : behind key l k = l := behind_all fun b hb => by have := h1 b hb; rwa [h3] at this
      unfold ahead at n4
      unfold behind at n5
      simp only [ahead, behind, List.filter_cons, h3, n3, n4, n5]
      simp [List.lt_irrefl]
    · have n1 : ¬ key a < k := slt_asymm h3
      have n2 : key a ≠ k := fun e => slt_irrefl _ (e ▸ h3)
      have n3 : l.filter (fun a => decide (key a = k)) = [] := by
        rw [List.filter_eq_nil_iff]; intro b hb; have := slt_trans h3 (h1 b hb); simp; intro e; rw [e] at this; exact slt_irrefl _ this
      have n4 : ahead key l k = [] := ahead_nil_of fun b hb => slt_asymm (slt_trans h3 (h1 b hb))
      have n5 : behind key l k = l := behind_all fun b hb => slt_trans h3 (h1 b hb)
      unfold ahead at n4
      unfold behind at n5
      simp only [ahead, behind, List.filter_cons, n1, n2, h3, decide_true, decide_false, if_true, Bool.false_eq_true, if_false, n3, n4, n5]
      simp
theorem take_pos {l : List α} {k : Str} (h : Asc key l) : l.take (pos key l k) = ahead key l k := by
  have := (part_asc (k := k) h).1
  rw [List.append_assoc] at this
  have h2 := congrArg (List.take (pos key l k)) this
  rw [h2]
  exact List.take_left
theorem drop_pos {l : List α} {k : Str} (h : Asc key l) : l.drop (pos key l k) = l.filter (fun a => decide (key a = k)) ++ behind key l k := by
  have := (part_asc (k := k) h).1
  rw [List.append_assoc] at this
  have h2 := congrArg (List.drop (pos key l k)) this
  rw [h2]
  exact List.drop_left
theorem pos_le {l : List α} {k : Str} : pos key l k ≤ l.length := List.length_filter_le _ _
theorem filter_eq_has {l : List α} {k : Str} (h : has key l k = false) : l.filter (fun a => decide (key a = k)) = [] := by
  rw [List.filter_eq_nil_iff]
  intro a ha
  simp only [has, List.any_eq_false] at h
  exact h a ha
theorem filter_one {l : List α} {k : Str} (h : Asc key l) (hk : has key l k = true) : ∃ a, l.filter (fun a => decide (key a = k)) = [a] ∧ key a = k := by
  obtain ⟨a, ha, hka⟩ := List.any_eq_true.1 hk
  have hm : a ∈ l.filter (fun a => decide (key a = k)) := List.mem_filter.2 ⟨ha, hka⟩
  have h1 := (part_asc (k := k) h).2
  match hf : l.filter (fun a => decide (key a = k)), hm, h1 with
  | [b], _, _ =>
    have : b ∈ l.filter (fun a => decide (key a = k)) := by rw [hf]; simp
    exact ⟨b, rfl, by simpa using (List.mem_filter.1 this).2⟩
  | b :: c :: r, _, h1 => simp at h1
theorem drop_hit {l : List α} {k : Str} (h : Asc key l) (hk : has key l k = true) : l.drop (pos key l k + 1) = behind key l k := by
  obtain ⟨a, h1, _⟩ := filter_one h hk
  have := drop_pos (k := k) h
  rw [h1] at this
  rw [← List.drop_drop, this]; rfl
theorem drop_miss {l : List α} {k : Str} (h : Asc key l) (hk : has key l k = false) : l.drop (pos key l k) = behind key l k := by
  rw [drop_pos h, filter_eq_has hk]; rfl
theorem get_hit {l : List α} {k : Str} (h : Asc key l) (hk : has key l k = true) : ∃ a, l[pos key l k]? = some a ∧ key a = k ∧ a ∈ l := by
  obtain ⟨a, h1, h2⟩ := filter_one h hk
  have := drop_pos (k := k) h
  rw [h1] at this
  refine ⟨a, ?_, h2, ?_⟩
  · have h3 : (l.drop (pos key l k))[0]? = some a := by rw [this]; rfl
    simpa using h3
  · have : a ∈ l.filter (fun a => decide (key a = k)) := by rw [h1]; simp
    exact (List.mem_filter.1 this).1
theorem parts_asc {l : List α} {k : Str} (h : Asc key l) : (∀ i a, l[i]? = some a → i < pos key l k → cmp (key a) k < 0) ∧ (∀ i a, l[i]? = some a → pos key l k ≤ i → 0 ≤ cmp (key a) k) := by
  constructor
  · intro i a hi hlt
    have : (l.take (pos key l k))[i]? = some a := by rw [List.getElem?_take, if_pos hlt]; exact hi
    rw [take_pos h] at this
    have := (List.mem_filter.1 (List.mem_of_getElem? this)).2
    exact cmp_lt.2 (by simpa using this)
  · intro i a hi hle
    have h2 : (l.drop (pos key l k))[i - pos key l k]? = some a := by rw [List.getElem?_drop]; rw [show pos key l k + (i - pos key l k) = i from by omega]; exact hi
    rw [drop_pos h] at h2
    have hm := List.mem_of_getElem? h2
    have : ¬ key a < k := by
      rcases List.mem_append.1 hm with hm | hm
      · have := (List.mem_filter.1 hm).2
        rw [of_decide_eq_true this]; exact slt_irrefl _
      · have := (List.mem_filter.1 hm).2
        exact slt_asymm (of_decide_eq_true this)
    refine Int.not_lt.1 fun hc => this (cmp_lt.1 hc)
theorem ins_asc {l : List α} {k : Str} {mid : List α} (h : Asc key l) (hm : mid = [] ∨ ∃ a, mid = [a] ∧ key a = k) : Asc key (ins key l k mid) := by
  unfold ins Asc
  have h1 : ∀ a ∈ ahead key l k, key a < k := fun a ha => by simpa using (List.mem_filter.1 ha).2
  have h2 : ∀ a ∈ behind key l k, k < key a := fun a ha => by simpa using (List.mem_filter.1 ha).2
  rw [List.append_assoc, List.pairwise_append]
  refine ⟨h.filter _, ?_, ?_⟩
  · rw [List.pairwise_append]
    refine ⟨?_, h.filter _, ?_⟩
    · rcases hm with rfl | ⟨a, rfl, _⟩ <;> simp
    · rcases hm with rfl | ⟨a, rfl, rfl⟩
      · simp
      · intro x hx y hy; simp at hx; subst hx; exact h2 y hy
  · intro x hx y hy
    rcases List.mem_append.1 hy with hz | hy
    · rcases hm with rfl | ⟨a, rfl, rfl⟩
      · simp at hz
      · rw [List.mem_singleton] at hz; subst hz; exact h1 x hx
    · exact slt_trans (h1 x hx) (h2 y hy)
theorem has_ne {l : List α} {k : Str} (h : has key l k = false) : ∀ a ∈ l, key a ≠ k := fun a ha e => by
  simp only [has, List.any_eq_false] at h
  exact h a ha (by simpa using e)
theorem ins_miss {l : List α} {k : Str} (h : Asc key l) (hk : has key l k = false) : ins key l k [] = l := by
  have := (part_asc (k := k) h).1
  rw [filter_eq_has hk] at this
  unfold ins; exact this.symm
end
end Go.Sg
namespace Go.Sg
open Go Vc
section
variable {K : Value → Prop} {a b c d : Value}
@[simp] theorem ex20 : ExP (.tuple #[a, b]) 0 K ↔ K a := by simp [ExP_tuple]
@[simp] theorem ex21 : ExP (.tuple #[a, b]) 1 K ↔ K b := by simp [ExP_tuple]
@[simp] theorem ex30 : ExP (.tuple #[a, b, c]) 0 K ↔ K a := by simp [ExP_tuple]
@[simp] theorem ex31 : ExP (.tuple #[a, b, c]) 1 K ↔ K b := by simp [ExP_tuple]
@[simp] theorem ex32 : ExP (.tuple #[a, b, c]) 2 K ↔ K c := by simp [ExP_tuple]
@[simp] theorem ex40 : ExP (.tuple #[a, b, c, d]) 0 K ↔ K a := by simp [ExP_tuple]
@[simp] theorem ex41 : ExP (.tuple #[a, b, c, d]) 1 K ↔ K b := by simp [ExP_tuple]
@[simp] theorem ex42 : ExP (.tuple #[a, b, c, d]) 2 K ↔ K c := by simp [ExP_tuple]
@[simp] theorem ex43 : ExP (.tuple #[a, b, c, d]) 3 K ↔ K d := by simp [ExP_tuple]
end
section
variable {α : Type} [El α] {e : TypeId} {h : Heap} {n0 : Nat} {R : Heap → Prop}
theorem cells_set {L : List α} {i f : Nat} {a a' : α} {w : Value} (ha : L[i]? = some a) (hf : f < El.z α) (hw : (El.enc a).set f w = El.enc a') : (cells L).set (i * El.z α + f) w = cells (L.set i a') := by
  induction L generalizing i with
  | nil => simp at ha
  | cons b L ih =>
    cases i with
    | zero =>
      simp only [List.getElem?_cons_zero, Option.some.injEq] at ha
      subst ha
      rw [cells_cons, Nat.zero_mul, Nat.zero_add, List.set_append_left _ _ (by rw [El.len]; exact hf), hw]; rfl
    | succ i =>
      simp only [List.getElem?_cons_succ] at ha
      rw [cells_cons, List.set_append_right _ _ (by rw [El.len, Nat.add_mul]; omega), El.len, List.set_cons_succ, cells_cons, ← ih ha]
      congr 2
      rw [Nat.add_mul]; omega
theorem ow_setf {v : Value} {L : List α} {i f : Nat} {a a' : α} {w : Value} {k} {zz : Nat} (hzz : zz = El.z α) (o : Ow n0 e h v L) (ha : L[i]? = some a) (hf : f < El.z α) (hw : (El.enc a).set f w = El.enc a') (h1 : one' w = true)
    (r : ∀ h', Ow n0 e h' v (L.set i a') → Ex (fun b => n0 ≤ b) h h' → R h') : IxP zz v (.int k i) fun q => FaP (some f) q fun p => StP p w h R := by
  subst hzz
  have hi : i < L.length := (List.getElem?_eq_some_iff.1 ha).1
  rcases o.cases' with ⟨_, h0⟩ | ⟨g, cap, rfl, hg, cur, q1, q2, q3, q4, q5⟩
  · rw [h0] at hi; simp at hi
  · refine ⟨g, 0, L.length, cap, k, i, rfl, rfl, by omega, by omega, ?_⟩
    simp only [FaP_ptr, Int.toNat_natCast, Nat.zero_add]
    have hlt : i * El.z α + f < L.length * El.z α := by
      have : (i + 1) * El.z α ≤ L.length * El.z α := Nat.mul_le_mul_right _ hi
      rw [Nat.add_mul, Nat.one_mul] at this; omega
    have hcap : L.length * El.z α ≤ cap * El.z α := Nat.mul_le_mul_right _ q2
    have kb : Blk h g cur := ⟨e, q1⟩
    refine StP_blk kb (by omega) h1 (r _ ?_ (hset_ex hg))
    have hT : (hset h g (i * El.z α + f) w)[g]? = some (.cells (cur.set (i * El.z α + f) w).toArray e (0, 0)) := by
      rw [hset, Array.getElem?_modify, if_pos rfl, q1]; simp
    have ow : Own g cap e (hset h g (i * El.z α + f) w) (L.set i a') :=
      ⟨_, hT, by rw [List.length_set]; exact q2, q3, by rw [List.length_set, q4], by rw [List.length_set, List.take_set, q5, cells_set ha hf hw]⟩
    exact ow.ow' hg (List.length_set ..)
end
end Go.Sg
