/-
  Part 4 of a proof: own texts, merged by program.
-/
import Derived.Maps.AppendAt
import Derived.Laws.OwnMore
import Derived.Laws.CopyRow
import Derived.Lib.AppendStr
import Derived.Test.YtoahnccffedojaaGreatDoorP03
set_option linter.unusedVariables false
set_option linter.unusedSimpArgs false
/-! Comparisons of pointers and slices; slices as lists: reading, making, appending. -/
namespace Go.Sg
open Go Vc
section
variable {t e : TypeId} {xo yo : Operand} {h : Heap} {K : Kt}
theorem vh_pure {m : Sem Value} {v : Value} (hm : ∀ w : World, w.heap = h → m.run Pg w = .ok v w) (r : K v h) : VH Pg m h K :=
  fun w hw => ⟨v, w, hm w hw, Kin.refl w, by rw [hw]; exact r⟩
theorem eqp {op : BinOp} {x y v : Value} (hx : ∀ w, (eqGuard op t xo yo x y).run Pg w = .ok () w) (hb : ∀ w, (binOp op t x y).run Pg w = .ok v w) (r : K v h) : EqP op t xo yo x y h K :=
  vh_pure (v := v) (fun w _ => by simp [hx, hb]) r
theorem eq_ptr_nil {a : Option Addr} (ht : Pg.underlying t = some (.pointer (Pg.pointee t))) (r : K (.bool a.isNone) h) : EqP .eql t xo yo (.pointer a) (.pointer none) h K :=
  eqp (fun w => by simp [eqGuard]) (fun w => run_eql_pointer_nil w t a ht) r
theorem neq_ptr_nil {a : Option Addr} (ht : Pg.underlying t = some (.pointer (Pg.pointee t))) (r : K (.bool !a.isNone) h) : EqP .neq t xo yo (.pointer a) (.pointer none) h K :=
  eqp (fun w => by simp [eqGuard]) (fun w => run_neq_pointer_nil w t a ht) r
theorem run_equalIn_slice_nil' (w : World) (d : Nat) (t e : TypeId) (a : Option Addr) (l c : Nat) (h : Pg.underlying t = some (.slice e)) : (Op.equalIn (d + 1) t (.slice a l c) (.slice none 0 0)).run Pg w = .ok a.isNone w := by
  cases a <;> simp [Op.equalIn, run_underlying h]
theorem run_equal_slice_nil' (w : World) (t e : TypeId) (a : Option Addr) (l c : Nat) (h : Pg.underlying t = some (.slice e)) : (Op.equal t (.slice a l c) (.slice none 0 0)).run Pg w = .ok a.isNone w := run_equalIn_slice_nil' w 9999 t e a l c h
theorem eq_slice_nil {a : Option Addr} {n c : Nat} (ht : Pg.underlying t = some (.slice e)) (r : K (.bool a.isNone) h) : EqP .eql t xo yo (.slice a n c) (.slice none 0 0) h K :=
  eqp (fun w => by simp [eqGuard]) (fun w => by simp only [binOp]; simp [run_equal_slice_nil' w t e a n c ht]) r
end

/-- How an element lies in memory. -/
class El (α : Type) where
  z : Nat
  enc : α → List Value
  len : ∀ a, (enc a).length = z
  pos : 0 < z
  one : ∀ a, ∀ v ∈ enc a, v.oneCell' = true
def cells {α : Type} [El α] (l : List α) : List Value := l.flatMap El.enc
section
variable {α : Type} [El α]
@[simp] theorem cells_nil : cells ([] : List α) = [] := rfl
@[simp] theorem cells_cons (a : α) (l : List α) : cells (a :: l) = El.enc a ++ cells l := rfl
@[simp] theorem cells_append (l m : List α) : cells (l ++ m) = cells l ++ cells m := by simp [cells]
theorem cells_length (l : List α) : (cells l).length = l.length * El.z α := by
  induction l with
  | nil => simp
  | cons a l ih => simp [ih, El.len, Nat.add_mul, Nat.add_comm]
theorem cells_one (l : List α) : ∀ v ∈ cells l, v.oneCell' = true := by
  intro v hv
  obtain ⟨a, _, h⟩ := List.mem_flatMap.1 hv
  exact El.one a v h
theorem one_eq (v : Value) : one' v = v.oneCell' := by cases v <;> rfl
theorem cells_get {l : List α} {i : Nat} {a : α} (hi : l[i]? = some a) (j : Nat) (hj : j < El.z α) : (cells l)[i * El.z α + j]? = (El.enc a)[j]? := by
  induction l generalizing i with
  | nil => simp at hi
  | cons b l ih =>
    cases i with
    | zero =>
      simp only [List.getElem?_cons_zero, Option.some.injEq] at hi
      subst hi
      simp only [cells_cons, Nat.zero_mul, Nat.zero_add]
      rw [List.getElem?_append_left (by rw [El.len]; exact hj)]
    | succ i =>
      simp only [List.getElem?_cons_succ] at hi
      rw [cells_cons, List.getElem?_append_right (by rw [El.len, Nat.add_mul]; omega), El.len, ← ih hi]
      congr 1
      rw [Nat.add_mul]; omega
theorem cells_take (l : List α) (n : Nat) : (cells l).take (n * El.z α) = cells (l.take n) := by
  induction l generalizing n with
  | nil => simp
  | cons a l ih =>
    cases n with
    | zero => simp
    | succ n =>
      rw [cells_cons, List.take_succ_cons, cells_cons, Nat.add_mul, Nat.one_mul, Nat.add_comm, List.take_append, El.len, ← ih]
      simp
      rw [List.take_of_length_le (by rw [El.len]; omega)]
theorem cells_drop (l : List α) (n : Nat) : (cells l).drop (n * El.z α) = cells (l.drop n) := by
  induction l generalizing n with
  | nil => simp
  | cons a l ih =>
    cases n with
    | zero => simp
    | succ n =>
      rw [cells_cons, List.drop_succ_cons, Nat.add_mul, Nat.one_mul, Nat.add_comm, ← ih, List.drop_append, El.len]
      simp [El.len]

/-! ### A slice that is read -/
/-- At v there lies the list l, in blocks that U does not name. -/
structure Sl (U : Nat → Prop) (h : Heap) (v : Value) (l : List α) : Prop where
  out : ∃ a cap, v = .slice a l.length cap ∧ l.length ≤ cap ∧ (a = none → cap = 0) ∧ (∀ x, a = some x → x.spot = none ∧
    (l ≠ [] → x.block < h.size ∧ ¬ U x.block ∧ ∀ j v, (cells l)[j]? = some v → hget h x.block (x.off + j) = some v))
theorem Sl.nil (U h) : Sl U h (.slice none 0 0) ([] : List α) := ⟨none, 0, rfl, by simp, fun _ => rfl, fun x h => by cases h⟩
theorem hget_eq {h h' : Heap} {b : Nat} (e : h'[b]? = h[b]?) (o) : hget h' b o = hget h b o := by simp [hget, e]
/-- What is read stays, whatever else turns. -/
theorem Sl.ex {U V M : Nat → Prop} {h h' : Heap} {v : Value} {l : List α} (s : Sl U h v l) (e : Ex M h h') (hm : ∀ b, b < h.size → M b → U b) (hv : ∀ b, b < h.size → V b → U b) : Sl V h' v l := by
  obtain ⟨a, cap, e1, e2, e3, e4⟩ := s.out
  refine ⟨a, cap, e1, e2, e3, fun x hx => ⟨(e4 x hx).1, fun hl => ?_⟩⟩
  obtain ⟨k1, k2, k3⟩ := (e4 x hx).2 hl
  refine ⟨Nat.lt_of_lt_of_le k1 e.le, fun hu => k2 (hv _ k1 hu), fun j v hj => ?_⟩
  rw [hget_eq (e.eq _ k1 fun hm' => k2 (hm _ k1 hm'))]
  exact k3 j v hj
theorem Sl.ext {U : Nat → Prop} {h h' : Heap} {v : Value} {l : List α} (s : Sl U h v l) (e : Ext h h') : Sl U h' v l := s.ex e (fun _ _ x => x.elim) (fun _ _ x => x)
theorem Sl.keep {U M : Nat → Prop} {h h' : Heap} {v : Value} {l : List α} (s : Sl U h v l) (e : Ex M h h') (hm : ∀ b, M b → U b) : Sl U h' v l := s.ex e (fun b _ => hm b) (fun _ _ x => x)
theorem Sl.len {U h v} {l : List α} (s : Sl U h v l) {K : Value → Prop} (r : K (int l.length)) : LenP (some true) v K := by
  obtain ⟨a, cap, rfl, _⟩ := s.out; simpa using r
theorem Sl.lenP {U h v} {l : List α} (s : Sl U h v l) {K : Value → Prop} : LenP (some true) v K ↔ K (int l.length) := by
  obtain ⟨a, cap, rfl, _⟩ := s.out; simp
theorem Sl.ix {U h v} {l : List α} (s : Sl U h v l) {K : Value → Prop} {k} {i : Int} {x : α} (hi : 0 ≤ i) (hx : l[i.toNat]? = some x)
    (r : ∀ b o, b < h.size → ¬ U b → (∀ j w, (El.enc x)[j]? = some w → hget h b (o + j) = some w) → K (ptr b o)) : IxP (El.z α) v (.int k i) K := by
  obtain ⟨a, cap, rfl, h1, h2, h3⟩ := s.out
  have hlt := (List.getElem?_eq_some_iff.1 hx).1
  cases a with
  | none => have := h2 rfl; omega
  | some a =>
    obtain ⟨b, o, sp⟩ := a
    obtain ⟨hs, h4⟩ := h3 _ rfl
    simp only at hs
    subst hs
    obtain ⟨k1, k2, k3⟩ := h4 (by rintro rfl; simp at hlt)
    refine ⟨b, o, l.length, cap, k, i, rfl, rfl, hi, by omega, r b _ k1 k2 fun j w hj => ?_⟩
    have hj' : j < El.z α := by have := (List.getElem?_eq_some_iff.1 hj).1; rwa [El.len] at this
    rw [Nat.add_assoc]
    exact k3 _ _ ((cells_get hx j hj').trans hj)
theorem Sl.ea {U h v} {l : List α} (s : Sl U h v l) {K : Value → Prop} {k} {i : Int} {x : α} (hi : 0 ≤ i) (hx : l[i.toNat]? = some x)
    (r : K (.agg (El.enc x).toArray)) : Ea (El.z α) v (.int k i) h K :=
  s.ix hi hx fun _ _ _ _ hc => LdA_at hc (El.len x) r
theorem Sl.ei {U h v} {l : List α} (s : Sl U h v l) {K : Value → Prop} {k} {i : Int} {x : α} {w : Value} (hi : 0 ≤ i) (hx : l[i.toNat]? = some x) (he : El.enc x = [w])
    (r : K w) : Ei (El.z α) v (.int k i) h K :=
  s.ix hi hx fun _ _ _ _ hc => ld (by simpa using hc 0 w (by rw [he]; rfl)) r
theorem Sl.ef {U h v} {l : List α} (s : Sl U h v l) {K : Value → Prop} {k} {i : Int} {x : α} {f : Nat} {w : Value} (hi : 0 ≤ i) (hx : l[i.toNat]? = some x) (he : (El.enc x)[f]? = some w)
    (r : K w) : Ef (El.z α) f v (.int k i) h K :=
  s.ix hi hx fun _ _ _ _ hc => by
    simp only [FaP_ptr]; exact ld (hc f w he) r
/-- A part of a slice. -/
theorem Sl.part {U h v} {l : List α} (s : Sl U h v l) {K : Value → Prop} {lo hi : Option Value} {a b : Nat} (ha : bnd lo 0 = some a) (hb : bnd hi l.length = some b) (hab : a ≤ b) (hbl : b ≤ l.length)
    (r : ∀ v', Sl U h v' ((l.take b).drop a) → K v') : SlP (El.z α) v lo hi K := by
  obtain ⟨p, cap, rfl, h1, h2, h3⟩ := s.out
  have hl : ((l.take b).drop a).length = b - a := by simp; omega
  refine ⟨p, l.length, cap, a, b, rfl, ha, hb, hab, by omega, fun _ => h1, ?_, r _ ?_⟩
  · cases p with
    | none => exact .inl rfl
    | some x => obtain ⟨c, o, sp⟩ := x; have := (h3 _ rfl).1; simp only at this; subst this; exact .inr ⟨c, o, rfl⟩
  · refine ⟨_, _, by rw [hl], by omega, ?_, ?_⟩
    · intro hn
      by_cases hc : cap = a
      · omega
      · rw [if_neg hc] at hn
        cases p with
        | none => have := h2 rfl; omega
        | some x => simp at hn
    · intro x hx
      by_cases hc : cap = a
      · rw [if_pos hc] at hx
        refine ⟨(h3 x hx).1, fun hne => ?_⟩
        exfalso; apply hne; apply List.eq_nil_of_length_eq_zero; omega
      · rw [if_neg hc] at hx
        cases p with
        | none => simp at hx
        | some y =>
          simp only [Option.map_some, Option.some.injEq] at hx
          obtain ⟨yb, yo, ys⟩ := y
          obtain ⟨k1, k2⟩ := h3 _ rfl
          simp only at k1
          subst k1
          rw [Addr.add_lit] at hx
          subst hx
          refine ⟨rfl, fun hne => ?_⟩
          have hlne : l ≠ [] := by rintro rfl; simp at hne
          obtain ⟨m1, m2, m3⟩ := k2 hlne
          refine ⟨m1, m2, fun j w hj => ?_⟩
          have : (cells l)[a * El.z α + j]? = some w := by
            rw [← cells_drop, ← cells_take, List.getElem?_drop, List.getElem?_take] at hj
            split at hj
            · exact hj
            · cases hj
          have := m3 _ _ this
          rw [Nat.add_assoc]; exact this
end
end Go.Sg
/-! Slices of the call's own: making, appending, storing. -/
namespace Go.Sg
open Go Vc

/-- A slice type's element type and sizes. -/
structure SlT (α : Type) [El α] (t e : TypeId) (by' : Nat) : Prop where
  und : Pg.underlying t = some (.slice e)
  inf : (Pg.info? e).map (fun i => (i.size, i.bytes, i.zero.map (·.cells.size))) = some (El.z α, by', some (El.z α))
theorem SlT.info {α : Type} [El α] {t e by'} (s : SlT α t e by') : ∃ i z, Pg.info? e = some i ∧ i.zero = some z ∧ i.size = El.z α ∧ i.bytes = by' ∧ z.cells.size = El.z α := by
  have h := s.inf
  cases hi : Pg.info? e with
  | none => rw [hi] at h; cases h
  | some i =>
    rw [hi] at h
    simp only [Option.map_some, Option.some.injEq, Prod.mk.injEq] at h
    cases hz : i.zero with
    | none => rw [hz] at h; simp at h
    | some z => rw [hz] at h; simp only [Option.map_some, Option.some.injEq] at h; exact ⟨i, z, rfl, hz, h.1, h.2.1, h.2.2⟩

section
variable {α : Type} [El α]
/-- A slice of the call's own: its block is n0 or later, and all of it is the slice's. -/
def Ow (n0 : Nat) (e : TypeId) (h : Heap) (v : Value) (l : List α) : Prop :=
  (v = .slice none 0 0 ∧ l = []) ∨ ∃ g cap, ∃ cur : Array Value, v = .slice (some ⟨g, 0, none⟩) l.length cap ∧ n0 ≤ g ∧ h[g]? = some (.cells cur e (0, 0)) ∧ l.length ≤ cap ∧ cap ≤ maxLen ∧
    cur.size = cap * El.z α ∧ cur.toList.take (l.length * El.z α) = cells l
theorem Ow.owns {n0 e h v} {l : List α} (o : Ow n0 e h v l) (w : World) (hw : w.heap = h) : w.ownsRow n0 e (El.z α) v l.length (cells l) := by
  subst hw
  refine ⟨cells_length l, ?_⟩
  rcases o with ⟨rfl, rfl⟩ | ⟨g, cap, cur, h1⟩
  · exact .inl ⟨rfl, rfl⟩
  · exact .inr ⟨g, cap, cur, h1⟩
theorem Ow.of {n0 e} {w : World} {v n} {l : List α} (o : w.ownsRow n0 e (El.z α) v n (cells l)) : Ow n0 e w.heap v l := by
  have hn : n = l.length := by
    have := o.1; rw [cells_length] at this
    exact (Nat.eq_of_mul_eq_mul_right (El.pos (α := α)) this).symm
  subst hn
  rcases o.2 with ⟨rfl, h⟩ | ⟨g, cap, cur, h1⟩
  · exact .inl ⟨rfl, List.eq_nil_of_length_eq_zero h⟩
  · exact .inr ⟨g, cap, cur, h1⟩
theorem Ow.nil (n0 e h) : Ow n0 e h (.slice none 0 0) ([] : List α) := .inl ⟨rfl, rfl⟩
theorem Ow.ex {n0 e h h' v} {l : List α} {M : Nat → Prop} (o : Ow n0 e h v l) (k : Ex M h h') (hm : ∀ b, n0 ≤ b → b < h.size → ¬ M b) : Ow n0 e h' v l := by
  rcases o with o | ⟨g, cap, cur, h1, h2, h3, h4⟩
  · exact .inl o
  · exact .inr ⟨g, cap, cur, h1, h2, k.get h3 (hm g h2 (Array.getElem?_eq_some_iff.1 h3).1), h4⟩
theorem Ow.ext {n0 e h h' v} {l : List α} (o : Ow n0 e h v l) (k : Ext h h') : Ow n0 e h' v l := o.ex k fun _ _ _ x => x
theorem Ow.low {n0 n1 e h v} {l : List α} (o : Ow n0 e h v l) (k : n1 ≤ n0) : Ow n1 e h v l := by
  rcases o with o | ⟨g, cap, cur, h1, h2, h3⟩
  · exact .inl o
  · exact .inr ⟨g, cap, cur, h1, Nat.le_trans k h2, h3⟩
/-- What is the call's own can be read. -/
theorem Ow.sl {n0 e h v} {l : List α} {U : Nat → Prop} (o : Ow n0 e h v l) (hU : ∀ b, n0 ≤ b → ¬ U b) : Sl U h v l := by
  rcases o with ⟨rfl, rfl⟩ | ⟨g, cap, cur, rfl, h2, h3, h4, h5, h6, h7⟩
  · exact Sl.nil U h
  · refine ⟨⟨some ⟨g, 0, none⟩, cap, rfl, h4, (fun x => nomatch x), fun x hx => ?_⟩⟩
    cases hx
    refine ⟨rfl, fun _ => ⟨(Array.getElem?_eq_some_iff.1 h3).1, hU g h2, fun j v hj => ?_⟩⟩
    rw [← h7, List.getElem?_take] at hj
    split at hj
    · simp only [hget, h3, Nat.zero_add]; simpa using hj
    · cases hj
theorem grown_ex {w w' : World} {row : Option Nat} {n0 : Nat} (g : w.grownBy w' row) (hr : ∀ b, row = some b → n0 ≤ b) : Ex (fun b => n0 ≤ b) w.heap w'.heap :=
  ⟨g.size, fun b hb hm => g.block b hb (by rcases row with _ | r; · simp
                                           · simp only [Option.some.injEq, ne_eq]; exact fun e => hm (e ▸ hr r rfl))⟩
theorem grown_kin {w w' : World} {row : Option Nat} (g : w.grownBy w' row) : Kin w w' := ⟨g.os, g.tape, g.output⟩
theorem Ow.block {n0 e h v} {l : List α} (o : Ow n0 e h v l) : ∀ b, v.ownBlock = some b → n0 ≤ b := by
  rcases o with ⟨rfl, rfl⟩ | ⟨g, cap, cur, rfl, h2, _⟩
  · intro b h; simp [Value.ownBlock] at h
  · intro b h; simp [Value.ownBlock] at h; omega

variable {t e ty : TypeId} {by' : Nat} {h : Heap} {K : Kt} {n0 : Nat}
theorem run_append_src_nil (T : SlT α t e by') (w : World) (v : Value) (l : List α) (o : Ow n0 e w.heap v l) (a : Option Addr) (c : Nat) :
    ∃ w', (Builtin.append_ #[t, t] ty #[v, .slice a 0 c]).run Pg w = .ok v w' ∧ w' = w := by
  obtain ⟨i, z, hi, hz, hs, hb, hzs⟩ := T.info
  refine ⟨w, ?_, rfl⟩
  have hfc : ∀ a : Option Addr, (Builtin.firstCells i.size 0 (.slice a 0 c)).run Pg w = .ok #[] w := by
    intro a; cases a <;> simp [Builtin.firstCells, loadCells, loadCellsFrom]
  rcases o with ⟨rfl, rfl⟩ | ⟨g, cap, cur, rfl, h2, h3, h4, h5, h6, h7⟩
  · simp [Builtin.append_, run_underlying T.und, sizeOf, typeInfo, hi, Builtin.lenOf, hfc]
  · simp [Builtin.append_, run_underlying T.und, sizeOf, typeInfo, hi, Builtin.lenOf, hfc, h4, storeCells]
/-- append(own, list...). -/
theorem app {U} (T : SlT α t e by') {v x : Value} {l m : List α} (o : Ow n0 e h v l) (s : Sl U h x m) (hn : n0 ≤ h.size) (hl : l.length + m.length ≤ 2 ^ 40) (hby : by' ≤ 64)
    (r : ∀ v' h', Ow n0 e h' v' (l ++ m) → Ex (fun b => n0 ≤ b) h h' → (v.ownBlock = none → Ext h h') → K v' h') :
    VH Pg (Builtin.append_ #[t, t] ty #[v, x]) h K := by
  obtain ⟨i, z, hi, hz, hs, hb, hzs⟩ := T.info
  intro w hw
  subst hw
  obtain ⟨a, cap, rfl, c1, c2, c3⟩ := s.out
  by_cases hm : m = []
  · subst hm
    obtain ⟨w', h1, rfl⟩ := run_append_src_nil (ty := ty) T w v l o a cap
    exact ⟨v, w', h1, Kin.refl _, r _ _ (by simpa using o) (Ex.refl _ _) fun _ => Ex.refl _ _⟩
  · cases a with
    | none => exact absurd (List.eq_nil_of_length_eq_zero (by have := c2 rfl; omega)) hm
    | some a =>
      obtain ⟨ab, ao, asp⟩ := a
      obtain ⟨k1, k2⟩ := c3 _ rfl
      simp only at k1
      subst k1
      obtain ⟨k2, k3, k4⟩ := k2 hm
      obtain ⟨v', w', h1, h2, h3, h4, h5⟩ := run_append_own_at (P := Pg) w n0 t ty e i z (El.z α) by' T.und hi hz hs hb hzs El.pos v l.length (cells l) (o.owns w rfl)
        ⟨ab, ao, none⟩ m.length cap (cells m) (cells_length m) (fun j u hj => by rw [Addr.add_lit, cell_hget]; exact k4 j u hj) (cells_one m)
        (by simp only [maxLen]; omega) (by have : (l.length + m.length) * by' ≤ 2 ^ 40 * 64 := Nat.mul_le_mul hl hby
                                           omega) hn
      rw [← cells_append] at h2
      refine ⟨v', w', h1, grown_kin h3, r _ _ (Ow.of h2) (grown_ex h3 o.block) fun hv => ?_⟩
      rw [hv] at h3
      exact ⟨h3.size, fun b hb _ => h3.block b hb (by simp)⟩
/-- make([]T, 0, n). -/
theorem mk0 (T : SlT α t e by') {n : Nat} {kl kc} (hn : n0 ≤ h.size) (hl : n ≤ 2 ^ 40) (hby : by' ≤ 64)
    (r : ∀ v' h', Ow n0 e h' v' ([] : List α) → Ext h h' → K v' h') : VH Pg (Instr.makeSlice t (.int kl 0) (.int kc (n : Int))) h K := by
  obtain ⟨i, z, hi, hz, hs, hb, hzs⟩ := T.info
  intro w hw
  subst hw
  have hlb : by' * n ≤ 64 * 2 ^ 40 := Nat.mul_le_mul hby hl
  obtain ⟨w', h1, h2, h3⟩ := run_make_own (P := Pg) w n0 t e i z (El.z α) T.und hi hz hs kl kc n (by rw [hb]; omega) (by simp only [maxLen]; omega) hn
  refine ⟨_, w', h1, grown_kin h3, r _ _ (Ow.of (by simpa using h2)) ⟨h3.size, fun b hb _ => h3.block b hb (by simp)⟩⟩
/-- []T{...}: a slice literal. -/
theorem bs {si : Option (Array Value × Nat × TypeId)} {n : Nat} {parts} {zs : Array Value} {cs : Array Value} (l : List α) (hsi : si = some (zs, El.z α, e)) (hn : n0 ≤ h.size) (hl : l.length = n) (hsz : n * El.z α ≤ 2 ^ 24)
    (hf : Instr.fill (fun i => some (i * El.z α, El.z α)) ((Array.range (n * El.z α)).map ((if n * El.z α = 0 then #[] else zs)[· % (if n * El.z α = 0 then #[] else zs).size]!)) parts = some cs) (hc : cs.toList = cells l)
    (r : ∀ v' h', Ow n0 e h' v' l → Ext h h' → K v' h') : BsP si n parts h K := by
  refine ⟨zs, El.z α, e, cs, hsi, hsz, hf, r _ _ (.inr ⟨h.size, n, cs, by rw [hl], hn, by rw [Array.getElem?_push, if_pos rfl], by omega, ?_, ?_, ?_⟩) (push_ext _ _)⟩
  · simp only [maxLen]; have := Nat.le_mul_of_pos_right n (El.pos (α := α)); omega
  · have := congrArg List.length hc; rw [cells_length, hl] at this; simpa using this
  · rw [hc, ← cells_length, List.take_length]
end
end Go.Sg
/-! The elements of this program's slices. -/
namespace Go.Sg
open Go Vc
structure Pair where
  key : Str
  val : Str
deriving DecidableEq
structure Msg where
  key : Str
  del : Bool
  val : Str
deriving DecidableEq
/-- A number of kind u32. -/
structure U32 where
  n : Nat
deriving DecidableEq
@[simp] theorem str_one (s : Str) : (str s).oneCell' = true := rfl
instance : El UInt8 := ⟨1, fun b => [.int .u8 b.toNat], fun _ => rfl, by decide, fun _ v h => by simp at h; subst h; rfl⟩
instance : El Str := ⟨1, fun s => [str s], fun _ => rfl, by decide, fun _ v h => by simp at h; subst h; rfl⟩
instance : El U32 := ⟨1, fun s => [.int .u32 s.n], fun _ => rfl, by decide, fun _ v h => by simp at h; subst h; rfl⟩
instance : El Int := ⟨1, fun s => [.int .i64 s], fun _ => rfl, by decide, fun _ v h => by simp at h; subst h; rfl⟩
instance : El Pair := ⟨2, fun p => [str p.key, str p.val], fun _ => rfl, by decide, fun _ v h => by simp at h; rcases h with rfl | rfl <;> rfl⟩
instance : El Msg := ⟨3, fun p => [str p.key, .bool p.del, str p.val], fun _ => rfl, by decide, fun _ v h => by simp at h; rcases h with rfl | rfl | rfl <;> rfl⟩
theorem T_byte : SlT UInt8 t_S_uint8 t_uint8 1 := ⟨by kernel_rfl, by kernel_rfl⟩
theorem T_str : SlT Str t_S_string t_string 16 := ⟨by kernel_rfl, by kernel_rfl⟩
theorem T_u32 : SlT U32 t_S_uint32 t_uint32 4 := ⟨by kernel_rfl, by kernel_rfl⟩
theorem T_int : SlT Int t_S_int t_int 8 := ⟨by kernel_rfl, by kernel_rfl⟩
theorem T_Pair : SlT Pair t_S_api_Pair t_api_Pair 32 := ⟨by kernel_rfl, by kernel_rfl⟩
theorem T_Msg : SlT Msg t_S_api_Msg t_api_Msg 40 := ⟨by kernel_rfl, by kernel_rfl⟩
end Go.Sg
namespace Go.Sg
open Go Vc
theorem least {σ : Type} (P : σ → Prop) (μ : σ → Nat) : ∀ n, (∃ s, P s ∧ μ s ≤ n) → ∃ s, P s ∧ ∀ s', P s' → μ s ≤ μ s' := by
  intro n
  induction n with
  | zero => rintro ⟨s, h, k⟩; exact ⟨s, h, fun _ _ => by omega⟩
  | succ n ih =>
    rintro ⟨s, h, k⟩
    by_cases hx : ∃ s, P s ∧ μ s ≤ n
    · exact ih hx
    · exact ⟨s, h, fun s' h' => by
        by_cases hq : μ s' ≤ n
        · exact absurd ⟨s', h', hq⟩ hx
        · omega⟩
/-- A loop, with a state of one's own. -/
theorem lop {σ : Type} {body : List Value → Heap → (List Value → Heap → Prop) → Prop} {vs : List Value} {h : Heap} (st : σ → List Value) (I : σ → Heap → Prop) (μ : σ → Nat) (s0 : σ) (hvs : vs = st s0) (h0 : I s0 h)
    (step : ∀ s h (N : Nt), I s h → (∀ s' h', I s' h' → μ s' < μ s → N (st s') h') → body (st s) h N) : LoP body vs h := by
  classical
  let Q := fun (vs : List Value) (h : Heap) (s : σ) => vs = st s ∧ I s h
  have hmin : ∀ vs h, (∃ s, Q vs h s) → ∃ s, Q vs h s ∧ ∀ s', Q vs h s' → μ s ≤ μ s' := fun vs h ⟨s, hs⟩ => least (Q vs h) μ (μ s) ⟨s, hs, Nat.le_refl _⟩
  let m := fun (vs : List Value) (h : Heap) => if hx : ∃ s, Q vs h s then μ (Classical.choose (hmin vs h hx)) else 0
  have hm : ∀ vs h s, Q vs h s → m vs h ≤ μ s := by
    intro vs h s hs
    have hx : ∃ s, Q vs h s := ⟨s, hs⟩
    simp only [m, dif_pos hx]
    exact (Classical.choose_spec (hmin vs h hx)).2 s hs
  refine ⟨fun vs h => ∃ s, Q vs h s, m, ⟨s0, hvs, h0⟩, ?_⟩
  intro vs h hx
  have hc := Classical.choose_spec (hmin vs h hx)
  have hmu : m vs h = μ (Classical.choose (hmin vs h hx)) := by simp only [m, dif_pos hx]
  generalize Classical.choose (hmin vs h hx) = s at hc hmu
  obtain ⟨⟨h1, h2⟩, h3⟩ := hc
  subst h1
  refine step s h _ h2 fun s' h' hi hlt => ⟨⟨s', rfl, hi⟩, ?_⟩
  rw [hmu]
  exact Nat.lt_of_le_of_lt (hm _ _ s' ⟨rfl, hi⟩) hlt
end Go.Sg
