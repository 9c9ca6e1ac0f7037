/-
  Part 14 of a proof: own texts, merged by program.
-/
import Derived.MapKept
import Derived.Maps.Keyed
import Derived.Test.YtoahnccffedojaaGreatDoorP01
import Derived.Test.YtoahnccffedojaaGreatDoorP02
import Derived.Test.YtoahnccffedojaaGreatDoorP13
set_option linter.unusedVariables false
set_option linter.unusedSimpArgs false
/-! Contracts of slices.Grow, slices.Concat, buf.Take. -/
namespace Go.Sg
open Go Vc
/-- A value of one cell. -/
structure Cl where
  v : Value
  one : v.oneCell' = true
instance : El Cl := ⟨1, fun s => [s.v], fun _ => rfl, by decide, fun a v h => by simp at h; subst h; exact a.one⟩
theorem z_Msg : ∀ i z, Pg.info? t_api_Msg = some i → i.zero = some z → z.cells.toList = El.enc (⟨[], false, []⟩ : Msg) := by
  have h : (Pg.info? t_api_Msg).bind (fun i => i.zero.map fun z => z.cells.toList) = some [str [], .bool false, str []] := by kernel_rfl
  intro i z hi hz
  rw [hi] at h
  simp only [Option.bind_some, hz, Option.map_some, Option.some.injEq] at h
  exact h
section
variable {h : Heap} {K : Kt} {U : Nat → Prop} {x : Value}
theorem c_Grow_Msg {n : Nat} (hn : n ≤ 2 ^ 39) (r : ∀ v h', Ow h.size t_api_Msg h' v ([] : List Msg) → Ext h h' → K v h') : Ca f_slices_Grow_api_Msg #[.slice none 0 0, int n] h K := by
  refine m_slices_Grow_api_Msg_ok ?_
  unfold m_slices_Grow_api_Msg
  rw [BiP_lss]
  refine cdp (fun h => absurd h (by omega)) fun _ => ?_
  refine cap_sl T_Msg ?_
  rw [LenP_slice]
  refine sub64 (by omega) (sub64 (by omega) ?_)
  rw [BiP_gtr]
  refine cdp (fun hpos => ?_) (fun hz => ?_)
  · refine cap_sl T_Msg ?_
    refine ⟨none, 0, 0, 0, 0, rfl, rfl, rfl, Nat.le_refl _, Nat.le_refl _, fun _ => Nat.le_refl _, .inl rfl, ?_⟩
    have hN : ((n : Int) - (((0 : Nat) : Int) - ((0 : Nat) : Int))) = (n : Int) := by omega
    rw [hN]
    have s0 : Sl No h (.slice none 0 0) ([] : List Msg) := Sl.nil _ _
    refine app_zeros T_Msg (by kernel_rfl) (cap := 0) (a := none) (l := []) rfl s0 (List.replicate n ⟨[], false, []⟩) (fun ii z h1 h2 => zeroCells_rep (z_Msg ii z h1 h2) n) (by simp) (by omega) (by simp; omega) (by simp; omega) (by decide) fun g c h1 o1 hg e1 => ?_
    have hle := o1.le
    simp only [List.nil_append, List.length_replicate] at hle
    rw [LenP_slice]
    refine sl_own (i := 0) (Nat.zero_le _) (by omega) ?_ (by simpa using hle)
    unfold m_slices_Grow_api_Msg_j20
    have o2 := o1.pre 0
    rw [List.take_zero] at o2
    exact r _ _ (o2.ow' (n := 0) (by omega) rfl) e1
  · unfold m_slices_Grow_api_Msg_j20
    exact r _ _ (Ow.nil _ _ _) (Ex.refl _ _)
/-- Two lists put together anew. -/
theorem c_Concat_Msg {a b : Cl} {la lb : List Msg} (s : Sl U h x [a, b]) (sa : Sl U h a.v la) (sb : Sl U h b.v lb) (hl : la.length + lb.length ≤ 2 ^ 38) (r : ∀ v h', Ow h.size t_api_Msg h' v (la ++ lb) → Ext h h' → K v h') : Ca f_slices_Concat_api_Msg #[x] h K := by
  refine m_slices_Concat_api_Msg_ok (s.len ?_)
  let tot : Nat → Nat := fun i => match i with | 0 => 0 | 1 => la.length | _ => la.length + lb.length
  refine lop (σ := Nat) (fun i => [int (tot i), int i]) (fun i h' => h' = h ∧ i ≤ 2) (fun i => 2 - i) 0 rfl ⟨rfl, by omega⟩ ?_
  rintro i h1 N ⟨rfl, hi⟩ hN
  simp only [m_slices_Concat_api_Msg_l3, gv_zero, gv_succ]
  rw [BiP_lss]
  have hlen2 : ([a, b] : List Cl).length = 2 := rfl
  refine cdp (fun hlt => ?_) (fun hge => ?_)
  · rw [hlen2] at hlt
    have step : ∀ (c : Cl) (lc : List Msg), [a, b][i]? = some c → Sl U h1 c.v lc → tot (i + 1) = tot i + lc.length → tot i + lc.length ≤ 2 ^ 38 →
        Ei 1 x (int i) h1 fun x8 => LenP (some true) x8 fun x9 => BiP .add (int (tot i)) x9 fun x10 => BiP .lss x10 (.int .i64 0) fun x11 => CdP x11
          (VH Pg (Instr.makeInterface t_string (.string { data := #[108, 101, 110, 32, 111, 117, 116, 32, 111, 102, 32, 114, 97, 110, 103, 101] })) h1 fun x13 h12 => False)
          (BiP .add (int i) (.int .i64 1) fun x15 => N [x10, x15] h1) := by
      intro c lc hc sc ht hb
      refine s.ei (by omega) (by rw [Int.toNat_natCast]; exact hc) rfl (sc.len (add64 (by omega) ?_))
      rw [BiP_lss]
      refine cdp (fun h => absurd h (by omega)) fun _ => ?_
      refine add64 (by omega) ?_
      have := hN (i + 1) h1 ⟨rfl, by omega⟩ (by omega)
      rw [ht] at this
      simpa using this
    match i, hlt with
    | 0, _ => exact step a la rfl sa (by simp [tot]) (by simp [tot]; omega)
    | 1, _ => exact step b lb rfl sb rfl (by simp only [tot]; omega)
  · have hi2 : i = 2 := by rw [hlen2] at hge; omega
    subst hi2
    unfold m_slices_Concat_api_Msg_j16
    refine c_Grow_Msg (n := la.length + lb.length) (by omega) fun v h2 o2 e2 => ?_
    refine s.len ?_
    let got : Nat → List Msg := fun i => match i with | 0 => [] | 1 => la | _ => la ++ lb
    refine lop (σ := Nat × Value) (fun p => [p.2, int p.1]) (fun p h' => Ext h1 h' ∧ p.1 ≤ 2 ∧ Ow h1.size t_api_Msg h' p.2 (got p.1)) (fun p => 2 - p.1) (0, v) rfl ⟨e2, by simp, o2⟩ ?_
    rintro ⟨i, v⟩ h3 N2 ⟨e3, hi, o3⟩ hN2
    simp only at hi o3
    simp only [m_slices_Concat_api_Msg_l21, gv_zero, gv_succ]
    rw [BiP_lss]
    refine cdp (fun hlt => ?_) (fun hge => ?_)
    · rw [hlen2] at hlt
      have step : ∀ (c : Cl) (lc : List Msg), [a, b][i]? = some c → Sl U h1 c.v lc → got (i + 1) = got i ++ lc → (got i).length + lc.length ≤ 2 ^ 38 →
          Ei 1 x (int i) h3 fun x26 => VH Pg (Builtin.append_ #[t_S_api_Msg, t_S_api_Msg] t_S_api_Msg #[v, x26]) h3 fun x28 h27 => BiP .add (int i) (.int .i64 1) fun x29 => N2 [x28, x29] h27 := by
        intro c lc hc sc ht hb
        refine (s.ext e3).ei (by omega) (by rw [Int.toNat_natCast]; exact hc) rfl ?_
        refine app T_Msg o3 (sc.ext e3) e3.le (by omega) (by decide) fun v4 h4 o4 e4 _ => ?_
        refine add64 (by omega) ?_
        exact hN2 (i + 1, v4) h4 ⟨e3.own e4 (Nat.le_refl _), by simp only; omega, by simp only; rw [ht]; exact o4⟩ (by simp only; omega)
      match i, hlt, o3, step with
      | 0, _, o3, step => exact step a la rfl sa rfl (by simp [got]; omega)
      | 1, _, o3, step => exact step b lb rfl sb rfl (by simp only [got]; omega)
    · have hi2 : i = 2 := by rw [hlen2] at hge; omega
      subst hi2
      exact r _ _ o3 e3
end
end Go.Sg
/-! Contracts of buf: Take. -/
namespace Go.Sg
open Go Vc
theorem Sl.one {α : Type} [El α] {U h v} {l : List α} (s : Sl U h v l) : v.oneCell' = true := by
  obtain ⟨a, cap, rfl, _⟩ := s.out; rfl
section
variable {h : Heap} {K : Kt} {U : Nat → Prop} {x : Value}
def takeN (l : List Msg) (s : Span) (most : Int) : Nat := (max 0 (min ((hiOf l s : Int) - loOf l s) most)).toNat
def takenM (l : List Msg) (s : Span) (most : Int) : List Msg := (l.take (loOf l s + takeN l s most)).drop (loOf l s)
def restM (l : List Msg) (s : Span) (most : Int) : List Msg := l.take (loOf l s) ++ l.drop (loOf l s + takeN l s most)
theorem c_buf_Take {l : List Msg} {s : Span} {most : Int} (sl : Sl U h x l) (ha : Asc Msg.key l) (hl : l.length ≤ 2 ^ 37)
    (r : ∀ v w h', Ow h.size t_api_Msg h' v (takenM l s most) → Ow h.size t_api_Msg h' w (restM l s most) → Ext h h' → K (.tuple #[v, w]) h') : Ca f_buf_Take #[x, s.v, int most] h K := by
  refine m_buf_Take_ok (bxa (cs := s.cs) fun b h1 e1 hb k1 _ => ?_)
  refine (LdA_b k1 rfl).2 (c_buf_part (s := s) (sl.ext e1) ha (by omega) fun h2 e2 => ?_)
  have e12 := e1.trans e2
  obtain ⟨_, p2, p3⟩ := partM_eq ha s
  rw [ex20, ex21]
  refine sub64 (by omega) (min_int (max_int ?_))
  have hk : max 0 (min ((hiOf l s : Int) - loOf l s) most) = (takeN l s most : Int) := by unfold takeN; omega
  have hkle : takeN l s most ≤ hiOf l s - loOf l s := by unfold takeN; omega
  rw [hk]
  unfold takenM restM at r
  generalize takeN l s most = n at *
  generalize loOf l s = lo at *
  refine add64 (by omega) ?_
  rw [← Int.natCast_add]
  have s2 := sl.ext e12
  refine s2.part (a := lo) (b := lo + n) bnd_nat bnd_nat (by omega) (by omega) fun v1 s15 => ?_
  refine s2.part (a := 0) (b := lo) rfl bnd_nat (Nat.zero_le _) (by omega) fun v2 s16 => ?_
  refine s2.part (a := lo + n) (b := l.length) bnd_nat rfl (by omega) (Nat.le_refl _) fun v3 s17 => ?_
  rw [List.drop_zero] at s16
  rw [List.take_length] at s17
  have cat : ∀ (h5 : Heap) (y : Value) (K' : Kt), Ext h2 h5 → Sl No h5 y [(⟨v2, s16.one⟩ : Cl), ⟨v3, s17.one⟩] → (∀ w h', Ow h5.size t_api_Msg h' w (l.take lo ++ l.drop (lo + n)) → Ext h5 h' → K' w h') → Ca f_slices_Concat_api_Msg #[y] h5 K' := by
    intro h5 y K' e5 sy hK
    have w16 : Sl No h5 v2 (l.take lo) := (s16.ext e5).ex (Ex.refl No _) (fun _ _ x => x.elim) (fun _ _ x => x.elim)
    have w17 : Sl No h5 v3 (l.drop (lo + n)) := (s17.ext e5).ex (Ex.refl No _) (fun _ _ x => x.elim) (fun _ _ x => x.elim)
    exact c_Concat_Msg sy w16 w17 (by simp; omega) hK
  have lit : ∀ (h5 : Heap) (Q : Kt), (∀ y h', Ow h5.size t_S_api_Msg h' y [(⟨v2, s16.one⟩ : Cl), ⟨v3, s17.one⟩] → Ext h5 h' → Q y h') → BsP st_S_S_api_Msg 2 [(0, v2), (1, v3)] h5 Q := by
    intro h5 Q hQ
    obtain ⟨a2, c2, hv2, _⟩ := s16.out
    obtain ⟨a3, c3, hv3, _⟩ := s17.out
    refine bs (n0 := h5.size) (e := t_S_api_Msg) [(⟨v2, s16.one⟩ : Cl), ⟨v3, s17.one⟩] rfl (Nat.le_refl _) rfl (by decide) (cs := #[v2, v3]) ?_ rfl fun y h' o e => hQ y h' o e
    subst hv2 hv3
    kernel_rfl
  have hlt : ((l.take (lo + n)).drop lo).length ≤ 2 ^ 40 := by simp; omega
  refine ⟨?_, ?_⟩
  · refine c_Clone_Msg s15 hlt fun v4 h4 o4 e4 => ⟨trivial, ?_⟩
    refine lit h4 _ fun y h5 o5 e5 => ⟨trivial, ?_⟩
    have e25 := e4.trans e5
    refine cat h5 y _ e25 (o5.sl fun _ _ h => h) fun w h6 o6 e6 => ⟨trivial, ?_⟩
    exact r _ _ _ (((o4.ext e5).ext e6).low e12.le) (o6.low (e12.trans e25).le) ((e12.trans e25).trans e6)
  · refine lit h2 _ fun y h4 o4 e4 => ⟨trivial, ?_⟩
    refine c_Clone_Msg (s15.ext e4) hlt fun v5 h5 o5 e5 => ⟨trivial, ?_⟩
    have e25 := e4.trans e5
    refine cat h5 y _ e25 ((o4.ext e5).sl fun _ _ h => h) fun w h6 o6 e6 => ⟨trivial, ?_⟩
    exact r _ _ _ ((o5.ext e6).low (e12.trans e4).le) (o6.low (e12.trans e25).le) ((e12.trans e25).trans e6)
end
end Go.Sg
/-! Contracts of check.Sum, node.Heaviest's parts. -/
namespace Go.Sg
open Go Vc
section
variable {h : Heap} {K : Kt} {U : Nat → Prop} {x : Value}
theorem sumMore_lt (s : Nat) (l : List UInt8) : sumMore s l < 4294967296 := by
  have := sum_fold_lt l (s % 65536 % 65521, s / 65536 % 65521) (Nat.mod_lt _ (by decide)) (Nat.mod_lt _ (by decide))
  unfold sumMore
  simp only
  omega
theorem c_check_Sum {a : Cl} {l : List UInt8} (s : Sl U h x [a]) (sa : Sl U h a.v l) (hl : l.length ≤ 2 ^ 40) (r : K (.int .u32 (sumMore 1 l)) h) : Ca f_check_Sum #[x] h K := by
  refine m_check_Sum_ok (s.len ?_)
  let tot : Nat → Nat := fun i => match i with | 0 => 1 | _ => sumMore 1 l
  refine lop (σ := Nat) (fun i => [.int .u32 (tot i), int i]) (fun i h' => h' = h ∧ i ≤ 1) (fun i => 1 - i) 0 rfl ⟨rfl, by omega⟩ ?_
  rintro i h1 N ⟨rfl, hi⟩ hN
  simp only [m_check_Sum_l3, gv_zero, gv_succ]
  have hlen : ([a] : List Cl).length = 1 := rfl
  rw [BiP_lss]
  refine cdp (fun hlt => ?_) (fun hge => ?_)
  · have h0 : i = 0 := by rw [hlen] at hlt; omega
    subst h0
    refine s.ei (x := a) (by omega) rfl rfl ?_
    refine c_check_More (s := 1) sa (by decide) hl ?_
    refine add64 (by omega) ?_
    exact hN 1 h1 ⟨rfl, by omega⟩ (by omega)
  · have h1' : i = 1 := by rw [hlen] at hge; omega
    subst h1'
    exact r
/-- How many messages go each kid's way. -/
def loads (n : Node) : List Int := n.buf.foldl (fun l m => if wayOf n.pivots m.key < l.length then l.modify (wayOf n.pivots m.key) (· + 1) else l) (List.replicate n.kids.length 0)
theorem loads_len (p : List Str) : ∀ (b : List Msg) (l : List Int), (b.foldl (fun l m => if wayOf p m.key < l.length then l.modify (wayOf p m.key) (· + 1) else l) l).length = l.length
  | [], _ => rfl
  | m :: b, l => by
    rw [List.foldl_cons, loads_len p b]
    split
    · simp
    · rfl
theorem z_int : ∀ i z, Pg.info? t_int = some i → i.zero = some z → z.cells.toList = El.enc (0 : Int) := by
  have h : (Pg.info? t_int).bind (fun i => i.zero.map fun z => z.cells.toList) = some [int 0] := by kernel_rfl
  intro i z hi hz
  rw [hi] at h
  simp only [Option.bind_some, hz, Option.map_some, Option.some.injEq] at h
  exact h
end
end Go.Sg
/-! Contracts of node: Loads. -/
namespace Go.Sg
open Go Vc
section
variable {h : Heap} {K : Kt} {U : Nat → Prop} {v : Value}
theorem int_bump {L : List Int} {i : Nat} (hi : i < L.length) : L.modify i (· + 1) = L.set i (L[i] + 1) := by
  apply List.ext_getElem?
  intro j
  rw [List.getElem?_modify, List.getElem?_set]
  by_cases hj : i = j
  · subst hj; simp [hi]
  · simp [hj]
theorem loads_bd (p : List Str) : ∀ (b : List Msg) (l : List Int) (N : Int), (∀ x ∈ l, 0 ≤ x ∧ x ≤ N) → ∀ x ∈ b.foldl (fun l m => if wayOf p m.key < l.length then l.modify (wayOf p m.key) (· + 1) else l) l, 0 ≤ x ∧ x ≤ N + b.length
  | [], l, N, hl, x, hx => by have := hl x hx; simpa using this
  | m :: b, l, N, hl, x, hx => by
    rw [List.foldl_cons] at hx
    have := loads_bd p b _ (N + 1) (fun y hy => by
      split at hy
      · rename_i hw
        rw [int_bump hw] at hy
        rcases List.mem_or_eq_of_mem_set hy with hy | hy
        · have := hl y hy; omega
        · have := hl _ (List.getElem_mem hw); omega
      · have := hl y hy; omega) x hx
    simp only [List.length_cons]
    omega
theorem c_node_Loads {n : Node} (d : Nd U h v n) (hf : n.fits) (hk : n.kids.length ≤ 2 ^ 24) (ha : Asc id n.pivots) (r : ∀ y h', Ow h.size t_int h' y (loads n) → Ext h h' → K y h') : Ca f_node_Loads #[v] h K := by
  obtain ⟨vk, vp, vb, vl, rfl, q1, q2, q3, q4⟩ := d.out
  obtain ⟨f1, f2, f3, f4⟩ := hf
  refine m_node_Loads_ok (bxa (cs := [int n.level, vk, vp, vb, vl]) fun b h1 e1 hb k1 _ => ?_)
  refine fv (by rw [k1.get]; rfl) (q1.len ?_)
  refine mkn (n0 := h.size) T_int z_int e1.le (by simpa [El.z] using hk) (by decide) fun g h2 hg o2 e2 => ?_
  have e12 := e1.trans e2
  have k2 := k1.ext e2
  refine fv (by rw [k2.get]; rfl) (q3.len ?_)
  have o2 : Ow h1.size t_int h2 (.slice (some ⟨g, 0, none⟩) n.kids.length n.kids.length) (List.replicate n.kids.length (0 : Int)) := o2.ow' (by omega) (by simp)
  generalize hy : Value.slice (some ⟨g, 0, none⟩) n.kids.length n.kids.length = y at *
  let st : Nat → List Int := fun i => (n.buf.take i).foldl (fun l m => if wayOf n.pivots m.key < l.length then l.modify (wayOf n.pivots m.key) (· + 1) else l) (List.replicate n.kids.length 0)
  refine lop (σ := Nat) (fun i => [int i]) (fun i h' => Ext h1 h' ∧ i ≤ n.buf.length ∧ Ow h1.size t_int h' y (st i)) (fun i => n.buf.length - i) 0 rfl ⟨e2, by omega, o2⟩ ?_
  rintro i h3 N ⟨e3, hi, o3⟩ hN
  have e13 := e1.trans e3
  simp only [m_node_Loads_l12, gv_zero]
  rw [BiP_lss]
  refine cdp (fun hlt => ?_) (fun hge => ?_)
  · have g1 : n.buf[i]? = some n.buf[i] := List.getElem?_eq_getElem (by omega)
    have hst : st (i + 1) = if wayOf n.pivots n.buf[i].key < (st i).length then (st i).modify (wayOf n.pivots n.buf[i].key) (· + 1) else st i := by
      simp only [st]
      rw [List.take_add_one, g1, Option.toList_some, List.foldl_append]; rfl
    refine (q3.ext e13).ea (by omega) (by rw [Int.toNat_natCast]; exact g1) ?_
    have hN := hN (i + 1)
    rw [hst] at hN
    have hsl : (st i).length = n.kids.length := by simp only [st]; rw [loads_len]; simp
    have hbd : ∀ x ∈ st i, 0 ≤ x ∧ x ≤ 0 + ((n.buf.take i).length : Int) := loads_bd _ _ _ 0 (by intro x hx; have := List.eq_of_mem_replicate hx; omega)
    generalize n.buf[i] = m at *
    generalize st i = L at *
    refine alst (vs := m.cs) rfl rfl rfl fun bm h4 e4 hbm k4 s4 => ?_
    have e14 := e3.trans e4
    have e04 := e1.trans e14
    refine fv (by rw [(k1.ext e14).get]; rfl) (fv (by rw [k4.get]; rfl) ?_)
    refine c_fan_Way (q2.ext e04) ha (by omega) fun h5 e5 => ?_
    have e15 := e14.trans e5
    have o5 := (o3.ext e4).ext e5
    have sy : Sl No h5 y L := o5.sl fun _ _ h => h
    refine sy.len ?_
    rw [BiP_lss]
    have next : ∀ h', Ext h1 h' → Ow h1.size t_int h' y (if wayOf n.pivots m.key < L.length then L.modify (wayOf n.pivots m.key) (· + 1) else L) → m_node_Loads_j34 (ptr b 0) y vb (int n.buf.length) (int i) h' N K := by
      intro h' e' o'
      unfold m_node_Loads_j34
      refine add64 (by omega) ?_
      exact hN h' ⟨e', by omega, o'⟩ (by omega)
    refine cdp (fun hw => ?_) (fun hw => ?_)
    · have hw : wayOf n.pivots m.key < L.length := by omega
      have gw : L[wayOf n.pivots m.key]? = some L[wayOf n.pivots m.key] := List.getElem?_eq_getElem hw
      have hb2 := hbd _ (List.getElem_mem hw)
      rw [List.length_take] at hb2
      refine sy.ei (by omega) (by rw [Int.toNat_natCast]; exact gw) rfl ?_
      refine add64 (by omega) ?_
      refine ow_set1 (a' := L[wayOf n.pivots m.key] + 1) rfl rfl rfl o5 hw fun h6 o6 e6 => ?_
      refine next h6 (e15.own e6 (Nat.le_refl _)) ?_
      rw [if_pos hw, int_bump hw]; exact o6
    · refine next h5 e15 ?_
      rw [if_neg (by omega)]; exact o5
  · have : i = n.buf.length := by omega
    subst this
    unfold m_node_Loads_j36
    refine r _ _ ?_ e13
    have : st n.buf.length = loads n := by simp only [st, loads, List.take_length]
    rw [this] at o3
    exact o3.low e1.le
end
end Go.Sg
/-! Contracts of node: Heaviest. -/
namespace Go.Sg
open Go Vc
section
variable {h : Heap} {K : Kt} {U : Nat → Prop} {v : Value}
/-- The first place of the greatest. -/
def heavyTo (l : List Int) : Nat → Nat
  | 0 => 0
  | i + 1 => if l.getD (heavyTo l i) 0 < l.getD i 0 then i else heavyTo l i
theorem heavyTo_lt (l : List Int) : ∀ (i : Nat), 0 < l.length → i ≤ l.length → heavyTo l i < l.length
  | 0, h, _ => h
  | i + 1, h, hi => by
    rw [heavyTo]; split
    · omega
    · exact heavyTo_lt l i h (by omega)
def heavy (n : Node) : Nat := heavyTo (loads n) (loads n).length
theorem c_node_Heaviest {n : Node} (d : Nd U h v n) (hf : n.fits) (hk : n.kids.length ≤ 2 ^ 24) (h0 : 0 < n.kids.length) (ha : Asc id n.pivots) (r : ∀ h', Ext h h' → K (.tuple #[int (heavy n), int ((loads n).getD (heavy n) 0)]) h') : Ca f_node_Heaviest #[v] h K := by
  have d' := d
  obtain ⟨vk, vp, vb, vl, rfl, q1, q2, q3, q4⟩ := d.out
  refine m_node_Heaviest_ok (bxa (cs := [int n.level, vk, vp, vb, vl]) fun b h1 e1 hb k1 _ => ?_)
  refine (LdA_b k1 rfl).2 ?_
  refine c_node_Loads (d'.ext e1) hf hk ha fun y h2 o2 e2 => ?_
  have e12 := e1.trans e2
  have s : Sl No h2 y (loads n) := o2.sl fun _ _ h => h
  have hl : (loads n).length = n.kids.length := by unfold loads; rw [loads_len]; simp
  unfold heavy at r
  generalize loads n = L at *
  refine s.len ?_
  rw [BiP_eql]
  refine cdp (fun h => absurd h (by omega)) fun _ => ?_
  refine s.len ?_
  refine lop (σ := Nat) (fun i => [int (heavyTo L i), int i]) (fun i h' => h' = h2 ∧ i ≤ L.length) (fun i => L.length - i) 0 rfl ⟨rfl, by omega⟩ ?_
  rintro i h3 N ⟨rfl, hi⟩ hN
  simp only [m_node_Heaviest_l10, gv_zero, gv_succ]
  have hlt2 := heavyTo_lt L i (by omega) hi
  have gh : L[heavyTo L i]? = some L[heavyTo L i] := List.getElem?_eq_getElem hlt2
  rw [BiP_lss]
  refine cdp (fun hlt => ?_) (fun hge => ?_)
  · have gi : L[i]? = some L[i] := List.getElem?_eq_getElem (by omega)
    refine s.ei (by omega) (by rw [Int.toNat_natCast]; exact gi) rfl ?_
    refine s.ei (by omega) (by rw [Int.toNat_natCast]; exact gh) rfl ?_
    rw [BiP_gtr]
    have hN := hN (i + 1) h3 ⟨rfl, by omega⟩ (by omega)
    rw [heavyTo, List.getD_eq_getElem?_getD, List.getD_eq_getElem?_getD, gh, gi] at hN
    simp only [Option.getD_some] at hN
    refine cdp (fun hgt => ?_) (fun hle => ?_)
    · rw [if_pos hgt] at hN
      unfold m_node_Heaviest_j19
      exact add64 (by omega) hN
    · rw [if_neg hle] at hN
      unfold m_node_Heaviest_j19
      exact add64 (by omega) hN
  · have : i = L.length := by omega
    subst this
    unfold m_node_Heaviest_j21
    refine s.ei (by omega) (by rw [Int.toNat_natCast]; exact gh) rfl ?_
    have r := r h3 e12
    rw [List.getD_eq_getElem?_getD, gh] at r
    exact r
end
end Go.Sg
/-! Contracts of slices.Index, node.Find. -/
namespace Go.Sg
open Go Vc
section
variable {h : Heap} {K : Kt} {U : Nat → Prop} {x v : Value}
/-- Where a number stands first; -1: nowhere. -/
def indexOf (l : List U32) (b : Nat) : Int := match l.findIdx? (fun y => decide (y.n = b)) with
  | some i => i
  | none => -1
theorem c_Index_u32 {l : List U32} {b : Nat} (s : Sl U h x l) (hl : l.length ≤ 2 ^ 40) (r : K (int (indexOf l b)) h) : Ca f_slices_Index_uint32 #[x, .int .u32 b] h K := by
  refine m_slices_Index_uint32_ok (s.len ?_)
  refine lop (σ := Nat) (fun i => [int 0, int i]) (fun i h' => h' = h ∧ i ≤ l.length ∧ ∀ j y, j < i → l[j]? = some y → y.n ≠ b) (fun i => l.length - i) 0 rfl ⟨rfl, by omega, fun _ _ h => by omega⟩ ?_
  rintro i h1 N ⟨rfl, hi, hno⟩ hN
  simp only [m_slices_Index_uint32_l3, gv_zero, gv_succ]
  rw [BiP_lss]
  refine cdp (fun hlt => ?_) (fun hge => ?_)
  · have gi : l[i]? = some l[i] := List.getElem?_eq_getElem (by omega)
    refine s.ei (by omega) (by rw [Int.toNat_natCast]; exact gi) rfl ?_
    rw [BiP_eql]
    refine cdp (fun he => ?_) (fun hne => ?_)
    · have : l.findIdx? (fun y => decide (y.n = b)) = some i := by
        rw [List.findIdx?_eq_some_iff_getElem]
        refine ⟨by omega, by simp; omega, fun j hj => ?_⟩
        have := hno j l[j] hj (List.getElem?_eq_getElem (by omega))
        simpa using this
      unfold indexOf at r; rw [this] at r; exact r
    · refine add64 (by omega) ?_
      refine hN (i + 1) h1 ⟨rfl, by omega, fun j y hj hy => ?_⟩ (by omega)
      by_cases hji : j = i
      · subst hji; rw [gi] at hy; cases hy; omega
      · exact hno j y (by omega) hy
  · have : l.findIdx? (fun y => decide (y.n = b)) = none := by
      rw [List.findIdx?_eq_none_iff]
      intro y hy
      obtain ⟨j, hj⟩ := List.getElem?_of_mem hy
      have := hno j y (by have := (List.getElem?_eq_some_iff.1 hj).1; omega) hj
      simpa using this
    unfold m_slices_Index_uint32_j11
    unfold indexOf at r; rw [this] at r; exact r
theorem c_node_Find {n : Node} {b : Nat} (d : Nd U h v n) (hf : n.fits) (r : ∀ h', Ext h h' → K (.tuple #[int (max 0 (indexOf n.kids b)), .bool (decide (0 ≤ indexOf n.kids b))]) h') : Ca f_node_Find #[v, .int .u32 b] h K := by
  obtain ⟨vk, vp, vb, vl, rfl, q1, q2, q3, q4⟩ := d.out
  obtain ⟨f1, f2, f3, f4⟩ := hf
  refine m_node_Find_ok (bxa (cs := [int n.level, vk, vp, vb, vl]) fun b h1 e1 hb k1 _ => ?_)
  refine fv (by rw [k1.get]; rfl) ?_
  refine c_Index_u32 (q1.ext e1) (by omega) (max_int ?_)
  rw [BiP_geq]
  exact r h1 e1
end
end Go.Sg
/-! Contracts of node: Clone. -/
namespace Go.Sg
open Go Vc
/-- A node of the call's own. -/
structure No' (n0 : Nat) (h : Heap) (v : Value) (n : Node) : Prop where
  out : ∃ k p b l, v = .agg #[int n.level, k, p, b, l] ∧ Ow n0 t_uint32 h k n.kids ∧ Ow n0 t_string h p n.pivots ∧ Ow n0 t_api_Msg h b n.buf ∧ Ow n0 t_api_Pair h l n.pairs
section
variable {h : Heap} {K : Kt} {U : Nat → Prop} {v : Value}
theorem Ow.one {α : Type} [El α] {n0 e h v} {l : List α} (o : Ow n0 e h v l) : v.oneCell' = true := by
  rcases o with ⟨rfl, _⟩ | ⟨g, cap, cur, rfl, _⟩ <;> rfl
theorem Ow.form {α : Type} [El α] {n0 e h v} {l : List α} (o : Ow n0 e h v l) : ∃ a m c, v = .slice a m c := by
  rcases o with ⟨rfl, _⟩ | ⟨g, cap, cur, rfl, _⟩ <;> exact ⟨_, _, _, rfl⟩
theorem c_node_Clone {n : Node} (d : Nd U h v n) (hf : n.fits) (r : ∀ y h', No' h.size h' y n → Ext h h' → K y h') : Ca f_node_Clone #[v] h K := by
  obtain ⟨vk, vp, vb, vl, rfl, q1, q2, q3, q4⟩ := d.out
  obtain ⟨f1, f2, f3, f4⟩ := hf
  refine m_node_Clone_ok (bxa (cs := [int n.level, vk, vp, vb, vl]) fun b h1 e1 hb k1 _ => ala fun b2 h2 e2 hb2 k2 _ => ?_)
  have k1 := k1.ext e2
  have e12 := e1.trans e2
  refine ⟨fun b' _ => b' = b, ?_⟩
  simp only [FaP_ptr]
  refine LdX_b k1 rfl (fun _ => rfl) (LdX_b k1 rfl (fun _ => rfl) (LdX_b k1 rfl (fun _ => rfl) (LdX_b k1 rfl (fun _ => rfl) (LdX_b k1 rfl (fun _ => rfl) ?_))))
  refine c_Clone_u32 (q1.ext e12) (by omega) fun v3 h3 o3 e3 => ⟨agr_b e3 k1.lt (fun x => x), ?_⟩
  refine c_Clone_str (q2.ext (e12.trans e3)) (by omega) fun v4 h4 o4 e4 => ⟨agr_b (e3.trans e4) k1.lt (fun x => x), ?_⟩
  refine c_Clone_Msg (q3.ext ((e12.trans e3).trans e4)) (by omega) fun v5 h5 o5 e5 => ⟨agr_b ((e3.trans e4).trans e5) k1.lt (fun x => x), ?_⟩
  refine c_Clone_Pair (q4.ext (((e12.trans e3).trans e4).trans e5)) (by omega) fun v6 h6 o6 e6 => ⟨agr_b (((e3.trans e4).trans e5).trans e6) k1.lt (fun x => x), ?_⟩
  have e26 := ((e3.trans e4).trans e5).trans e6
  refine ⟨_, #[int n.level, v3, v4, v5, v6], rfl, ?_, ?_⟩
  · obtain ⟨a3, m3, c3, rfl⟩ := o3.form
    obtain ⟨a4, m4, c4, rfl⟩ := o4.form
    obtain ⟨a5, m5, c5, rfl⟩ := o5.form
    obtain ⟨a6, m6, c6, rfl⟩ := o6.form
    rfl
  · refine StA_b (vs := [int n.level, v3, v4, v5, v6]) (k2.ext e26) rfl rfl (by simp [one_eq, o3.one, o4.one, o5.one, o6.one]; rfl) fun h7 _ e7 k7 => ?_
    refine ⟨trivial, (LdA_b k7 rfl).2 ?_⟩
    have low : ∀ x, x = b2 → ¬ x < h.size := fun x hx => by have := e1.le; omega
    refine r _ h7 ⟨v3, v4, v5, v6, rfl, ?_, ?_, ?_, ?_⟩ ((e12.trans e26).andThen e7 fun x hx => by have := e1.le; omega)
    · exact ((((o3.ext e4).ext e5).ext e6).ex e7 fun x hx _ he => by have := k2.lt; omega).low e12.le
    · exact (((o4.ext e5).ext e6).ex e7 fun x hx _ he => by have := k2.lt; have := e3.le; omega).low (e12.trans e3).le
    · exact ((o5.ext e6).ex e7 fun x hx _ he => by have := k2.lt; have := (e3.trans e4).le; omega).low ((e12.trans e3).trans e4).le
    · exact (o6.ex e7 fun x hx _ he => by have := k2.lt; have := ((e3.trans e4).trans e5).le; omega).low (((e12.trans e3).trans e4).trans e5).le
end
end Go.Sg
/-! Numbers in a ring: what is linked, taken out and put in. -/
namespace Go.Sg
/-- Each is linked to the next one. -/
def Lk (be ah : Nat → Nat) : List Nat → Prop
  | x :: y :: t => be x = y ∧ ah y = x ∧ Lk be ah (y :: t)
  | _ => True
theorem lk_split {be ah : Nat → Nat} {x : Nat} {r : List Nat} : ∀ (l : List Nat), Lk be ah (l ++ x :: r) ↔ Lk be ah (l ++ [x]) ∧ Lk be ah (x :: r)
  | [] => by simp [Lk]
  | [a] => by simp [Lk, and_assoc]
  | a :: b :: l => by
    have := lk_split (x := x) (r := r) (be := be) (ah := ah) (b :: l)
    simp only [List.cons_append] at this ⊢
    simp only [Lk, this, and_assoc]
theorem lk_congr {be ah be' ah' : Nat → Nat} : ∀ (l : List Nat), (∀ x ∈ l.dropLast, be' x = be x) → (∀ x ∈ l.tail, ah' x = ah x) → Lk be ah l → Lk be' ah' l
  | [], _, _, _ => trivial
  | [_], _, _, _ => trivial
  | a :: b :: l, h1, h2, h => by
    refine ⟨(h1 a (by simp)).trans h.1, (h2 b (by simp)).trans h.2.1, lk_congr (b :: l) (fun x hx => h1 x ?_) (fun x hx => h2 x ?_) h.2.2⟩
    · rw [List.dropLast_cons_of_ne_nil (by simp)]; exact List.mem_cons_of_mem _ hx
    · simp at hx ⊢; exact .inr hx
def upd {β : Type} (f : Nat → β) (i : Nat) (v : β) : Nat → β := fun j => if j = i then v else f j
theorem upd_same {β : Type} {f : Nat → β} {i : Nat} {v : β} : upd f i v i = v := by simp [upd]
theorem upd_ne {β : Type} {f : Nat → β} {i j : Nat} {v : β} (h : j ≠ i) : upd f i v j = f j := by simp [upd, h]
/-- The numbers below n that are linked in a row, n itself behind all. -/
structure Ring (n : Nat) (be ah : Nat → Nat) (inn : Nat → Bool) (R : List Nat) : Prop where
  nd : R.Nodup
  lt : ∀ i ∈ R, i < n
  lk : Lk be ah (n :: R ++ [n])
  is : ∀ i, i ≤ n → (inn i = true ↔ i ∈ R)
theorem ring_new {n : Nat} {be ah : Nat → Nat} {inn : Nat → Bool} (h1 : be n = n) (h2 : ah n = n) (h3 : ∀ i, inn i = false) : Ring n be ah inn [] :=
  ⟨List.nodup_nil, by simp, ⟨h1, h2, trivial⟩, fun i _ => by simp [h3]⟩
theorem snoc_of (l : List Nat) (x : Nat) : ∃ P a, x :: l = P ++ [a] := ⟨(x :: l).dropLast, (x :: l).getLast (by simp), (List.dropLast_concat_getLast (by simp)).symm⟩
theorem cons_of (l : List Nat) (x : Nat) : ∃ b Q, l ++ [x] = b :: Q := by
  cases l with
  | nil => exact ⟨x, [], rfl⟩
  | cons b l => exact ⟨b, l ++ [x], rfl⟩
theorem ring_out {n : Nat} {be ah : Nat → Nat} {inn : Nat → Bool} {R : List Nat} {i : Nat} (F : Ring n be ah inn R) (hi : i ∈ R) :
    ah i ≤ n ∧ be i ≤ n ∧ ah i ≠ i ∧ be i ≠ i ∧ Ring n (upd (upd be (ah i) (be i)) i 0) (upd (upd ah (be i) (ah i)) i 0) (upd inn i false) (R.erase i) := by
  obtain ⟨p, q, rfl⟩ := List.append_of_mem hi
  obtain ⟨nd, lt, lk, is⟩ := F
  obtain ⟨P, a, hP⟩ := snoc_of p n
  obtain ⟨b, Q, hQ⟩ := cons_of q n
  rw [List.nodup_append, List.nodup_cons] at nd
  obtain ⟨nd1, ⟨nd2, nd3⟩, nd4⟩ := nd
  have hip : i ∉ p := fun h => nd4 i h i (by simp) rfl
  have hin : i ≠ n := by have := lt i (by simp); omega
  have hnp : n ∉ p := fun h => by have := lt n (by simp [h]); omega
  have hnq : n ∉ q := fun h => by have := lt n (by simp [h]); omega
  have hT : n :: (p ++ i :: q) ++ [n] = P ++ a :: i :: b :: Q := by
    have : n :: (p ++ i :: q) ++ [n] = (n :: p) ++ i :: (q ++ [n]) := by simp
    rw [this, hP, hQ]; simp
  rw [hT, lk_split] at lk
  obtain ⟨l1, l2, l3, l4, l5, l6⟩ := lk
  have hai : ah i = a := l3
  have hbi : be i = b := l4
  have ham : a ∈ n :: p := by rw [hP]; simp
  have hbm : b ∈ q ++ [n] := by rw [hQ]; simp
  have hndP : (P ++ [a]).Nodup := by rw [← hP]; exact List.nodup_cons.2 ⟨hnp, nd1⟩
  have hndQ : (b :: Q).Nodup := by
    rw [← hQ, List.nodup_append]
    exact ⟨nd3, by simp, fun x hx y hy => by simp at hy; subst hy; rintro rfl; exact hnq hx⟩
  have han : a ≤ n := by
    rcases List.mem_cons.1 ham with h | h
    · omega
    · have := lt a (by simp [h]); omega
  have hbn : b ≤ n := by
    rcases List.mem_append.1 hbm with h | h
    · have := lt b (by simp [h]); omega
    · simp at h; omega
  have hane : a ≠ i := fun h => by
    subst h
    rcases List.mem_cons.1 ham with h | h
    · exact hin h
    · exact hip h
  have hbne : b ≠ i := fun h => by
    subst h
    rcases List.mem_append.1 hbm with h | h
    · exact nd2 h
    · simp at h; exact hin h
  rw [hai, hbi]
  have her : (p ++ i :: q).erase i = p ++ q := by rw [List.erase_append_right _ hip]; simp
  rw [her]
  refine ⟨han, hbn, hane, hbne, ⟨?_, fun x hx => lt x (by simp only [List.mem_append, List.mem_cons] at hx ⊢; exact hx.elim Or.inl fun h => Or.inr (Or.inr h)), ?_, fun j hj => ?_⟩⟩
  · rw [List.nodup_append]
    exact ⟨nd1, nd3, fun x hx y hy => nd4 x hx y (by simp [hy])⟩
  · have hT' : n :: (p ++ q) ++ [n] = P ++ a :: b :: Q := by
      have : n :: (p ++ q) ++ [n] = (n :: p) ++ (q ++ [n]) := by simp
      rw [this, hP, hQ]; simp
    rw [hT', lk_split]
    refine ⟨lk_congr _ (fun x hx => ?_) (fun x hx => ?_) l1, ?_, ?_, lk_congr _ (fun x hx => ?_) (fun x hx => ?_) l6⟩
    · rw [List.dropLast_concat] at hx
      have hxa : x ≠ a := by
        rw [List.nodup_append] at hndP
        exact hndP.2.2 x hx a (by simp)
      have hxi : x ≠ i := fun h => by
        subst h
        have : x ∈ n :: p := by rw [hP]; simp [hx]
        rcases List.mem_cons.1 this with h | h
        · exact hin h
        · exact hip h
      rw [upd_ne hxi, upd_ne hxa]
    · rw [← hP] at hx
      simp only [List.tail_cons] at hx
      have hxi : x ≠ i := fun h => by subst h; exact hip hx
      have hxb : x ≠ b := fun h => by
        subst h
        rcases List.mem_append.1 hbm with h | h
        · exact nd4 x hx x (by simp [h]) rfl
        · simp at h; subst h; exact hnp hx
      rw [upd_ne hxi, upd_ne hxb]
    · rw [upd_ne hane, upd_same]
    · rw [upd_ne hbne, upd_same]
    · rw [← hQ, List.dropLast_concat] at hx
      have hxi : x ≠ i := fun h => by subst h; exact nd2 hx
      have hxa : x ≠ a := fun h => by
        subst h
        rcases List.mem_cons.1 ham with h | h
        · subst h; exact hnq hx
        · exact nd4 x h x (by simp [hx]) rfl
      rw [upd_ne hxi, upd_ne hxa]
    · simp only [List.tail_cons] at hx
      have hxb : x ≠ b := fun h => by subst h; exact (List.nodup_cons.1 hndQ).1 hx
      have hxi : x ≠ i := fun h => by
        subst h
        have : x ∈ q ++ [n] := by rw [hQ]; simp [hx]
        rcases List.mem_append.1 this with h | h
        · exact nd2 h
        · simp at h; exact hin h
      rw [upd_ne hxi, upd_ne hxb]
  · by_cases hji : j = i
    · subst hji
      rw [upd_same]
      simp [hip, nd2]
    · rw [upd_ne hji, is j hj]
      simp [hji]
theorem ring_put {n : Nat} {be ah : Nat → Nat} {inn : Nat → Bool} {R : List Nat} {i : Nat} (F : Ring n be ah inn R) (hi : i ∉ R) (hn : i < n) :
    be n ≤ n ∧ be n ≠ i ∧ Ring n (upd (upd be i (be n)) n i) (upd (upd ah i n) (be n) i) (upd inn i true) (i :: R) := by
  obtain ⟨nd, lt, lk, is⟩ := F
  obtain ⟨b, Q, hQ⟩ := cons_of R n
  have hnR : n ∉ R := fun h => by have := lt n h; omega
  have hT : n :: R ++ [n] = n :: b :: Q := by rw [List.cons_append, hQ]
  rw [hT] at lk
  obtain ⟨l1, l2, l3⟩ := lk
  have hbm : b ∈ R ++ [n] := by rw [hQ]; simp
  have hbn : b ≤ n := by
    rcases List.mem_append.1 hbm with h | h
    · have := lt b h; omega
    · simp at h; omega
  have hbi : b ≠ i := fun h => by
    subst h
    rcases List.mem_append.1 hbm with h | h
    · exact hi h
    · simp at h; omega
  have hndQ : (b :: Q).Nodup := by
    rw [← hQ, List.nodup_append]
    exact ⟨nd, by simp, fun x hx y hy => by simp at hy; subst hy; rintro rfl; exact hnR hx⟩
  rw [l1]
  refine ⟨hbn, hbi, ⟨List.nodup_cons.2 ⟨hi, nd⟩, fun x hx => ?_, ?_, fun j hj => ?_⟩⟩
  · rcases List.mem_cons.1 hx with rfl | h
    · exact hn
    · exact lt x h
  · have hT' : n :: (i :: R) ++ [n] = n :: i :: b :: Q := by simp only [List.cons_append, hQ]
    rw [hT']
    refine ⟨upd_same, ?_, ?_, ?_, lk_congr _ (fun x hx => ?_) (fun x hx => ?_) l3⟩
    · rw [upd_ne (Ne.symm hbi), upd_same]
    · rw [upd_ne (by omega), upd_same]
    · rw [upd_same]
    · rw [← hQ, List.dropLast_concat] at hx
      have hxn : x ≠ n := fun h => by subst h; exact hnR hx
      have hxi : x ≠ i := fun h => by subst h; exact hi hx
      rw [upd_ne hxn, upd_ne hxi]
    · simp only [List.tail_cons] at hx
      have hxb : x ≠ b := fun h => by subst h; exact (List.nodup_cons.1 hndQ).1 hx
      have hxi : x ≠ i := fun h => by
        subst h
        have : x ∈ R ++ [n] := by rw [hQ]; simp [hx]
        rcases List.mem_append.1 this with h | h
        · exact hi h
        · simp at h; omega
      rw [upd_ne hxb, upd_ne hxi]
  · by_cases hji : j = i
    · subst hji; simp [upd_same]
    · rw [upd_ne hji, is j hj]; simp [hji]
theorem ring_last {n : Nat} {be ah : Nat → Nat} {inn : Nat → Bool} {R : List Nat} (F : Ring n be ah inn R) : ∃ P, n :: R = P ++ [ah n] := by
  obtain ⟨P, a, hP⟩ := snoc_of R n
  refine ⟨P, ?_⟩
  have lk := F.lk
  have hT : n :: R ++ [n] = P ++ a :: [n] := by rw [hP]; simp
  rw [hT, lk_split] at lk
  rw [lk.2.2.1, hP]
end Go.Sg
/-! Maps from numbers of kind u32, as association lists. -/
namespace Go.Sg
open Go Vc
section
variable {β : Type} {ev : β → Value}
/-- The map of block b, as a list of keys and values, in the order of their coming. -/
def Mp (ev : β → Value) (h : Array Obj) (b : Nat) (m : List (Nat × β)) : Prop :=
  ∃ es clock, h[b]? = some (.map es clock) ∧ es.toList.map (fun e => (e.key, e.val)) = m.map (fun p => (.int .u32 (p.1 : Int), ev p.2)) ∧ (es.toList.map (·.born)).Nodup ∧ (∀ e ∈ es.toList, e.born < clock) ∧ (m.map Prod.fst).Nodup
theorem Mp.lt {h : Array Obj} {b} {m : List (Nat × β)} (k : Mp ev h b m) : b < h.size := by
  obtain ⟨es, c, h1, _⟩ := k; exact (Array.getElem?_eq_some_iff.1 h1).1
theorem Mp.nodup {h : Array Obj} {b} {m : List (Nat × β)} (k : Mp ev h b m) : (m.map Prod.fst).Nodup := by
  obtain ⟨es, c, h1, h2, h3, h4, h5⟩ := k; exact h5
def mput (m : List (Nat × β)) (k : Nat) (v : β) : List (Nat × β) := if (m.lookup k).isSome then m.map (fun p => if p.1 = k then (k, v) else p) else m ++ [(k, v)]
def mdel (m : List (Nat × β)) (k : Nat) : List (Nat × β) := m.filter fun p => p.1 != k
theorem lookup_none_iff {m : List (Nat × β)} {k : Nat} : m.lookup k = none ↔ k ∉ m.map Prod.fst := by
  induction m with
  | nil => simp
  | cons p m ih =>
    obtain ⟨a, b⟩ := p
    rw [List.lookup_cons]
    by_cases hk : k = a
    · subst hk; simp
    · have : (k == a) = false := by simpa using hk
      rw [this]; simp only [List.map_cons, List.mem_cons, not_or]
      rw [ih]; simp [hk]
theorem findNow_eq {k : Nat} : ∀ (l : List MapEntry) (m : List (Nat × β)) (i : Nat), l.map (fun e => (e.key, e.val)) = m.map (fun p => (.int .u32 (p.1 : Int), ev p.2)) →
    Instr.findNow (.int .u32) (.int .u32 (k : Int)) l i = some ((m.lookup k).map fun v => (i + m.findIdx (fun p => p.1 = k), ev v))
  | [], [], i, _ => rfl
  | [], _ :: _, i, h => by simp at h
  | _ :: _, [], i, h => by simp at h
  | e :: l, p :: m, i, h => by
    obtain ⟨a, v⟩ := p
    simp only [List.map_cons, List.cons.injEq, Prod.mk.injEq] at h
    obtain ⟨⟨h1, h2⟩, h3⟩ := h
    rw [Instr.findNow, h1, List.lookup_cons, List.findIdx_cons]
    by_cases hk : k = a
    · subst hk
      simp [Instr.sameNow, h2]
    · have hk1 : (k == a) = false := by simpa using hk
      have hk2 : ((k : Int) == (a : Int)) = false := by rw [beq_eq_false_iff_ne]; omega
      have hk3 : decide ((a, v).1 = k) = false := by simpa using fun e => hk e.symm
      simp only [Instr.sameNow, if_true, hk1, hk2, hk3, cond_false]
      rw [findNow_eq l m (i + 1) h3]
      cases m.lookup k <;> simp
      omega
theorem entry_get {l : List MapEntry} {m : List (Nat × β)} (h : l.map (fun e => (e.key, e.val)) = m.map (fun p => (.int .u32 (p.1 : Int), ev p.2))) (i : Nat) : (l[i]?).map (fun e => (e.key, e.val)) = (m[i]?).map (fun p => (.int .u32 (p.1 : Int), ev p.2)) := by
  have := congrArg (·[i]?) h
  simpa using this
variable {P : Program} {t kt et ty : TypeId} {h : Array Obj} {K : Value → Array Obj → Prop} {R : Array Obj → Prop} {b : Nat} {m : List (Nat × β)} {k : Nat}
theorem isKeyU (n : Int) : MapKept.IsKey (.int .u32) (.int .u32 n) := by simp [MapKept.IsKey]
theorem vc_lookup (c : Bool) {z : Value} (ht : P.underlying t = some (.map kt et)) (hk : P.underlying kt = some (.int .u32)) (hz : (P.info? et).bind (·.zero) = some z) (o : Mp ev h b m)
    (r : K (if c then .tuple #[((m.lookup k).map ev).getD z, .bool (m.lookup k).isSome] else ((m.lookup k).map ev).getD z) h) : VH P (Instr.lookup t (.map (some b)) (.int .u32 (k : Int)) c) h K := by
  intro w hw
  subst hw
  obtain ⟨es, clock, h1, h2, h3, h4, h5⟩ := o
  have hf := findNow_eq (ev := ev) (k := k) es.toList m 0 h2
  refine ⟨_, w, ?_, Kin.refl _, r⟩
  have hzz : (zeroValue et).run P w = .ok z w := by
    cases hi : P.info? et with
    | none => rw [hi] at hz; cases hz
    | some i =>
      rw [hi] at hz
      simp only [Option.bind_some] at hz
      simp [zeroValue, typeInfo, hi, hz, Result.andThen]
  cases hl : m.lookup k with
  | none =>
    rw [hl] at hf
    simp only [Option.map_none] at hf
    simp [Instr.lookup, run_underlying ht, MapKept.run_getObj_map h1, MapKept.run_checkKey hk (isKeyU _), MapKept.run_findKey hk hf, hzz, Result.andThen]
  | some v =>
    rw [hl] at hf
    simp only [Option.map_some] at hf
    simp [Instr.lookup, run_underlying ht, MapKept.run_getObj_map h1, MapKept.run_checkKey hk (isKeyU _), MapKept.run_findKey hk hf, Result.andThen]
theorem setObj_ex {h : Array Obj} {b : Nat} {o : Obj} : (h.setIfInBounds b o).size = h.size ∧ ∀ c, c ≠ b → (h.setIfInBounds b o)[c]? = h[c]? := by
  refine ⟨by simp, fun c hc => by simp [Ne.symm hc]⟩
theorem setObj_at {h : Array Obj} {b : Nat} {o : Obj} (hb : b < h.size) : (h.setIfInBounds b o)[b]? = some o := by simp [hb]
theorem eraseIdx_map' {α γ : Type} (f : α → γ) : ∀ (l : List α) (i : Nat), (l.eraseIdx i).map f = (l.map f).eraseIdx i
  | [], i => by simp
  | a :: l, 0 => rfl
  | a :: l, i + 1 => by simp [eraseIdx_map' f l i]
theorem findIdx_at {m : List (Nat × β)} {k : Nat} {v : β} (hl : m.lookup k = some v) : m[m.findIdx (fun p => p.1 = k)]? = some (k, v) := by
  induction m with
  | nil => simp at hl
  | cons p m ih =>
    obtain ⟨a, c⟩ := p
    rw [List.lookup_cons] at hl
    rw [List.findIdx_cons]
    by_cases hk : k = a
    · subst hk; simp at hl; subst hl; simp
    · have hk1 : (k == a) = false := by simpa using hk
      have hk3 : decide ((a, c).1 = k) = false := by simpa using fun e => hk e.symm
      rw [hk1] at hl
      rw [hk3]; simpa using ih hl
theorem mput_modify {m : List (Nat × β)} {k : Nat} {v : β} (hn : (m.map Prod.fst).Nodup) (hl : (m.lookup k).isSome = true) : mput m k v = m.modify (m.findIdx (fun p => p.1 = k)) (fun _ => (k, v)) := by
  unfold mput
  rw [if_pos hl]
  induction m with
  | nil => simp at hl
  | cons p m ih =>
    obtain ⟨a, c⟩ := p
    rw [List.map_cons, List.findIdx_cons]
    simp only [List.map_cons, List.nodup_cons] at hn
    by_cases hk : a = k
    · subst hk
      simp only [if_true, decide_true, cond_true, List.modify_zero_cons, List.cons.injEq, true_and]
      conv => rhs; rw [← List.map_id m]
      apply List.map_congr_left
      intro q hq
      rw [if_neg]; rfl
      intro e; exact hn.1 (by rw [← e]; exact List.mem_map_of_mem hq)
    · have hk3 : decide ((a, c).1 = k) = false := by simpa using hk
      have hk1 : (k == a) = false := by simpa using fun e => hk e.symm
      rw [List.lookup_cons, hk1] at hl
      rw [hk3, if_neg (by simpa using hk)]
      simp only [cond_false, List.modify_succ_cons, List.cons.injEq, true_and]
      exact ih hn.2 hl
theorem mput_keys {m : List (Nat × β)} {k : Nat} {v : β} : ((mput m k v).map Prod.fst) = if k ∈ m.map Prod.fst then m.map Prod.fst else m.map Prod.fst ++ [k] := by
  unfold mput
  by_cases hl : (m.lookup k).isSome = true
  · rw [if_pos hl]
    have hm : k ∈ m.map Prod.fst := by
      refine Classical.byContradiction fun hc => ?_
      rw [lookup_none_iff.2 hc] at hl; cases hl
    rw [if_pos hm, List.map_map]
    apply List.map_congr_left
    intro p hp
    by_cases he : p.1 = k
    · simp [he]
    · simp [he]
  · rw [if_neg hl]
    have hm : k ∉ m.map Prod.fst := lookup_none_iff.1 (by cases hq : m.lookup k with
      | none => rfl
      | some _ => rw [hq] at hl; simp at hl)
    rw [if_neg hm]; simp
theorem vc_mapUpdate {v : β} (ht : P.underlying t = some (.map kt et)) (hk : P.underlying kt = some (.int .u32)) (o : Mp ev h b m)
    (r : ∀ h', Mp ev h' b (mput m k v) → h'.size = h.size → (∀ c, c ≠ b → h'[c]? = h[c]?) → R h') : UH P (Instr.mapUpdate t (.map (some b)) (.int .u32 (k : Int)) (ev v)) h R := by
  intro w hw
  subst hw
  obtain ⟨es, clock, h1, h2, h3, h4, h5⟩ := o
  have hlt : b < w.heap.size := (Array.getElem?_eq_some_iff.1 h1).1
  have hf := findNow_eq (ev := ev) (k := k) es.toList m 0 h2
  have hnd : ((mput m k v).map Prod.fst).Nodup := by
    rw [mput_keys]
    split
    · exact h5
    · rename_i hm
      rw [List.nodup_append]
      refine ⟨h5, by simp, fun a ha c hc => ?_⟩
      simp at hc; subst hc; rintro rfl; exact hm ha
  cases hl : m.lookup k with
  | none =>
    rw [hl] at hf
    simp only [Option.map_none] at hf
    refine ⟨{ w with heap := w.heap.setIfInBounds b (.map (es.push ⟨.int .u32 (k : Int), ev v, clock⟩) (clock + 1)) }, ?_, ⟨rfl, rfl, rfl⟩, r _ ?_ setObj_ex.1 setObj_ex.2⟩
    · simp [Instr.mapUpdate, run_underlying ht, MapKept.run_getObj_map h1, MapKept.run_checkKey hk (isKeyU _), MapKept.run_findKey hk hf, MapKept.run_setObj_map _ h1, Result.andThen]
    · refine ⟨_, _, setObj_at hlt, ?_, ?_, ?_, hnd⟩
      · unfold mput; rw [hl]; simp [h2]
      · simp only [Array.toList_push, List.map_append, List.map_cons, List.map_nil]
        rw [List.nodup_append]
        refine ⟨h3, by simp, fun a ha c hc => ?_⟩
        simp at hc; subst hc
        obtain ⟨e, he, rfl⟩ := List.mem_map.1 ha
        have := h4 e he; omega
      · intro e he
        simp only [Array.toList_push, List.mem_append, List.mem_singleton] at he
        rcases he with he | rfl
        · have := h4 e he; omega
        · simp
  | some u =>
    rw [hl] at hf
    simp only [Option.map_some, Nat.zero_add] at hf
    have hat := findIdx_at hl
    generalize hj : m.findIdx (fun p => p.1 = k) = j at hf hat
    have hej := entry_get h2 j
    rw [hat] at hej
    cases he : es.toList[j]? with
    | none => rw [he] at hej; cases hej
    | some e =>
      rw [he] at hej
      simp only [Option.map_some, Option.some.injEq, Prod.mk.injEq] at hej
      have hea : es[j]? = some e := by simpa using he
      have hjl : j < es.size := (Array.getElem?_eq_some_iff.1 hea).1
      refine ⟨{ w with heap := w.heap.setIfInBounds b (.map (es.modify j fun e => { e with key := .int .u32 (k : Int), val := ev v }) clock) }, ?_, ⟨rfl, rfl, rfl⟩, r _ ?_ setObj_ex.1 setObj_ex.2⟩
      · simp [Instr.mapUpdate, run_underlying ht, MapKept.run_getObj_map h1, MapKept.run_checkKey hk (isKeyU _), MapKept.run_findKey hk hf, hea, hej.1, MapKept.run_keyThatStays (isKeyU (k : Int)), MapKept.run_setObj_map _ h1, Result.andThen]
      · have hb : (es.modify j fun e => { e with key := .int .u32 (k : Int), val := ev v }).toList.map (·.born) = es.toList.map (·.born) := by
          apply List.ext_getElem?
          intro i
          simp only [List.getElem?_map, Array.getElem?_toList, Array.getElem?_modify]
          split
          · cases es[i]? <;> simp
          · rfl
        refine ⟨_, _, setObj_at hlt, ?_, by rw [hb]; exact h3, ?_, hnd⟩
        · rw [mput_modify h5 (by rw [hl]; rfl), hj]
          apply List.ext_getElem?
          intro i
          have hi := entry_get h2 i
          simp only [List.getElem?_map, Array.getElem?_toList, Array.getElem?_modify, List.getElem?_modify] at hi ⊢
          by_cases hij : j = i
          · subst hij
            simp [hea, hat]
          · simp only [if_neg hij]
            rw [hi]; simp [hij]
        · intro e' he'
          have : e'.born ∈ (es.modify j fun e => { e with key := .int .u32 (k : Int), val := ev v }).toList.map (·.born) := List.mem_map_of_mem he'
          rw [hb] at this
          obtain ⟨e2, h6, h7⟩ := List.mem_map.1 this
          rw [← h7]; exact h4 e2 h6
theorem mdel_erase {m : List (Nat × β)} {k : Nat} (hn : (m.map Prod.fst).Nodup) (hl : (m.lookup k).isSome = true) : mdel m k = m.eraseIdx (m.findIdx (fun p => p.1 = k)) := by
  unfold mdel
  induction m with
  | nil => simp at hl
  | cons p m ih =>
    obtain ⟨a, c⟩ := p
    rw [List.filter_cons, List.findIdx_cons]
    simp only [List.map_cons, List.nodup_cons] at hn
    by_cases hk : a = k
    · subst hk
      simp only [bne_self_eq_false, Bool.false_eq_true, if_false, decide_true, cond_true, List.eraseIdx_zero, List.tail_cons]
      rw [List.filter_eq_self]
      intro q hq
      simp only [bne_iff_ne, ne_eq]
      intro e; exact hn.1 (by rw [← e]; exact List.mem_map_of_mem hq)
    · have hk3 : decide ((a, c).1 = k) = false := by simpa using hk
      have hk1 : (k == a) = false := by simpa using fun e => hk e.symm
      rw [List.lookup_cons, hk1] at hl
      rw [hk3, if_pos (by simpa using hk)]
      simp only [cond_false, List.eraseIdx_cons_succ, List.cons.injEq, true_and]
      exact ih hn.2 hl
theorem vc_delete {ks : TypeId} (ht : P.underlying t = some (.map kt et)) (hk : P.underlying kt = some (.int .u32)) (o : Mp ev h b m)
    (r : ∀ h', Mp ev h' b (mdel m k) → h'.size = h.size → (∀ c, c ≠ b → h'[c]? = h[c]?) → K (.tuple #[]) h') : VH P (Builtin.delete_ #[t, ks] ty #[.map (some b), .int .u32 (k : Int)]) h K := by
  intro w hw
  subst hw
  obtain ⟨es, clock, h1, h2, h3, h4, h5⟩ := o
  have hlt : b < w.heap.size := (Array.getElem?_eq_some_iff.1 h1).1
  have hf := findNow_eq (ev := ev) (k := k) es.toList m 0 h2
  have hnd : ((mdel m k).map Prod.fst).Nodup := by
    unfold mdel; exact (List.filter_sublist.map _).nodup h5
  cases hl : m.lookup k with
  | none =>
    rw [hl] at hf
    simp only [Option.map_none] at hf
    refine ⟨.tuple #[], { w with heap := w.heap.setIfInBounds b (.map es clock) }, ?_, ⟨rfl, rfl, rfl⟩, r _ ?_ setObj_ex.1 setObj_ex.2⟩
    · simp [Builtin.delete_, run_underlying ht, MapKept.run_getObj_map h1, MapKept.run_checkKey hk (isKeyU _), MapKept.run_findKey hk hf, MapKept.run_setObj_map _ h1, Result.andThen]
    · have hm : mdel m k = m := by
        unfold mdel
        rw [List.filter_eq_self]
        intro q hq
        simp only [bne_iff_ne, ne_eq]
        intro e; exact lookup_none_iff.1 hl (by rw [← e]; exact List.mem_map_of_mem hq)
      rw [hm]
      exact ⟨_, _, setObj_at hlt, h2, h3, h4, h5⟩
  | some u =>
    rw [hl] at hf
    simp only [Option.map_some, Nat.zero_add] at hf
    have hat := findIdx_at hl
    have hmd := mdel_erase (k := k) h5 (by rw [hl]; rfl)
    generalize hj : m.findIdx (fun p => p.1 = k) = j at hf hat hmd
    have hej := entry_get h2 j
    rw [hat] at hej
    have hjl : j < es.size := by
      cases he : es.toList[j]? with
      | none => rw [he] at hej; cases hej
      | some e => simpa using (List.getElem?_eq_some_iff.1 he).1
    have hsub : (es.eraseIdxIfInBounds j).toList = es.toList.eraseIdx j := by
      unfold Array.eraseIdxIfInBounds
      rw [dif_pos hjl]
      simp
    refine ⟨.tuple #[], { w with heap := w.heap.setIfInBounds b (.map (es.eraseIdxIfInBounds j) clock) }, ?_, ⟨rfl, rfl, rfl⟩, r _ ?_ setObj_ex.1 setObj_ex.2⟩
    · simp [Builtin.delete_, run_underlying ht, MapKept.run_getObj_map h1, MapKept.run_checkKey hk (isKeyU _), MapKept.run_findKey hk hf, MapKept.run_setObj_map _ h1, Result.andThen]
    · refine ⟨_, _, setObj_at hlt, ?_, ?_, ?_, hnd⟩
      · rw [hsub, hmd, eraseIdx_map', eraseIdx_map', h2]
      · rw [hsub, eraseIdx_map']; exact (List.eraseIdx_sublist _ _).nodup h3
      · intro e he; rw [hsub] at he; exact h4 e ((List.eraseIdx_sublist _ _).subset he)
theorem vc_len_map (ht : P.underlying t = some (.map kt et)) (o : Mp ev h b m) (r : K (.int .i64 m.length) h) : VH P (Builtin.len_ #[t] ty #[.map (some b)]) h K := by
  intro w hw
  subst hw
  obtain ⟨es, clock, h1, h2, h3, h4, h5⟩ := o
  have : es.size = m.length := by have := congrArg List.length h2; simpa using this
  refine ⟨.int .i64 m.length, w, ?_, Kin.refl _, r⟩
  simp [Builtin.len_, run_underlying ht, MapKept.run_getObj_map h1, Result.andThen, goInt, this]
theorem vc_makeMap (r : ∀ b h', b = h.size → Mp ev h' b [] → h'.size = h.size + 1 → (∀ c, c < h.size → h'[c]? = h[c]?) → K (.map (some b)) h') : VH P (Instr.makeMap t none) h K := by
  intro w hw
  subst hw
  refine ⟨.map (some w.heap.size), w.alloc (.map #[] 0), ?_, ⟨rfl, rfl, rfl⟩, r _ _ rfl ?_ (show (w.heap.push _).size = _ by simp) (fun c hc => (MapKept.heap_alloc w _).2 c hc)⟩
  · simp [Instr.makeMap, Result.andThen]
  · exact ⟨_, _, (MapKept.heap_alloc w _).1, rfl, by simp, by simp, by simp⟩
end
end Go.Sg
/-! Stores into rows whose block is known. -/
namespace Go.Sg
open Go Vc
section
variable {α : Type} [El α] {e : TypeId} {h : Heap} {R : Heap → Prop}
theorem own_setf {g cap n c : Nat} {L : List α} {i f : Nat} {a a' : α} {w : Value} {k} {zz : Nat} (hzz : zz = El.z α) (o : Own g cap e h L) (hn : n = L.length) (ha : L[i]? = some a) (hf : f < El.z α) (hw : (El.enc a).set f w = El.enc a') (h1 : one' w = true)
    (r : ∀ h', Own g cap e h' (L.set i a') → Ex (fun b => b = g) h h' → R h') : IxP zz (.slice (some ⟨g, 0, none⟩) n c) (.int k i) fun q => FaP (some f) q fun p => StP p w h R := by
  subst hzz hn
  have hi : i < L.length := (List.getElem?_eq_some_iff.1 ha).1
  obtain ⟨cur, q1, q2, q3, q4, q5⟩ := o
  refine ⟨g, 0, L.length, c, k, i, rfl, rfl, by omega, by omega, ?_⟩
  simp only [FaP_ptr, Int.toNat_natCast, Nat.zero_add]
  have hlt : i * El.z α + f < L.length * El.z α := by
    have : (i + 1) * El.z α ≤ L.length * El.z α := Nat.mul_le_mul_right _ hi
    rw [Nat.add_mul, Nat.one_mul] at this; omega
  have hcap : L.length * El.z α ≤ cap * El.z α := Nat.mul_le_mul_right _ q2
  have kb : Blk h g cur := ⟨e, q1⟩
  refine StP_blk kb (by omega) h1 (r _ ?_ (hset_ex rfl))
  have hT : (hset h g (i * El.z α + f) w)[g]? = some (.cells (cur.set (i * El.z α + f) w).toArray e (0, 0)) := by
    rw [hset, Array.getElem?_modify, if_pos rfl, q1]; simp
  exact ⟨_, hT, by rw [List.length_set]; exact q2, q3, by rw [List.length_set, q4], by rw [List.length_set, List.take_set, q5, cells_set ha hf hw]⟩
theorem own_set {g cap c m : Nat} {L : List α} {i n : Nat} {a' : α} {k} {zz : Nat} {vs : List Value} (hzz : zz = El.z α) (hn : n = El.z α) (hvs : vs = El.enc a') (o : Own g cap e h L) (hm : m = L.length) (hi : i < L.length)
    (r : ∀ h', Own g cap e h' (L.set i a') → Ex (fun b => b = g) h h' → R h') : IxP zz (.slice (some ⟨g, 0, none⟩) m c) (.int k i) fun q => StA n q (.agg vs.toArray) h R := by
  subst hzz hn hvs hm
  have hle := o.le
  refine ⟨g, 0, L.length, c, k, i, rfl, rfl, by omega, by omega, ?_⟩
  simp only [Int.toNat_natCast, Nat.zero_add]
  have hw := o.write i [a'] (by omega) (by simp; omega)
  obtain ⟨cur, q1, q2, q3, q4, q5⟩ := o
  have kb : Blk h g cur := ⟨e, q1⟩
  have hlt : (i + 1) * El.z α ≤ cap * El.z α := Nat.mul_le_mul_right _ (by omega)
  rw [Nat.add_mul, Nat.one_mul] at hlt
  refine StA_blk kb (by omega) (El.len a') (by rw [List.all_eq_true]; intro v hv; rw [one_eq]; exact El.one a' v hv) (r _ ?_ (hsets_ex rfl))
  have he : L.take i ++ [a'] ++ L.drop (i + [a'].length) = L.set i a' := by
    rw [List.set_eq_take_append_cons_drop, if_pos hi]; simp
  rw [he] at hw
  simpa only [cells_cons, cells_nil, List.append_nil] using hw
theorem own_set1 {g cap c m : Nat} {L : List α} {i : Nat} {a' : α} {k} {zz : Nat} {w : Value} (hzz : zz = El.z α) (hz1 : El.z α = 1) (hw : El.enc a' = [w]) (o : Own g cap e h L) (hm : m = L.length) (hi : i < L.length)
    (r : ∀ h', Own g cap e h' (L.set i a') → Ex (fun b => b = g) h h' → R h') : IxP zz (.slice (some ⟨g, 0, none⟩) m c) (.int k i) fun q => StP q w h R := by
  have ha : L[i]? = some L[i] := List.getElem?_eq_getElem hi
  have h1 : (El.enc L[i]).set 0 w = El.enc a' := by
    have := El.len L[i]; rw [hz1] at this
    match hq : El.enc L[i], this with
    | [x], _ => rw [hw]; rfl
  have hone : one' w = true := by rw [one_eq]; exact El.one a' w (by rw [hw]; simp)
  have := own_setf (f := 0) (k := k) (c := c) hzz o hm ha (by omega) h1 hone r
  obtain ⟨b, o', len, cap, k', i', e1, e2, e3, e4, e5⟩ := this
  refine ⟨b, o', len, cap, k', i', e1, e2, e3, e4, ?_⟩
  simpa [FaP_ptr] using e5
theorem Own.rd {g cap n : Nat} {L : List α} (o : Own g cap e h L) (hn : n = L.length) {c : Nat} (hc : n ≤ c) : Sl No h (.slice (some ⟨g, 0, none⟩) n c) L := by
  subst hn
  exact ⟨_, c, rfl, hc, (fun x => nomatch x), fun x hx => by
    cases hx
    exact ⟨rfl, fun _ => ⟨o.lt, fun x => x, fun j v hj => by rw [Nat.zero_add]; exact o.at hj⟩⟩⟩
/-- A list by its places. -/
def tab {β : Type} (n : Nat) (f : Nat → β) : List β := (List.range n).map f
theorem tab_length {β : Type} {n : Nat} {f : Nat → β} : (tab n f).length = n := by simp [tab]
theorem tab_get {β : Type} {n i : Nat} {f : Nat → β} (h : i < n) : (tab n f)[i]? = some (f i) := by simp [tab, h]
theorem tab_set {β : Type} {n i : Nat} {f : Nat → β} {v : β} : (tab n f).set i v = tab n (upd f i v) := by
  apply List.ext_getElem?
  intro j
  rw [List.getElem?_set]
  by_cases hij : i = j
  · subst hij
    simp only [if_true, tab_length]
    by_cases hi : i < n
    · rw [if_pos hi, tab_get hi, upd_same]
    · rw [if_neg hi]; simp [tab, hi]
  · rw [if_neg hij]
    by_cases hj : j < n
    · rw [tab_get hj, tab_get hj, upd_ne (Ne.symm hij)]
    · simp [tab, hj]
theorem tab_rep {β : Type} {n : Nat} {v : β} : List.replicate n v = tab n fun _ => v := by
  apply List.ext_getElem?
  intro j
  by_cases hj : j < n
  · rw [tab_get hj]; simp [hj]
  · simp [tab, hj]
end
end Go.Sg
