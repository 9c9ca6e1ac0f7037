/-
  Part 12 of a proof: own texts, merged by program.
-/
import Derived.Shelf.SlIterI.Collect
import Derived.Lib.SlBytesConst
import Derived.Test.YtfdephgpijheoaaGreatDoorP11
set_option linter.unusedVariables false
set_option linter.unusedSimpArgs false
namespace Go.Sg
open Go Vc
section
variable {h : Heap} {K : Kt} {g cap : Nat}
theorem c_Less_u32 {a b : Nat} (r : K (.bool (decide ((a : Int) < b))) h) : Ca f_cmp_Less_uint32 #[.int .u32 a, .int .u32 b] h K := by
  refine m_cmp_Less_uint32_ok (m_cmp_isNaN_uint32_ok ?_)
  unfold m_cmp_isNaN_uint32
  rw [BiP_neq, decide_eq_false (by simp)]
  exact CdP_false.2 (BiP_lss.2 r)
theorem is_any {s : ByteArray} {x : Nat} {k} {K : Value → Prop} (hs : x < s.size) (r : ∀ b : UInt8, K (.int .u8 b.toNat)) : IsP (.string s) (.int k (x : Int)) K := by
  refine ⟨s, k, x, rfl, rfl, by omega, s[x], ?_, r _⟩
  rw [Int.toNat_natCast]
  exact getElem?_pos s x hs
theorem c_mbits_Len {x : Nat} (hx : x < 64) (r : ∀ b : UInt8, K (int (0 + (b.toNat : Int))) h) : Ca f_bits_Len #[.int .u64 x] h K := by
  refine m_bits_Len_ok (m_bits_Len64_ok ?_)
  unfold m_bits_Len64
  rw [BiP_geq]
  refine cdp (fun h => absurd h (by omega)) fun _ => ?_
  unfold m_bits_Len64_j4
  rw [BiP_geq]
  refine cdp (fun h => absurd h (by omega)) fun _ => ?_
  unfold m_bits_Len64_j9
  rw [BiP_geq]
  refine cdp (fun h => absurd h (by omega)) fun _ => ?_
  unfold m_bits_Len64_j14
  rw [CvP_int, wrapU rfl (by omega) (by show _ < (2 : Int) ^ 8; omega)]
  refine is_any (Nat.lt_of_lt_of_le hx (Nat.le_of_ble_eq_true (by kernel_rfl))) fun b => ?_
  have hb := b.toNat_lt
  rw [CvP_int, wrap64 (by omega) (by omega)]
  exact add64 (by omega) (r b)
theorem swap_perm (L : List U32) (j : Nat) (h1 : j + 1 < L.length) : ((L.set (j + 1) L[j]).set j L[j + 1]).Perm L := by
  have := @List.set_set_perm U32 L (j + 1) j h1 (by omega)
  exact this
theorem c_insertion {L0 : List U32} (o : Own g cap t_uint32 h L0) (hl : L0.length ≤ 64) {n : Nat} (hn : n = L0.length)
    (r : ∀ L h', L.Perm L0 → Own g cap t_uint32 h' L → Ex (fun b => b = g) h h' → K (.tuple #[]) h') : Ca f_slices_insertionSortOrdered_uint32 #[.slice (some ⟨g, 0, none⟩) n cap, int 0, int n] h K := by
  subst hn
  have hcap := o.le
  refine m_slices_insertionSortOrdered_uint32_ok (add64 (by omega) ?_)
  refine lop (σ := Nat × List U32) (fun p => [int (p.1 + 1 : Nat)]) (fun p h' => p.2.Perm L0 ∧ Own g cap t_uint32 h' p.2 ∧ Ex (fun b => b = g) h h' ∧ p.1 ≤ 64) (fun p => L0.length - (p.1 + 1)) (0, L0) rfl ⟨.refl _, o, Ex.refl _ _, Nat.zero_le _⟩ ?_
  rintro ⟨i, L⟩ h1 N ⟨hp, o1, e1, hi⟩ hN
  simp only at hp o1 hi
  simp only [m_slices_insertionSortOrdered_uint32_l2, gv_zero, gv_succ]
  have hlen := hp.length_eq
  rw [BiP_lss]
  refine cdp (fun hlt => ?_) (fun hge => r L h1 hp o1 e1)
  have next : ∀ (L' : List U32) (h2 : Heap), L'.Perm L0 → Own g cap t_uint32 h2 L' → Ex (fun b => b = g) h h2 → m_slices_insertionSortOrdered_uint32_j34 (.slice (some ⟨g, 0, none⟩) L0.length cap) (int 0) (int L0.length) (int (i + 1 : Nat)) h2 N K := by
    intro L' h2 q1 q2 q3
    unfold m_slices_insertionSortOrdered_uint32_j34
    refine add64 (by omega) ?_
    have := hN (i + 1, L') h2 ⟨q1, q2, q3, by show i + 1 ≤ 64; omega⟩ (by simp only; omega)
    simpa using this
  refine lop (σ := Nat × List U32) (fun p => [int p.1]) (fun p h' => p.2.Perm L0 ∧ Own g cap t_uint32 h' p.2 ∧ Ex (fun b => b = g) h h' ∧ p.1 < L0.length) (fun p => p.1) (i + 1, L) rfl ⟨hp, o1, e1, by omega⟩ ?_
  rintro ⟨j, L'⟩ h2 N2 ⟨hp2, o2, e2, hj⟩ hN2
  simp only at hp2 o2 hj
  simp only [m_slices_insertionSortOrdered_uint32_l6, gv_zero, gv_succ]
  have hlen2 := hp2.length_eq
  rw [BiP_gtr]
  refine cdp (fun hj0 => ?_) (fun hj0 => ?_)
  · obtain ⟨k, rfl⟩ : ∃ k, j = k + 1 := ⟨j - 1, by omega⟩
    have rd := o2.rd (n := L0.length) hlen2.symm hcap
    have hk1 : L'[k + 1]? = some L'[k + 1] := List.getElem?_eq_getElem (by omega)
    have hk0 : L'[k]? = some L'[k] := List.getElem?_eq_getElem (by omega)
    have ek : ((k + 1 : Nat) : Int) - 1 = (k : Nat) := by omega
    refine rd.ei (i := ((k + 1 : Nat) : Int)) (x := L'[k + 1]) (by omega) (by rw [Int.toNat_natCast]; exact hk1) rfl ?_
    refine sub64 (by omega) ?_
    rw [ek]
    refine rd.ei (i := (k : Int)) (x := L'[k]) (by omega) (by rw [Int.toNat_natCast]; exact hk0) rfl ?_
    refine c_Less_u32 ⟨trivial, ?_⟩
    unfold m_slices_insertionSortOrdered_uint32_j20
    refine cdp (fun _ => ?_) (fun _ => next L' h2 hp2 o2 e2)
    unfold m_slices_insertionSortOrdered_uint32_j21
    refine sub64 (by omega) (sub64 (by omega) ?_)
    rw [ek]
    refine rd.ei (i := (k : Int)) (x := L'[k]) (by omega) (by rw [Int.toNat_natCast]; exact hk0) rfl ?_
    refine rd.ei (i := ((k + 1 : Nat) : Int)) (x := L'[k + 1]) (by omega) (by rw [Int.toNat_natCast]; exact hk1) rfl ?_
    refine own_set1 (i := k + 1) (a' := L'[k]) rfl rfl rfl o2 hlen2.symm (by omega) fun h3 o3 e3 => ⟨trivial, ?_⟩
    refine own_set1 (i := k) (a' := L'[k + 1]) rfl rfl rfl o3 (by rw [List.length_set]; exact hlen2.symm) (by rw [List.length_set]; omega) fun h4 o4 e4 => ⟨trivial, ?_⟩
    refine sub64 (by omega) ?_
    rw [ek]
    exact hN2 (k, _) h4 ⟨(swap_perm L' k (by omega)).trans hp2, o4, (e2.trans e3).trans e4, by show k < _; omega⟩ (by show k < k + 1; omega)
  · unfold m_slices_insertionSortOrdered_uint32_j20
    rw [CdP_false]
    exact next L' h2 hp2 o2 e2
theorem c_Sort_u32 {n0 : Nat} {v : Value} {L0 : List U32} (o : Ow n0 t_uint32 h v L0) (hl : L0.length ≤ 12)
    (r : ∀ L h', L.Perm L0 → Ow n0 t_uint32 h' v L → Ex (fun b => v.ownBlock = some b) h h' → K (.tuple #[]) h') : Ca f_slices_Sort_uint32 #[v] h K := by
  have s : Sl No h v L0 := o.sl fun _ _ h => h
  refine m_slices_Sort_uint32_ok (s.len ?_)
  rw [CvP_int, wrapU rfl (by omega) (by show _ < (2 : Int) ^ 64; omega)]
  refine c_mbits_Len (by omega) fun b => m_slices_pdqsortOrdered_uint32_ok ?_
  unfold m_slices_pdqsortOrdered_uint32
  refine lop (σ := Unit) (fun _ => [int 0, int L0.length, int (0 + (b.toNat : Int)), .bool true, .bool true]) (fun _ h' => h' = h) (fun _ => 0) () rfl rfl ?_
  rintro _ h1 N rfl hN
  simp only [m_slices_pdqsortOrdered_uint32_l1, gv_zero, gv_succ]
  refine sub64 (by omega) ?_
  rw [BiP_leq]
  refine cdp (fun _ => ?_) fun h => absurd (by omega) h
  rcases o.cases' with ⟨rfl, hl0⟩ | ⟨g, cap, rfl, hg, og⟩
  · subst hl0
    refine m_slices_insertionSortOrdered_uint32_ok (add64 (by omega) ?_)
    refine lop (σ := Unit) (fun _ => [int (0 + 1)]) (fun _ h' => h' = h1) (fun _ => 0) () rfl rfl ?_
    rintro _ h2 N rfl hN
    simp only [m_slices_insertionSortOrdered_uint32_l2, gv_zero, gv_succ]
    rw [BiP_lss]
    refine cdp (fun h => absurd h (by simp)) fun _ => ?_
    exact r [] h2 (.refl _) o (Ex.refl _ _)
  · refine c_insertion og (by omega) rfl fun L h2 hp o2 e2 => ?_
    refine r L h2 hp (o2.ow' hg hp.length_eq) (e2.mono fun b _ hb => ?_)
    have hb : b = g := hb
    rw [hb]; rfl
end
end Go.Sg
namespace Go.Sg
open Go Vc Go.Proofs Go.RowKit Go.Maps Go.Sort Go.Shelf
abbrev encU : Int → Value := Value.int .u32
theorem encU_inj {x y : Int} (h : encU x = encU y) : x = y := by simpa [encU] using h
theorem keyOf_u32 {P : Program} {k : TypeId} (hk : P.underlying k = some (.int .u32)) {key : Value} {kl : Lit} (h : keyOf P k key = some kl) : ∃ x : Int, key = encU x ∧ kl = .int .u32 x := by
  cases key <;> simp [keyOf, hk, mapKey] at h
  rename_i q a
  obtain ⟨⟨rfl, hw⟩, rfl⟩ := h
  exact ⟨a, rfl, rfl⟩
def CollU {H : Type} (D0 : DataW H) (left : Lit → Bool) (ss : List Int) : Prop := ss.Nodup ∧ ∀ x, x ∈ ss ↔ (Maps.has D0 (.int .u32 x) = true ∧ left (.int .u32 x) = false)
theorem CollU.step {H : Type} {D0 : DataW H} {left : Lit → Bool} {ss : List Int} (h : CollU D0 left ss) {x : Int} {y : DataW H} (hlk : left (.int .u32 x) = true) (hat : ∀ zd, D0.atKey (.int .u32 x) zd = y) : CollU D0 (fun z => left z && !z.sameKey (.int .u32 x)) (ss ++ [x]) := by
  have hhas : Maps.has D0 (.int .u32 x) = true := has_true_of_atKey hat
  have hnew : x ∉ ss := fun hx => by have := ((h.2 x).1 hx).2; rw [hlk] at this; cases this
  refine ⟨List.nodup_append.2 ⟨h.1, by simp, fun a ha b hb => by simp at hb; subst hb; exact fun e => hnew (e ▸ ha)⟩, fun y => ?_⟩
  by_cases hy : y = x
  · subst hy; simp [hhas, Lit.sameKey]
  · simp [h.2 y, hy, Lit.sameKey]
theorem u_map : Pg.underlying t_M_uint32_int = some (.map t_uint32 t_int) := by kernel_rfl
theorem u_u32 : Pg.underlying t_uint32 = some (.int .u32) := by kernel_rfl
set_option maxRecDepth 100000 in
set_option maxHeartbeats 1000000 in
theorem keys1U_in {H : Type} (F : Fence) (n : Nat) (h10 : F.fn f_maps_Keys_map_1) (hro : F.round = none) (hn : 1 ≤ n) (l Bm b nn : Nat) (D0 : DataW H) {R : Value → Option (DataW H × List MemPlace)} (J : List Int → World → Prop)
    (hY : ∀ pre x W, J pre W → pre.length < Maps.size D0 → YieldAt F (n - 1) Pg l #[encU x] W fun e W' => e = .returned (.bool true) ∧ J (pre ++ [x]) W' ∧ KeepsWalks W W')
    (W : World) (hJ : AbidesFrom W.heap.size J) (hm : W.cell? ⟨Bm, 0, none⟩ = some (.map (some b))) (hown : W.ownsMap Pg t_uint32 R b nn D0) (h0 : J [] W) :
    CallsIn F n Pg f_maps_Keys_map_1 #[.func (.yield l) #[] #[], .pointer (some ⟨Bm, 0, none⟩)] W fun e W' => (∃ v, e = .returned v) ∧ ∃ ss : List Int, (ss.Nodup ∧ ∀ x, x ∈ ss ↔ Maps.has D0 (.int .u32 x) = true) ∧ J ss W' := by
  have mixed := mixed
  have t23 := u_map
  have t26 := u_u32
  refine callsIn_of_wp b_maps_Keys_map_1_at rfl h10 ?_ hro
  simp only [b_maps_Keys_map_1_nt, List.size_toArray, List.length_cons, List.length_nil, Nat.reduceAdd, Nat.reduceSub, Array.replicate_succ, Array.replicate_zero, List.push_toArray, List.append_toArray, List.nil_append, List.cons_append]
  gi_wp2_with (first
    | (gi_at_range; refine wpListIn_range_own _ rfl _ t_M_uint32_int rfl t_uint32 t_int (int_keyed u_u32) u_map _ b nn _ rfl hown ?_; intro w0 hrg0 hg0 hs0)
    | gi_in)
  go_frame
  gi_loopw [3] (fun _ wr => ∃ (left : Lit → Bool) (cnt : Nat) (ss : List Int), wr.ranges Pg t_uint32 R b W.heap.size nn D0 left cnt ∧ ss.length + cnt ≤ Maps.size D0 ∧ CollU D0 left ss ∧ J ss wr)
    (fun _ wr => wr.rangeLeft b W.heap.size)
  case atStart =>
    exact ⟨_, _, [], hrg0, by simp, ⟨List.nodup_nil, fun x => by cases Maps.has D0 (.int .u32 x) <;> simp⟩, hJ [] W w0 none h0 hg0 (fun r e => by cases e)⟩
  case round =>
    obtain ⟨left, cnt, ss, hrg, hcs, hC, hJs⟩ := hrel
    gi_wp2_with (first
      | (gi_at_next; refine wpListIn_next_ranges _ rfl _ rfl t_uint32 (int_keyed u_u32) R encU id (fun key kl hk => by obtain ⟨x, hx, _⟩ := keyOf_u32 u_u32 hk; exact ⟨x, hx⟩) (fun v _ _ => ⟨v, rfl⟩) b W.heap.size nn _ _ _ rfl hrg ?_ ?_)
      | gi_in)
    · intro hc0 hl0
      gi_wp2
      go_end0
      exact ⟨⟨_, rfl⟩, ss, ⟨hC.1, fun x => by rw [hC.2 x, hl0]; simp⟩, hJs⟩
    · intro x c kl yd yp w2 cnt2 hkey hlk hv hat hrg2 hlt hg2 hs2 hen
      obtain ⟨x', ex, rfl⟩ := keyOf_u32 u_u32 hkey
      obtain rfl : x = x' := encU_inj ex
      have hJ2 : J ss w2 := hJ ss wr w2 (some W.heap.size) hJs hg2 (fun r e => by cases e; exact ⟨Nat.le_refl _, hrg.iter_walk⟩)
      obtain ⟨fn, tmps, assign, body, hy, hR⟩ := hY ss x w2 hJ2 (by omega)
      clear hs2
      gi_wp2
      refine hR.mono ?_
      rintro e W3 ⟨rfl, hJ3, hk3⟩
      gi_wp2
      have hrg3 := hrg2.of_walks hk3
      go_roundw
      case rel => exact ⟨_, cnt2, ss ++ [x], hrg3, by simp; omega, hC.step hlk hat, hJ3⟩
      case measure => rw [hrg3.left_eq, hrg.left_eq]; exact hlt
end Go.Sg
namespace Go.Sg
open Go Vc Go.Proofs Go.RowKit Go.Maps Go.Sort Go.Shelf
def apAssign : Code := (Code.region 2 #[{ dst := some 5, op := Op.assign (Operand.tmp 7), type := t_uint32, pos := "iter.go:51", after := #[], guard := none }] false)
def apBody : Code := (Code.block 1 (Code.region 3 #[{ dst := some 8, op := Op.load t_S_uint32 (Operand.tmp 2), type := t_S_uint32, pos := "iter.go:52", after := #[], guard := none }, { dst := some 9, op := Op.move (Operand.tmp 5), type := t_uint32, pos := "iter.go:52", after := #[], guard := none }, { dst := some 10, op := Op.buildSlice t_S_uint32 1 #[(0, Operand.tmp 9)], type := t_S_uint32, pos := "iter.go:52", after := #[{ on := 1, ground := Ground.data }], guard := none }, { dst := some 11, op := Op.call { callee := Callee.builtin Builtin.append, args := #[Operand.tmp 8, Operand.tmp 10], argTypes := #[t_S_uint32, t_S_uint32] }, type := t_S_uint32, pos := "iter.go:52", after := #[{ on := 0, ground := Ground.data }, { on := 2, ground := Ground.data }], guard := none }, { dst := none, op := Op.store t_S_uint32 (Operand.tmp 2) (Operand.tmp 11), type := 0, pos := "iter.go:52", after := #[{ on := 3, ground := Ground.data }, { on := 3, ground := Ground.chain }, { on := 0, ground := Ground.phase }, { on := 1, ground := Ground.phase }, { on := 2, ground := Ground.phase }, { on := 3, ground := Ground.phase }], guard := none }] false))
def apRec (fn : FuncId) (sv : Value) (Bs D : Nat) (st : LoopState) (pend : Option Code) : Loop :=
  { state := st, pending := pend, fn, tmps := #[.slice none 0 0, sv, .pointer (some ⟨Bs, 0, none⟩), undef, .slice none 0 0, undef, sv, undef, undef, undef, undef, undef, undef], params := #[7], assign := apAssign, body := apBody, defers := D }
structure ApAt (w0 : World) (fn : FuncId) (sv : Value) (Bs l D : Nat) (ss : List Int) (W : World) : Prop where
  box : ∃ v, W.heap[Bs]? = some (.cells #[v] t_S_uint32 (0, 0)) ∧ W.ownsRow w0.heap.size t_uint32 1 v ss.length (ss.map encU)
  L : W.heap[l]? = some (.loop (apRec fn sv Bs D .ready none))
  K : W.heap[D]? = some (.deferred (some []))
  below : Below w0.heap.size w0 W
theorem ap_abides (w0 : World) (fn : FuncId) (sv : Value) (Bs l D B : Nat) (hB : w0.heap.size ≤ B) : AbidesFrom B (ApAt w0 fn sv Bs l D) := fun s W W' row h hg hrow => by
  have hrow' : ∀ r, row = some r → ∃ o : Obj, W.heap[r]? = some o ∧ o.isWalk = true := fun r e => (hrow r e).2
  obtain ⟨v, hv, hr⟩ := h.box
  exact ⟨⟨v, (grownBy_keeps hg hrow' hv rfl).trans hv, ownsRow_abides_a hr hg hrow'⟩, (grownBy_keeps hg hrow' h.L rfl).trans h.L, (grownBy_keeps hg hrow' h.K rfl).trans h.K,
    h.below.grown hg h.below.size (fun k e => Nat.le_trans hB (hrow k e).1)⟩
theorem u_su32 : Pg.underlying t_S_uint32 = some (.slice t_uint32) := by kernel_rfl
theorem i_u32 : (Pg.info? t_uint32).map (fun i => (i.zero, i.size, i.bytes)) = some (some (.int .u32 0), 1, 4) := by kernel_rfl
set_option maxRecDepth 100000 in
set_option maxHeartbeats 2000000 in
theorem apYield (F : Fence) (m : Nat) (w0 : World) (fn : FuncId) (hfn : F.fn fn) (sv : Value) (Bs l D : Nat) (hBl : Bs ≠ l) (hDl : D ≠ l) (hDB : D ≠ Bs) (h0B : w0.heap.size ≤ Bs) (h0l : w0.heap.size ≤ l)
    (N : Nat) (hN : N ≤ maxLen) (hNb : N * 4 ≤ 140737488355328) (ss : List Int) (x : Int) (W : World) (h : ApAt w0 fn sv Bs l D ss W) (hlen : ss.length < N) :
    YieldAt F m Pg l #[encU x] W fun e W' => e = .returned (.bool true) ∧ ApAt w0 fn sv Bs l D (ss ++ [x]) W' ∧ KeepsWalks W W' := by
  have mixed := mixed
  have t24 := u_su32
  have t26 := u_u32
  have hne : t_S_uint32 ≠ t_uint32 := by decide
  obtain ⟨i0, hi, hz0, hz1, hz2⟩ := info_parts i_u32
  obtain ⟨v, hv, hrow⟩ := h.box
  refine ⟨fn, #[.slice none 0 0, sv, .pointer (some ⟨Bs, 0, none⟩), undef, .slice none 0 0, undef, sv, encU x, undef, undef, undef, undef, undef], apAssign, apBody, by simpa [apRec] using run_yield (P := Pg) (args := #[encU x]) h.L rfl, roundIn_of_wpIn hfn ?_⟩
  have hl : l < W.heap.size := (Array.getElem?_eq_some_iff.1 h.L).1
  have hbr := run_beginRound (P := Pg) h.L rfl
  obtain ⟨W2, hW2⟩ : ∃ W2, W.putObj l (.loop { apRec fn sv Bs D .ready none with state := .busy }) = W2 := ⟨_, rfl⟩
  rw [hW2] at hbr
  have hg2 : W.grownBy W2 (some l) := by rw [← hW2]; exact grownBy_putObj_a _ _ _
  have hk2 : KeepsWalks W W2 := by rw [← hW2]; exact KeepsWalks.putObj _ h.L rfl
  have hv2 : W2.heap[Bs]? = some (.cells #[v] t_S_uint32 (0, 0)) := by rw [← hW2]; exact (World.putObj_heap_other hBl).trans hv
  have hK2 : W2.heap[D]? = some (.deferred (some [])) := by rw [← hW2]; exact (World.putObj_heap_other hDl).trans h.K
  have hL2 : W2.heap[l]? = some (.loop { apRec fn sv Bs D .ready none with state := .busy }) := by rw [← hW2]; exact World.putObj_heap_same hl
  have hrow2 : W2.ownsRow w0.heap.size t_uint32 1 v ss.length (ss.map encU) := hrow.kept hg2 (ownsRow_ne_a hrow h.L (fun cur e => by first | cases e | exact hne (Obj.cells.inj e).2.1))
  have hb2 : Below w0.heap.size w0 W2 := h.below.grown hg2 h.below.size (fun k e => by cases e; exact h0l)
  obtain ⟨hc2, hf2⟩ := cell_of_box_a hv2
  have hBlt : Bs < W2.heap.size := (Array.getElem?_eq_some_iff.1 hv2).1
  have hl2 : l < W2.heap.size := (Array.getElem?_eq_some_iff.1 hL2).1
  have hDlt : D < W2.heap.size := (Array.getElem?_eq_some_iff.1 hK2).1
  have ne_of : ∀ {j : Nat} {o : Obj}, W2.heap[j]? = some o → (∀ cur, o ≠ .cells cur t_uint32 (0, 0)) → some j ≠ v.ownBlock := fun hj hno => by
    rcases ownsRow_ne_a hrow2 hj hno with e | e
    · rw [e]; simp
    · exact fun e' => e e'.symm
  clear hW2
  unfold apAssign
  gi_wp2_with gi_round_op_a
  unfold apBody
  gi_wp2_with (first
    | (gi_at_builtin; refine wpListIn_append_own _ rfl _ _ t_S_uint32 rfl w0.heap.size t_uint32 i0 (.int .u32 0) 1 4 u_su32 hi hz0 hz1 hz2 rfl (by decide) _ _ _ rfl (hrow2.alloc _) ⟨W2.heap.size, 0, none⟩ 1 1 [encU x] rfl rfl (cell_one_new _ _ _) (by simp [Value.oneCell', encU]) (by omega) (by omega) (by have := hb2.size; simp; omega) ?_; intro v' w3 hown' hg3 hnil3
       have hv3 : w3.heap[Bs]? = some (.cells #[v] t_S_uint32 (0, 0)) := (hg3.block Bs (by simp; omega) (ne_of hv2 (fun cur e => by first | cases e | exact hne (Obj.cells.inj e).2.1))).trans ((Below.heap_alloc _ _ Bs hBlt).trans hv2)
       obtain ⟨hc3, hf3⟩ := cell_of_box_a hv3
       obtain ⟨g', cap', cur', rfl, hbase', hgb', hr1, hr2, hr3, hr4⟩ : ∃ g' cap' cur', v' = .slice (some ⟨g', 0, none⟩) (ss.length + 1) cap' ∧ w0.heap.size ≤ g' ∧ w3.heap[g']? = some (.cells cur' t_uint32 (0, 0)) ∧ ss.length + 1 ≤ cap' ∧ cap' ≤ maxLen ∧ cur'.size = cap' * 1 ∧ cur'.toList.take ((ss.length + 1) * 1) = ss.map encU ++ [encU x] := by
         rcases hown'.2 with ⟨_, h0⟩ | h'
         · exact absurd h0 (by omega)
         · exact h'
       go_frame)
    | gi_round_op_a)
  have hg3' : (W2.alloc (.cells #[encU x] t_uint32)).grownBy w3 v.ownBlock := hg3
  have hL3 : w3.heap[l]? = some (.loop { apRec fn sv Bs D .ready none with state := .busy }) := (hg3'.block l (by simp; omega) (ne_of hL2 (fun cur e => by cases e))).trans ((Below.heap_alloc _ _ l hl2).trans hL2)
  have hK3 : w3.heap[D]? = some (.deferred (some [])) := (hg3'.block D (by simp; omega) (ne_of hK2 (fun cur e => by cases e))).trans ((Below.heap_alloc _ _ D hDlt).trans hK2)
  obtain ⟨w4, hw4⟩ : ∃ w4, w3.setCell ⟨Bs, 0, none⟩ (.slice (some ⟨g', 0, none⟩) (ss.length + 1) cap') = w4 := ⟨_, rfl⟩
  rw [hw4]
  have hg4 : w3.grownBy w4 (some Bs) := by rw [← hw4]; exact grownBy_setCell0_a _ _ _
  have hv4 : w4.heap[Bs]? = some (.cells #[.slice (some ⟨g', 0, none⟩) (ss.length + 1) cap'] t_S_uint32 (0, 0)) := by rw [← hw4]; exact heap_setCell_box_a _ hv3
  have hL4 : w4.heap[l]? = some (.loop { apRec fn sv Bs D .ready none with state := .busy }) := (hg4.block l (Array.getElem?_eq_some_iff.1 hL3).1 (fun e => hBl (by cases e; rfl))).trans hL3
  have hK4 : w4.heap[D]? = some (.deferred (some [])) := (hg4.block D (Array.getElem?_eq_some_iff.1 hK3).1 (fun e => hDB (by cases e; rfl))).trans hK3
  have hrow4 := hown'.kept hg4 (ownsRow_ne_a hown' hv3 (fun cur e => by first | cases e | exact hne (Obj.cells.inj e).2.1))
  have hl4 : l < w4.heap.size := (Array.getElem?_eq_some_iff.1 hL4).1
  have hb3 : Below w0.heap.size w0 w3 := (hb2.alloc hb2.size _).grown hg3' (by have := hb2.size; simp; omega) (fun k e => (hrow2.lt k e).1)
  have hb4 : Below w0.heap.size w0 w4 := hb3.grown hg4 hb3.size (fun k e => by cases e; exact h0B)
  have hk4 : KeepsWalks W w4 := ((hk2.trans (KeepsWalks.alloc _ _)).trans (KeepsWalks.of_grownBy hg3' (ownsRow_not_walk_a (hrow2.alloc _)))).trans (by rw [← hw4]; exact KeepsWalks.setCell _ _ _)
  clear hw4
  refine ⟨_, _, run_endRound none hL4, rfl, ⟨⟨_, (World.putObj_heap_other hBl).trans hv4, ?_⟩, World.putObj_heap_same hl4, (World.putObj_heap_other hDl).trans hK4, hb4.grown (grownBy_putObj_a _ _ _) hb4.size (fun k e => by cases e; exact h0l)⟩, hk4.trans (KeepsWalks.putObj _ hL4 rfl)⟩
  have := hrow4.kept (grownBy_putObj_a w4 l (.loop { { apRec fn sv Bs D .ready none with state := .busy } with state := if (none : Option Code).isNone then .ready else .done, pending := none })) (ownsRow_ne_a hrow4 hL4 (fun cur e => by cases e))
  simpa using this
set_option maxRecDepth 100000 in
set_option maxHeartbeats 2000000 in
theorem appendSeqU_in (F : Fence) (n : Nat) (h11 : F.fn f_slices_AppendSeq_uint32) (hro : F.round = none) (hn : 2 ≤ n) (g : Nat) (lb : Array Value) (hFg : F.fn g) (eg : ∀ args w, (callFunc g args).run Pg w = .ok (.enter g args) w)
    (S : List Int → Prop) (N : Nat) (hN : N ≤ maxLen) (hNb : N * 4 ≤ 140737488355328) (w : World) (hseq : SeqGives F (n - 1) Pg g lb encU S N w) :
    CallsIn F n Pg f_slices_AppendSeq_uint32 #[.slice none 0 0, .func (.func g) #[] lb] w fun e w' => ∃ (v : Value) (ss : List Int), e = .returned v ∧ S ss ∧ w'.ownsRow w.heap.size t_uint32 1 v ss.length (ss.map encU) ∧ Below w.heap.size w w' := by
  have h1 : 1 ≤ n := by omega
  have mixed := mixed
  have t24 := u_su32
  have t26 := u_u32
  have hne : t_S_uint32 ≠ t_uint32 := by decide
  refine callsIn_of_wp_marks b_slices_AppendSeq_uint32_at rfl h11 ?_ hro
  simp only [b_slices_AppendSeq_uint32_nt, List.size_toArray, List.length_cons, List.length_nil, Nat.reduceAdd, Nat.reduceSub, Array.replicate_succ, Array.replicate_zero, List.push_toArray, List.append_toArray, List.nil_append, List.cons_append]
  gi_wp2
  refine wpIn_rangeFunc ?_
  intro fn hfn
  rw [hro]
  obtain ⟨W0, hW0⟩ : ∃ W0, w.alloc (.cells #[.slice none 0 0] t_S_uint32) = W0 := ⟨_, rfl⟩
  have hs0 : W0.heap.size = w.heap.size + 1 := by rw [← hW0]; simp
  have hv0 : W0.heap[w.heap.size]? = some (.cells #[.slice none 0 0] t_S_uint32 (0, 0)) := by rw [← hW0]; exact World.alloc_heap_new w _
  have hb0 : Below w.heap.size w W0 := by rw [← hW0]; exact (Below.refl _ w).alloc (Nat.le_refl _) _
  rw [hW0]
  obtain ⟨W1, hW1⟩ : ∃ W1, (W0.alloc (.deferred (some []))).alloc (.loop (apRec fn (.func (.func g) #[] lb) w.heap.size W0.heap.size .ready none)) = W1 := ⟨_, rfl⟩
  have hold : ∀ k, k < W0.heap.size → W1.heap[k]? = W0.heap[k]? := fun k hk => by
    rw [← hW1]; exact (Below.heap_alloc _ _ k (by simp; omega)).trans (Below.heap_alloc _ _ k hk)
  have hb1 : Below w.heap.size w W1 := by rw [← hW1]; exact (hb0.alloc hb0.size _).alloc (by have := hb0.size; simp; omega) _
  have hs1 : W1.heap.size = W0.heap.size + 2 := by rw [← hW1]; simp
  have hM : ApAt w fn (.func (.func g) #[] lb) w.heap.size (W0.heap.size + 1) W0.heap.size [] W1 :=
    ⟨⟨_, (hold w.heap.size (by omega)).trans hv0, ⟨rfl, .inl ⟨rfl, rfl⟩⟩⟩,
     by rw [← hW1]; have := World.alloc_heap_new (W0.alloc (.deferred (some []))) (.loop (apRec fn (.func (.func g) #[] lb) w.heap.size W0.heap.size .ready none)); rwa [World.size_alloc] at this,
     by rw [← hW1]; exact (Below.heap_alloc _ _ _ (by simp)).trans (World.alloc_heap_new W0 _), hb1⟩
  refine ⟨W0.heap.size + 1, [{ target := .collected W0.heap.size, args := #[] }], W1, { target := .fn (.func g) lb, args := #[.func (.yield (W0.heap.size + 1)) #[] #[]] }, W1, g,
    #[.func (.yield (W0.heap.size + 1)) #[] #[]] ++ lb, W1, ?_, ?_, ?_, ?_, fun _ => h1, ?_⟩
  · rw [← hW1]; exact run_enterLoop_outer _ _ _ _ _
  · simp [resolve, go_sem]
  · intro f' hf'; simp [Target.leads] at hf'; subst hf'; exact hFg
  · simp [invoke, go_sem, eg]
  · refine (hseq (W0.heap.size + 1) (ApAt w fn (.func (.func g) #[] lb) w.heap.size (W0.heap.size + 1) W0.heap.size) W1 hb1 (ap_abides _ _ _ _ _ _ _ hb1.size)
      (fun pre x W hJ hl => apYield F (n - 1 - 1) w fn hfn _ w.heap.size (W0.heap.size + 1) W0.heap.size (by omega) (by omega) (by omega) (Nat.le_refl _) (by omega) N hN hNb pre x W hJ hl) hM).mono ?_
    rintro e W2 ⟨⟨v0, rfl⟩, ss, hS, h2⟩
    obtain ⟨v, hv, hrow⟩ := h2.box
    have hend := run_endLoop (P := Pg) h2.L (by simp [apRec])
    obtain ⟨W3, hW3⟩ : ∃ W3, W2.putObj (W0.heap.size + 1) (.loop { apRec fn (.func (.func g) #[] lb) w.heap.size W0.heap.size .ready none with state := .exhausted }) = W3 := ⟨_, rfl⟩
    rw [hW3] at hend
    have hg3 : W2.grownBy W3 (some (W0.heap.size + 1)) := by rw [← hW3]; exact grownBy_putObj_a _ _ _
    have hv3 : W3.heap[w.heap.size]? = some (.cells #[v] t_S_uint32 (0, 0)) := by rw [← hW3]; exact (World.putObj_heap_other (by omega)).trans hv
    have hK3 : W3.heap[W0.heap.size]? = some (.deferred (some [])) := by rw [← hW3]; exact (World.putObj_heap_other (by omega)).trans h2.K
    have hrow3 := hrow.kept hg3 (ownsRow_ne_a hrow h2.L (fun cur e => by cases e))
    have hb3 : Below w.heap.size w W3 := h2.below.grown hg3 h2.below.size (fun k e => by cases e; omega)
    obtain ⟨hc3, hf3⟩ := cell_of_box_a hv3
    clear hW3
    refine ⟨none, W3, hend, ?_⟩
    gi_wp2
    rw [← hs0]
    refine ⟨by simp, .inl ⟨_, _, rfl, run_takeDeferred hK3, ?_⟩⟩
    exact ⟨_, results_tmp rfl _ _ _, v, ss, rfl, hS, hrow3.kept (grownBy_putObj_a _ _ _) (ownsRow_ne_a hrow3 hK3 (fun cur e => by cases e)), hb3.grown (grownBy_putObj_a _ _ _) hb3.size (fun k e => by cases e; omega)⟩
end Go.Sg
namespace Go.Sg
open Go Vc Go.Proofs Go.RowKit Go.Maps Go.Sort Go.Shelf
abbrev rNil (v : Value) : Option (DataW Unit × List MemPlace) := some (.nil, [])
theorem mp_owns {w : World} {mb : Nat} {m : List (Nat × Nat)} (k : Mp nint w.heap mb m) (hb : ∀ p ∈ m, p.1 < 4294967296) (hl : m.length ≤ 64) :
    ∃ D, w.ownsMap Pg t_uint32 rNil mb m.length D ∧ (∀ x, Maps.has D (.int .u32 x) = true ↔ ∃ j ∈ m.map Prod.fst, x = (j : Int)) ∧ Maps.size D = m.length := by
  obtain ⟨es, clock, h1, h2, h3, h4, h5⟩ := k
  have hlen : es.size = m.length := by have := congrArg List.length h2; simpa using this
  have hkeys : es.toList.map (·.key) = m.map fun p => Value.int .u32 (p.1 : Int) := by
    have := congrArg (List.map Prod.fst) h2
    rw [List.map_map, List.map_map] at this
    exact this
  have hkey : ∀ x ∈ es.toList, ∃ p ∈ m, x.key = .int .u32 (p.1 : Int) := fun x hx => by
    have : x.key ∈ es.toList.map (·.key) := List.mem_map_of_mem hx
    rw [hkeys] at this
    obtain ⟨p, hp, he⟩ := List.mem_map.1 this
    exact ⟨p, hp, he.symm⟩
  have hrd : ∀ x ∈ es.toList, ∀ (p : Nat × Nat), p ∈ m → x.key = .int .u32 (p.1 : Int) → WideElems.rd Pg t_uint32 rNil x = some (.int .u32 (p.1 : Int), .nil) := fun x hx p hp he => by
    have hwf : (Lit.int .u32 (p.1 : Int)).wf = true := by
      have := hb p hp
      simp [Lit.wf, IntKind.min, IntKind.max, IntKind.signed, IntKind.bits]
      omega
    unfold WideElems.rd
    rw [he, keyOf_int_mk u_u32 hwf]
    rfl
  have hnd : (es.toList.map (·.key)).Nodup := by
    rw [hkeys]
    have : (m.map fun p => Value.int .u32 (p.1 : Int)) = (m.map Prod.fst).map fun k : Nat => Value.int .u32 (k : Int) := by rw [List.map_map]; rfl
    rw [this]
    refine List.pairwise_map.2 (h5.imp fun {a b} hab he => hab ?_)
    injection he with _ he
    exact Int.ofNat_inj.1 he
  refine ⟨_, ⟨es, clock, h1, ⟨by simp only [maxLen]; omega, ⟨h4, h3, hnd⟩, fun x hx => ?_⟩, by omega, rfl⟩, fun x => ?_, ?_⟩
  · obtain ⟨p, hp, he⟩ := hkey x hx
    exact ⟨_, hrd x hx p hp he⟩
  · rw [has_eq, List.any_eq_true]
    constructor
    · rintro ⟨q, hq, hs⟩
      obtain ⟨e, he, rfl⟩ := List.mem_map.1 (mem_sorted.1 hq)
      obtain ⟨p, hp, hk⟩ := hkey e he
      unfold WideElems.rg at hs
      rw [hrd e he p hp hk] at hs
      refine ⟨p.1, List.mem_map.2 ⟨p, hp, rfl⟩, ?_⟩
      simp [Lit.sameKey] at hs
      exact hs.symm
    · rintro ⟨j, hj, rfl⟩
      obtain ⟨p, hp, rfl⟩ := List.mem_map.1 hj
      have : (Value.int .u32 (p.1 : Int)) ∈ es.toList.map (·.key) := by rw [hkeys]; exact List.mem_map.2 ⟨p, hp, rfl⟩
      obtain ⟨e, he, hk⟩ := List.mem_map.1 this
      refine ⟨WideElems.rg Pg t_uint32 rNil e, mem_sorted.2 (List.mem_map_of_mem he), ?_⟩
      unfold WideElems.rg
      rw [hrd e he p hp hk]
      simp [Lit.sameKey]
  · rw [size_eq, (WideShapes.sorted_perm _).length_eq]; simp [hlen]
section
variable {h : Heap} {K : Kt}
theorem c_Keys_all {b mb : Nat} {m : List (Nat × Nat)} (kb : Blk h b [.map (some mb)]) (k : Mp nint h mb m) (hb : ∀ p ∈ m, p.1 < 4294967296) (hl : m.length ≤ 12)
    (r : ∀ v ks h', ks.Nodup → (∀ x : U32, x ∈ ks ↔ x.n ∈ m.map Prod.fst) → Ow h.size t_uint32 h' v ks → Ext h h' → K v h') :
    Ca f_slices_Sorted_uint32 #[.func (.func f_maps_Keys_map_1) #[] #[ptr b 0]] h K := by
  refine m_slices_Sorted_uint32_ok (m_slices_Collect_uint32_ok ?_)
  have seq : ∀ (K' : Kt), (∀ v ks h', ks.Nodup → (∀ x : U32, x ∈ ks ↔ x.n ∈ m.map Prod.fst) → Ow h.size t_uint32 h' v ks → Ext h h' → K' v h') → Ca f_slices_AppendSeq_uint32 #[.slice none 0 0, .func (.func f_maps_Keys_map_1) #[] #[ptr b 0]] h K' := by
    intro K' r'
    show CH Pg _ _ h K'
    intro w hw
    subst hw
    obtain ⟨D, hown, hhas, hsz⟩ := mp_owns k hb (by omega)
    have hseq : SeqGives Fence.wide 2 Pg f_maps_Keys_map_1 #[ptr b 0] encU (fun ss => ss.Nodup ∧ ∀ x, x ∈ ss ↔ Maps.has D (.int .u32 x) = true) (Maps.size D) w := fun l J W hW hJ hY h0 => by
      have hown' : W.ownsMap Pg t_uint32 rNil mb m.length D := by
        have hbl := hown.lt
        obtain ⟨es, clock, hb, Ft, hs, hD⟩ := hown
        exact ⟨es, clock, (hW.block mb hbl).trans hb, Ft, hs, hD⟩
      refine keys1U_in Fence.wide 2 trivial rfl (by omega) l b mb m.length D J hY W hJ ?_ hown' h0
      refine (hW.cell (p := ⟨b, 0, none⟩) kb.lt).trans ?_
      rw [cell_hget, kb.get]; rfl
    refine (callsIn_wide (n := 3)).1 ((appendSeqU_in Fence.wide 3 trivial rfl (by omega) f_maps_Keys_map_1 #[ptr b 0] trivial (enters_of b_maps_Keys_map_1_at (by kernel_rfl) rfl) _ (Maps.size D) (by simp only [maxLen]; omega) (by omega) w hseq).mono ?_)
    rintro e w' ⟨v, ss, rfl, ⟨hn, hm⟩, hrow, hbel⟩
    have hpos : ∀ x ∈ ss, ∃ j ∈ m.map Prod.fst, x = (j : Int) := fun x hx => (hhas x).1 ((hm x).1 hx)
    have hcast : ss.map encU = cells (ss.map fun x => (⟨x.toNat⟩ : U32)) := by
      clear hrow hm hn
      induction ss with
      | nil => rfl
      | cons a ss ih =>
        obtain ⟨j, _, hj⟩ := hpos a (by simp)
        rw [List.map_cons, List.map_cons, cells_cons, ih fun x hx => hpos x (by simp [hx])]
        subst hj
        show encU _ :: _ = Value.int .u32 _ :: _
        simp
    rw [hcast] at hrow
    refine ⟨v, rfl, ⟨hbel.os, hbel.tape, hbel.output⟩, r' v (ss.map fun x => (⟨x.toNat⟩ : U32)) w'.heap ?_ (fun x => ?_) (Ow.of hrow) ⟨hbel.size, fun b hb _ => hbel.block b hb⟩⟩
    · refine List.pairwise_map.2 (hn.imp_of_mem fun {a b} ha hb' hab he => hab ?_)
      obtain ⟨i, _, rfl⟩ := hpos a ha
      obtain ⟨j, _, rfl⟩ := hpos b hb'
      injection he with he
      simp at he; rw [he]
    · rw [List.mem_map]
      constructor
      · rintro ⟨a, ha, rfl⟩
        obtain ⟨j, hj, rfl⟩ := hpos a ha
        simpa using hj
      · intro hx
        exact ⟨(x.n : Int), (hm _).2 ((hhas _).2 ⟨x.n, hx, rfl⟩), by simp⟩
  refine seq _ fun v ks h1 hn hm o1 e1 => ?_
  have hkl : ks.length ≤ 12 := by
    have h2 : (ks.map (·.n)).length ≤ (m.map Prod.fst).length := by
      refine sub_len _ _ ?_ fun x hx => ?_
      · refine List.pairwise_map.2 (hn.imp fun {a b} hab he => hab ?_)
        cases a; cases b; simp at he; rw [he]
      · obtain ⟨a, ha, rfl⟩ := List.mem_map.1 hx
        exact (hm a).1 ha
    simp only [List.length_map] at h2; omega
  refine c_Sort_u32 o1 hkl fun L h2 hp o2 e2 => ?_
  refine r v L h2 (hp.nodup_iff.2 hn) (fun x => by rw [hp.mem_iff]; exact hm x) o2 (e1.andThen e2 fun x hx hb => ?_)
  have := o1.block x hb
  omega
end
end Go.Sg
namespace Go.Sg
open Go Vc
def dty (E : Nat → Option Ent) (j : Nat) : Bool :=
  match E j with
  | some e => e.dirty
  | none => false
theorem dty_in {E : Nat → Option Ent} {j : Nat} {e : Ent} (h : E j = some e) : dty E j = e.dirty := by unfold dty; rw [h]
section
variable {lab lab' : Nat → Nat} {h h' : Heap} {s : CSt} {nf n i f c dp : Nat} {D D' : List (List UInt8)} {rd wr rd' wr' : BitVec 64} {E : Nat → Option Ent} {K : Kt} {V : Nat → List UInt8} {P : Nat → Nat}
theorem c_cache_Dirty (k : Cok lab h s nf n D rd wr) (v : Inv lab h s nf n D E []) (hnf : nf ≤ 12)
    (r : ∀ x l h', l.Nodup → (∀ i : U32, i ∈ l ↔ dty E i.n = true) → Ow h.size t_uint32 h' x l → Ext h h' → K x h') : Ca f_cache_Cache_Dirty #[ptr s.c 0] h K := by
  have hb2 := k.dev.b2
  have hml : s.m.length ≤ nf := by have := v.ln; omega
  have hkb : ∀ p ∈ s.m, p.1 < 4294967296 := fun p hp => by
    obtain ⟨fr, e, q1, q2, q3, q4, q5, q6, q7, q8⟩ := v.fm p.1 p.2 (mem_lookup k.mp.nodup hp)
    omega
  refine m_cache_Cache_Dirty_ok (c_cache_none k ?_)
  rw [CdP_false]
  refine fl (by rw [k.blk.get]; rfl) (m_maps_Keys_map_ok ?_)
  refine bx1 rfl fun b h1 e1 hb kb _ => ?_
  have k1 := k.ext e1
  refine c_Keys_all kb k1.mp hkb (by omega) fun x ks h2 hn hm o2 e2 => ?_
  have k2 := k1.ext e2
  have s2 : Sl No h2 x ks := o2.sl fun _ _ h => h
  have e12 := e1.trans e2
  refine s2.len ?_
  have hkl : ks.length ≤ 12 := by
    have h2 : (ks.map (·.n)).length ≤ (s.m.map Prod.fst).length := by
      refine sub_len _ _ ?_ fun x hx => ?_
      · refine List.pairwise_map.2 (hn.imp fun {a b} hab he => hab ?_)
        cases a; cases b; simp at he; rw [he]
      · obtain ⟨a, ha, rfl⟩ := List.mem_map.1 hx
        exact (hm a).1 ha
    simp only [List.length_map] at h2; omega
  refine lop (σ := Value × Nat) (fun p => [p.1, int p.2]) (fun p h' => Ext h2 h' ∧ p.2 ≤ ks.length ∧ Ow h2.size t_uint32 h' p.1 ((ks.take p.2).filter fun x => dty E x.n)) (fun p => ks.length - p.2) (.slice none 0 0, 0) rfl ⟨Ex.refl _ _, Nat.zero_le _, Ow.nil _ _ _⟩ ?_
  rintro ⟨a, i⟩ h3 N ⟨e3, hi, o3⟩ hN
  simp only at hi o3
  simp only [m_cache_Cache_Dirty_l12, gv_zero, gv_succ]
  rw [BiP_lss]
  refine cdp (fun hlt => ?_) (fun hge => ?_)
  · have hlt : i < ks.length := by omega
    have hx := List.getElem?_eq_getElem hlt
    have k3 := k2.ext e3
    refine (s2.ext e3).ei (x := ks[i]) (by omega) (by rw [Int.toNat_natCast]; exact hx) rfl ?_
    refine ⟨fun b' _ => b' = s.c ∨ b' = s.fg, ?_⟩
    rw [NilP_ptr, FaP_ptr]
    refine LdX_b k3.blk rfl (fun _ => .inl rfl) ?_
    rw [NilP_ptr, FaP_ptr]
    refine LdX_b k3.blk rfl (fun _ => .inl rfl) ?_
    refine c_look k3 false ⟨fun _ _ _ => rfl, ?_⟩
    rw [if_neg (by decide)]
    have hmem := (hm ks[i]).1 (List.getElem_mem hlt)
    cases hlk : s.m.lookup ks[i].n with
    | none => exact absurd hmem (lookup_none_iff.1 hlk)
    | some f =>
      obtain ⟨fr, e, q1, q2, q3, q4, q5, q6, q7, q8⟩ := v.fm _ f hlk
      have hfl : f < nf := by have := (List.getElem?_eq_some_iff.1 q1).1; rw [k.fl] at this; exact this
      show IxP 4 _ (nint f) _
      refine ix_own hfl ?_
      rw [FaP_ptr]
      have hcell := own_cell (f := 2) (w := .bool fr.dirty) (zz := 4) rfl k3.fr q1 rfl
      refine ⟨s.fg, _, _, rfl, .inr rfl, hcell, ?_⟩
      have hd : dty E ks[i].n = fr.dirty := by rw [dty_in q2, q4]
      have htk : ks.take (i + 1) = ks.take i ++ [ks[i]] := by rw [List.take_add_one, hx]; rfl
      have fin : ∀ (a' : Value) (h4 : Heap), Ext h2 h4 → Ow h2.size t_uint32 h4 a' ((ks.take (i + 1)).filter fun x => dty E x.n) → m_cache_Cache_Dirty_j34 (ptr s.c 0) a' x (int ks.length) (int i) h4 N K := by
        intro a' h4 e4 o4
        unfold m_cache_Cache_Dirty_j34
        refine add64 (by omega) ?_
        have := hN (a', i + 1) h4 ⟨e4, by show i + 1 ≤ _; omega, o4⟩ (by simp only; omega)
        simpa using this
      refine cd (fun hdt => ?_) (fun hdf => ?_)
      · refine bs (n0 := h3.size) (e := t_uint32) (zs := #[.int .u32 0]) [ks[i]] rfl (Nat.le_refl _) rfl (by decide) (cs := #[.int .u32 ks[i].n]) (by kernel_rfl) rfl fun v6 h6 o6 e6 => ?_
        have s6 : Sl No h6 v6 [ks[i]] := o6.sl fun _ _ h => h
        have hfl2 : ((ks.take i).filter fun x => dty E x.n).length ≤ ks.length := Nat.le_trans (List.length_filter_le _ _) (by rw [List.length_take]; omega)
        refine app T_u32 (o3.ext e6) s6 (by have := e3.le; have := e6.le; omega) (by simp; omega) (by decide) fun v7 h7 o7 e7 _ => ?_
        refine fin v7 h7 ((e3.trans e6).own e7 (Nat.le_refl _)) ?_
        · rw [htk, List.filter_append]
          have : [ks[i]].filter (fun x => dty E x.n) = [ks[i]] := by simp [hd, hdt]
          rw [this]; exact o7
      · refine fin a h3 e3 ?_
        rw [htk, List.filter_append]
        have : [ks[i]].filter (fun x => dty E x.n) = [] := by simp [hd, hdf]
        rw [this, List.append_nil]; exact o3
  · have hin : i = ks.length := by omega
    subst hin
    rw [List.take_length] at o3
    unfold m_cache_Cache_Dirty_j36
    refine r a _ h3 (hn.filter _) (fun j => ?_) (o3.low e12.le) (e12.trans e3)
    rw [List.mem_filter]
    constructor
    · exact fun h => h.2
    · intro hj
      refine ⟨(hm j).2 ?_, hj⟩
      refine Classical.byContradiction fun hc => ?_
      have := (v.pm j.n).2 (lookup_none_iff.2 hc)
      unfold dty at hj; rw [this] at hj; cases hj
theorem c_cache_Flush (k : CaS lab h c dp nf n D V P rd wr) (hnf : nf ≤ 12)
    (r : ∀ lab' h' D' wr', Lat lab lab' h → D'.length = D.length → (∀ j, j < D.length → D'[j]? = some (V j)) → CaS lab' h' c dp nf n D' V P rd wr' → Ex (Lb lab 1 8) h h' → K (int 0) h') : Ca f_cache_Cache_Flush #[ptr c 0] h K := by
  obtain ⟨s, E, rfl, rfl, k, v, hV, hP, hz⟩ := k.out
  have hb2 := k.dev.b2
  refine m_cache_Cache_Flush_ok (c_cache_none k ?_)
  rw [CdP_false]
  refine c_cache_Dirty k v hnf fun x l h1 hn hm o1 e1 => ?_
  have k1 := k.ext e1
  have s1 : Sl No h1 x l := o1.sl fun _ _ h => h
  refine s1.len ?_
  have hll : l.length ≤ 12 := by
    have h2 : (l.map (·.n)).length ≤ (s.m.map Prod.fst).length := by
      refine sub_len _ _ ?_ fun x hx => ?_
      · refine List.pairwise_map.2 (hn.imp fun {a b} hab he => hab ?_)
        cases a; cases b; simp at he; rw [he]
      · obtain ⟨a, ha, rfl⟩ := List.mem_map.1 hx
        have hd := (hm a).1 ha
        refine Classical.byContradiction fun hc => ?_
        have := (v.pm a.n).2 (lookup_none_iff.2 hc)
        unfold dty at hd; rw [this] at hd; cases hd
    simp only [List.length_map] at h2
    have := v.ln; omega
  have a0 := frl_lat lab h
  have k1 := (k.lat a0).ext e1
  have v1 := v.ex (Ex.toM (M := Lb lab 1 8) e1) (by decide) a0
  have hlab : ∀ b, x.ownBlock = some b → frl lab h b = 0 := fun b hb => frl_new (o1.block b hb)
  refine lop (σ := Nat × CSt × (Nat → Option Ent) × List (List UInt8) × BitVec 64) (fun p => [int p.1])
    (fun p h' => p.1 ≤ l.length ∧ Cok (frl lab h) h' p.2.1 nf n p.2.2.2.1 rd p.2.2.2.2 ∧ Inv (frl lab h) h' p.2.1 nf n p.2.2.2.1 p.2.2.1 [] ∧ p.2.1.c = s.c ∧ p.2.1.dp = s.dp ∧ p.2.2.2.1.length = D.length ∧
      (∀ j, j < D.length → vw p.2.2.1 p.2.2.2.1 j = vw E D j) ∧ (∀ j, pn p.2.2.1 j = pn E j) ∧ (∀ j : U32, dty p.2.2.1 j.n = (dty E j.n && !decide (j ∈ l.take p.1))) ∧ p.2.2.1 0 = none ∧ Ex (Lb (frl lab h) 1 8) h1 h')
    (fun p => l.length - p.1) (0, s, E, D, wr) rfl ⟨Nat.zero_le _, k1, v1, rfl, rfl, rfl, fun _ _ => rfl, fun _ => rfl, fun j => by simp, hz, Ex.refl _ _⟩ ?_
  rintro ⟨i, s2, E2, D2, w2⟩ h2 N ⟨hi, k2, v2, hc2, hd2, hl2, hv2, hp2, hdt2, hz2, e2⟩ hN
  simp only at hi k2 v2 hc2 hd2 hl2 hv2 hp2 hdt2 hz2
  simp only [m_cache_Cache_Flush_l7, gv_zero, gv_succ]
  have s2l : Sl No h2 x l := (o1.exb e2 fun b hb => nLb (hlab b hb) (by decide)).sl fun _ _ h => h
  rw [BiP_lss]
  refine cdp (fun hlt => ?_) (fun hge => ?_)
  · have hlt : i < l.length := by omega
    have hx := List.getElem?_eq_getElem hlt
    refine s2l.ei (x := l[i]) (by omega) (by rw [Int.toNat_natCast]; exact hx) rfl ?_
    rw [← hc2]
    refine ⟨fun b' _ => b' = s2.c ∨ b' = s2.fg, ?_⟩
    rw [NilP_ptr, FaP_ptr]
    refine LdX_b k2.blk rfl (fun _ => .inl rfl) ?_
    rw [NilP_ptr, FaP_ptr]
    refine LdX_b k2.blk rfl (fun _ => .inl rfl) ?_
    refine c_look k2 false ⟨fun _ _ _ => rfl, ?_⟩
    rw [if_neg (by decide)]
    have hnot : l[i] ∉ l.take i := fun hmem => by
      obtain ⟨j, hj, he⟩ := List.mem_take_iff_getElem.1 hmem
      have := (List.getElem_inj hn).1 he
      omega
    have hdE : dty E2 l[i].n = true := by
      rw [hdt2, (hm l[i]).1 (List.getElem_mem hlt)]
      simp [hnot]
    cases hE2 : E2 l[i].n with
    | none => unfold dty at hdE; rw [hE2] at hdE; cases hdE
    | some e =>
      obtain ⟨f, fr, hlk, q1, q3, q4, q5, q6, q7, q8⟩ := v2.has hE2
      have hfl : f < nf := by have := (List.getElem?_eq_some_iff.1 q1).1; rw [k2.fl] at this; exact this
      have hed : e.dirty = true := by rw [← dty_in hE2]; exact hdE
      rw [hlk]
      show IxP 4 _ (nint f) _
      refine ix_own hfl ?_
      refine c_cache_back k2 (bs := e.bytes) q1 (fun _ => ⟨by rw [q3]; exact q8, q6, q7⟩) fun h3 D3 w3 k3 hD3 hw3 e3 => ⟨trivial, ?_⟩
      refine add64 (by omega) ?_
      rw [q4, hed, if_pos rfl, q3] at hD3
      have hn0 : l[i].n ≠ 0 := fun h0 => by rw [h0, hz2] at hE2; cases hE2
      have hD3o : ∀ j, j ≠ l[i].n → D3[j]? = D2[j]? := fun j hj => by rw [hD3, List.getElem?_set_ne (Ne.symm hj)]
      have hD3i : D3[l[i].n]? = some e.bytes := by rw [hD3, List.getElem?_set_self q8]
      have hD3l : D3.length = D2.length := by rw [hD3, List.length_set]
      have v3 := (v2.ex e3 (by decide) (Lat.refl _ h2)).turn (fr' := fr.clean) (e' := { e with dirty := false }) (D' := D3) (R' := s2.R) hlk k2.fl q3 rfl q5 (q6.lat e3 (by decide) (Lat.refl _ h2)) q7 hD3l hD3o (fun _ => hD3i) (fun g => by
        constructor
        · intro hg
          by_cases hgf : g = f
          · subst hgf
            obtain ⟨j, e', b1, b2, b3⟩ := (v2.rw g).1 hg
            have := val_inj v2.ndv b1 hlk
            subst this
            rw [hE2] at b2; cases b2
            exact .inl ⟨rfl, b3⟩
          · exact .inr ⟨hgf, hg⟩
        · rintro (⟨rfl, hp0⟩ | ⟨_, hg⟩)
          · exact (v2.rw g).2 ⟨_, e, hlk, hE2, hp0⟩
          · exact hg)
      have htk : l.take (i + 1) = l.take i ++ [l[i]] := by rw [List.take_add_one, hx]; rfl
      have := hN (i + 1, { s2 with L := s2.L.set f fr.clean }, upd E2 l[i].n (some { e with dirty := false }), D3, w3) h3 ⟨by show i + 1 ≤ _; omega, k3, v3, hc2, hd2, by rw [hD3l]; exact hl2, fun j hj => ?_, fun j => ?_, fun j => ?_, ?_, e2.trans (Lb.wide e3 (by decide) (by decide))⟩ (by simp only; omega)
      · simpa using this
      · rw [← hv2 j hj]
        by_cases hj2 : j = l[i].n
        · subst hj2; rw [vw_in upd_same, vw_in hE2]
        · show vw (upd E2 l[i].n _) D3 j = vw E2 D2 j
          unfold vw; rw [upd_ne hj2]
          cases E2 j with
          | some _ => rfl
          | none => simp only [List.getD_eq_getElem?_getD, hD3o j hj2]
      · rw [← hp2 j]
        by_cases hj2 : j = l[i].n
        · subst hj2; rw [pn_in upd_same, pn_in hE2]
        · show pn (upd E2 l[i].n _) j = pn E2 j
          unfold pn; rw [upd_ne hj2]
      · show dty (upd E2 l[i].n _) j.n = (dty E j.n && !decide (j ∈ l.take (i + 1)))
        rw [htk]
        by_cases hj2 : j = l[i]
        · have hin : j ∈ l.take i ++ [l[i]] := List.mem_append_right _ (by rw [hj2]; exact List.mem_singleton_self _)
          have hjn : j.n = l[i].n := by rw [hj2]
          have h1 : dty (upd E2 l[i].n (some { e with dirty := false })) j.n = false := by rw [hjn, dty_in upd_same]
          rw [h1, decide_eq_true hin]; cases dty E j.n <;> rfl
        · have hjn : j.n ≠ l[i].n := fun he => hj2 (by cases j; rename_i a; cases hq : l[i]; rw [hq] at he; simp at he; rw [he])
          have : dty (upd E2 l[i].n (some { e with dirty := false })) j.n = dty E2 j.n := by unfold dty; rw [upd_ne hjn]
          rw [this, hdt2]
          have hmm : (j ∈ l.take i) ↔ (j ∈ l.take i ++ [l[i]]) := ⟨fun h => List.mem_append_left _ h, fun h => (List.mem_append.1 h).elim id fun h => absurd (List.mem_singleton.1 h) hj2⟩
          exact congrArg (fun b => dty E j.n && !b) (decide_eq_decide.2 hmm)
      · exact (upd_ne (fun e => hn0 e.symm)).trans hz2
  · have hin : i = l.length := by omega
    subst hin
    unfold m_cache_Cache_Flush_j26
    have hclean : ∀ j e, E2 j = some e → e.dirty = false := fun j e hj => by
      have := hdt2 ⟨j⟩
      rw [List.take_length] at this
      rw [dty_in hj] at this
      cases hd : dty E j with
      | false => rw [this, hd]; rfl
      | true => rw [this, hd]; simp [(hm ⟨j⟩).2 hd]
    have hVj : ∀ j, j < D.length → V j = vw E2 D2 j := fun j hj => by rw [hV j hj, hv2 j hj]
    refine r (frl lab h) h2 D2 w2 a0 hl2 (fun j hj => ?_) ⟨s2, E2, hc2, hd2, k2, v2, fun j hj => hVj j (by omega), fun j => by rw [hP, hp2], hz2⟩ (a0.ex (Ex.toM e1) e2)
    rw [hVj j hj]
    cases hE : E2 j with
    | some e => rw [vw_in hE]; exact v2.cl _ _ hE (hclean j e hE)
    | none =>
      have hj2 : j < D2.length := by omega
      unfold vw; rw [hE]
      simp only [List.getD_eq_getElem?_getD, List.getElem?_eq_getElem hj2, Option.getD_some]
end
end Go.Sg
namespace Go.Sg
open Go Vc
section
variable {lab lab' : Nat → Nat} {h h' : Heap} {sp c dp nf n : Nat} {D D' : List (List UInt8)} {V : Nat → List UInt8} {P : Nat → Nat} {rd wr rd' wr' : BitVec 64} {K : Kt} {U : Nat → Prop}
theorem CaS.dv (k : CaS lab h c dp nf n D V P rd wr) : ∃ dg, Dv dg dp h n D rd wr ∧ lab dp = 6 ∧ lab dg = 7 := by
  obtain ⟨s, E, rfl, rfl, k, v, hV, hP, hz⟩ := k.out
  exact ⟨s.dg, k.dev, k.l6, k.l7⟩
theorem CaS.write0 (k : CaS lab h c dp nf n D V P rd wr) {x : Value} {b : List UInt8} (s : Sl U h x b) (hl : b.length = n)
    (r : ∀ h', CaS lab h' c dp nf n (D.set 0 b) (upd V 0 b) P rd (wr + 1) → Ex (Lb lab 6 7) h h' → K (int 0) h') : Ca f_dev_Device_Write #[ptr dp 0, .int .u32 0, x] h K := by
  obtain ⟨st, E, rfl, rfl, k, v, hV, hP, hz⟩ := k.out
  have hb1 := k.dev.b1
  refine c_dev_Write k.dev (i := 0) (by omega) s hl fun h1 d1 e1 => ?_
  have e1' : Ex (Lb lab 6 7) h h1 := two_lb e1 ⟨by rw [k.l6]; decide, by rw [k.l6]; decide⟩ ⟨by rw [k.l7]; decide, by rw [k.l7]; decide⟩
  have v1 := v.ex e1' (by decide) (Lat.refl _ h)
  refine r h1 ⟨st, E, rfl, rfl, k.set_dev d1 e1', ⟨v1.pm, fun i f hf => ?_, v1.nd, v1.lt, v1.ln, v1.rw, fun i e he hd => ?_⟩, fun i hi => ?_, hP, hz⟩ e1'
  · obtain ⟨fr, en, q1, q2, q3, q4, q5, q6, q7, q8⟩ := v1.fm i f hf
    exact ⟨fr, en, q1, q2, q3, q4, q5, q6, q7, by rw [List.length_set]; exact q8⟩
  · have hi0 : i ≠ 0 := fun h0 => by rw [h0, hz] at he; cases he
    rw [List.getElem?_set_ne (Ne.symm hi0)]
    exact v1.cl i e he hd
  · rw [List.length_set] at hi
    by_cases hi0 : i = 0
    · subst hi0
      rw [upd_same]; unfold vw; rw [hz]
      simp only [List.getD_eq_getElem?_getD, List.getElem?_set_self hi, Option.getD_some]
    · rw [upd_ne hi0, hV i hi]; unfold vw
      cases E i with
      | some _ => rfl
      | none => simp only [List.getD_eq_getElem?_getD, List.getElem?_set_ne (Ne.symm hi0)]
end
section
variable {lab lab' : Nat → Nat} {h h' : Heap} {sp cp dp dg kept n : Nat} {c : Config} {D D' : List (List UInt8)} {V : Nat → List UInt8} {S : Nat → Bool} {rd wr rd' wr' : BitVec 64} {K : Kt} {U : Nat → Prop}
theorem c_shelf_Flush (k : ShS lab h sp dp c D V S kept rd wr) (hnf : c.frames.toNat ≤ 12)
    (r : ∀ lab' h' D' wr', Lat lab lab' h → (∀ j, j < D.length → D'[j]? = some (V j)) → ShS lab' h' sp dp c D' V S kept rd wr' → Ex (Lb lab 1 8) h h' → K (int 0) h') : Ca f_shelf_Shelf_Flush #[ptr sp 0] h K := by
  obtain ⟨hr, hD, hkl, cp, o, g, p, k1, k2⟩ := k
  refine m_shelf_Shelf_Flush_ok (c_shelf_made k1 ?_)
  rw [BiP_neq]
  refine cdp (fun h => absurd rfl h) fun _ => ?_
  refine k1.get (f := 9) rfl ?_
  refine c_cache_Flush k2 hnf fun l1 h1 D1 w1 a1 hl hD1 k2 e1 => ?_
  exact r l1 h1 D1 w1 a1 hD1 ⟨hr, by omega, hkl, cp, o, g, p, k1.ex e1 (.inl (by decide)) (by decide) a1, k2⟩ e1
theorem ShS.write0 (k : ShS lab h sp dp c D V S kept rd wr) {x : Value} {b : List UInt8} (s : Sl U h x b) (hl : b.length = c.bytes.toNat)
    (r : ∀ h', ShS lab h' sp dp c (D.set 0 b) (upd V 0 b) S kept rd (wr + 1) → Ex (Lb lab 6 7) h h' → K (int 0) h') : Ca f_dev_Device_Write #[ptr dp 0, .int .u32 0, x] h K := by
  obtain ⟨hr, hD, hkl, cp, o, g, p, k1, k2⟩ := k
  refine k2.write0 s hl fun h1 k2 e1 => ?_
  exact r h1 ⟨hr, by rw [List.length_set]; exact hD, hkl, cp, o, g, p, k1.ex e1 (.inl (by decide)) (by decide) (Lat.refl _ _), k2⟩ e1
theorem ShS.dv (k : ShS lab h sp dp c D V S kept rd wr) : ∃ dg, Dv dg dp h c.bytes.toNat D rd wr ∧ lab dp = 6 ∧ lab dg = 7 := by
  obtain ⟨hr, hD, hkl, cp, o, g, p, k1, k2⟩ := k
  exact k2.dv
theorem c_shelf_New (d : Dv dg dp h n D rd wr) (hr : c.Right) (hD : D.length = c.blocks.toNat) (hn : n = c.bytes.toNat) (t : Tz h) (ht1 : gTab ≠ dp) (ht2 : gTab ≠ dg)
    (r : ∀ lab' sp h', Lat (dlab dp dg) lab' h → ShS lab' h' sp dp c D (fun i => D.getD i []) (upd (fun _ => false) 0 true) 0 rd wr → h.size ≤ sp → Ex (two dp dg) h h' → K (.tuple #[ptr sp 0, int 0]) h') :
    Ca f_shelf_New #[c.v, ptr dp 0] h K := by
  subst hn
  have hb := blocks_eq hr
  have hdl := d.lt
  refine m_shelf_New_ok (bxa (cs := c.cs) fun b h1 e1 hb1 kb _ => ?_)
  refine (LdA_b kb rfl).2 (c_conf_Check (c := c) fun h2 e2 => ?_)
  have kb := kb.ext e2
  have d2 := (d.ext e1).ext e2
  rw [if_pos hr, BiP_neq]
  refine cdp (fun h => absurd rfl h) fun _ => ?_
  refine fv (v := int c.frames) (by rw [kb.get]; rfl) ?_
  rw [hb.2.2.1]
  have e12 := e1.trans e2
  have l12 := e12.le
  have hl1 := e1.le
  refine c_cache_New d2 (by omega) (by omega) fun l3 cp h3 a3 k3 hcp e3 => ?_
  have hl3 := e3.le
  have kb := kb.ex e3 (by rintro (h | h) <;> omega)
  rw [ex20, ex21, BiP_neq]
  refine cdp (fun h => absurd rfl h) fun _ => ?_
  obtain ⟨dg', d3, q6, q7⟩ := k3.dv
  refine ⟨fun b' _ => b' = b, ?_⟩
  rw [FaP_ptr]
  refine LdX_b kb (v := int c.blocks) rfl (fun _ => rfl) ?_
  refine c_dev_Blocks d3 ⟨agr_b (Ex.refl (fun _ => False) _) kb.lt id, ?_⟩
  rw [BiP_neq]
  refine cdp (fun h => absurd (by rw [hD]; exact hb.1.symm) h) fun _ => ?_
  rw [FaP_ptr]
  refine LdX_b kb (v := int c.bytes) rfl (fun _ => rfl) ?_
  refine c_dev_Bytes d3 ⟨agr_b (Ex.refl (fun _ => False) _) kb.lt id, ?_⟩
  rw [BiP_neq]
  unfold m_shelf_New_j29
  refine cdp (fun h => absurd hb.2.1.symm (by simpa using h)) fun _ => ?_
  unfold m_shelf_New_j30
  refine fv (v := int c.blocks) (by rw [kb.get]; rfl) ?_
  rw [hb.1]
  have t3 := (t.ext e12).ex e3 (by rintro (h | h) <;> contradiction)
  refine c_pool_New hb.2.2.2.1 hb.2.2.2.2.1 t3 fun o g p h4 ho hg hp p4 e4 => ?_
  have kb := kb.ext e4
  rw [ex20, ex21, BiP_neq]
  refine cdp (fun h => absurd rfl h) fun _ => ?_
  refine (LdA_b kb rfl).2 ?_
  refine ⟨_, #[int c.blocks, int c.bytes, int c.frames, int c.fan, int c.buffer, int c.leaf, int c.key, int c.val, ptr dp 0, ptr cp 0, ptr o 0, .int .u32 0], rfl, by kernel_rfl, ?_⟩
  refine bxa (cs := [int c.blocks, int c.bytes, int c.frames, int c.fan, int c.buffer, int c.leaf, int c.key, int c.val, ptr dp 0, ptr cp 0, ptr o 0, .int .u32 0]) fun sp h5 e5 hsp k5 _ => ?_
  have hl4 := e4.le
  have hl5 := e5.le
  have e45 := e4.trans e5
  have hol := p4.blk.lt
  have hrl := p4.row.lt
  have htl := t.lt
  let lab : Nat → Nat := upd (upd (upd (upd (frl l3 h3) sp 9) o 10) p 11) g 12
  have hne := p4.row.ne
  have ho1 := p4.o1
  have ho2 := p4.o2
  have a5 : Lat l3 lab h3 := fun b hb => by
    show upd (upd (upd (upd (frl l3 h3) sp 9) o 10) p 11) g 12 b = l3 b
    rw [upd_ne (by omega), upd_ne (by omega), upd_ne (by omega), upd_ne (by omega)]
    exact frl_lat l3 h3 b hb
  have k5' := (k3.lat a5).ext e45
  have g0 : lab gTab = 0 := by
    rw [a5 _ (by omega), a3 _ (by omega)]
    unfold dlab
    rw [if_neg ht1, if_neg ht2]
  refine r lab sp h5 (fun x hx => (a5 x (by omega)).trans (a3 x (by omega))) ⟨hr, hD, by omega, cp, o, g, p, ⟨k5, p4.ext e5, ?_, ?_, ?_, ?_, g0⟩, k5'.pin fun j => ?_⟩ (by omega) ?_
  · show upd (upd (upd (upd (frl l3 h3) sp 9) o 10) p 11) g 12 sp = 9
    rw [upd_ne (by omega), upd_ne (by omega), upd_ne (by omega), upd_same]
  · show upd (upd (upd (upd (frl l3 h3) sp 9) o 10) p 11) g 12 o = 10
    rw [upd_ne (by omega), upd_ne (by omega), upd_same]
  · show upd (upd (upd (upd (frl l3 h3) sp 9) o 10) p 11) g 12 p = 11
    rw [upd_ne (by omega), upd_same]
  · exact upd_same
  · unfold kpin; rw [if_neg (by omega)]
  · exact ((Ex.toM e12).trans (e3.mono fun x _ h => h)).trans (Ex.toM e45)
end
end Go.Sg
namespace Go.Sg
open Go Vc
section
variable {h : Heap} {K : Kt} {c : Config} {root ht : Nat}
theorem sl_arr {b : Nat} (r : K (.slice (some ⟨b, 0, none⟩) 8 9) h) : VH Pg (Instr.sliceAt t_A9_P_int (ptr b 0) none (some (int 8)) none) h K := by
  have hu : Pg.underlying t_A9_P_int = some (.array 9 t_P_int) := by kernel_rfl
  have hi : (Pg.info? t_P_int).map (·.size) = some 1 := by kernel_rfl
  refine vh_pure (v := .slice (some ⟨b, 0, none⟩) 8 9) (fun w _ => ?_) r
  cases hq : Pg.info? t_P_int with
  | none => rw [hq] at hi; cases hi
  | some inf =>
    rw [hq] at hi
    have hs : inf.size = 1 := by simpa using hi
    have b2 := bnd_ok (P := Pg) (v := int (8 : Nat)) (y := 9) (l := 8) (code := .sliceAlen) (d := 0) bnd_nat (by decide) w
    have b3 : (Instr.sliceBound (int 8) 9 .sliceAlen).run Pg w = .ok 8 w := b2
    simp [Instr.sliceAt, run_underlying hu, Instr.sureAddr, Instr.sliceBounds, b3, sizeOf, typeInfo, hq, hs, Addr.add_lit]
theorem lit_bytes {n : Nat} {parts} {cs : Array Value} (l : List UInt8) (hl : l.length = n) (hn : n ≤ 2 ^ 24) (h0 : l ≠ [])
    (hf : Instr.fill (fun i => some (i * 1, 1)) ((Array.range (n * 1)).map ((if n * 1 = 0 then #[] else #[Value.int .u8 0])[· % (if n * 1 = 0 then #[] else #[Value.int .u8 0]).size]!)) parts = some cs) (hc : cs.toList = cells l)
    (r : ∀ v h', Sl No h' v l → Ext h h' → K v h') : BsP st_S_uint8 n parts h fun x h7 => VH Pg (convert t_S_uint8 t_S_uint8 x) h7 K := by
  refine ⟨_, _, _, cs, rfl, by omega, hf, ?_⟩
  intro w hw
  have hz : El.z UInt8 = 1 := rfl
  have hcs : cs.size = n := by
    have := congrArg List.length hc
    rw [cells_length, hl, hz, Nat.mul_one] at this
    simpa using this
  let w0 : World := { w with heap := h }
  have hw0 : w = w0.alloc (.cells cs t_uint8) := by
    cases w; simp only at hw; subst hw; rfl
  rw [hw0]
  refine ⟨_, _, Lib.run_convert_bytes_const w0 t_S_uint8 t_uint8 cs n n T_byte.und (by kernel_rfl), ⟨rfl, rfl, rfl⟩, r _ _ ⟨some ⟨h.size, 0, none⟩, n, by rw [hl], by omega, (fun e => by cases e), fun x hx => ?_⟩ (push_ext _ _)⟩
  cases hx
  refine ⟨rfl, fun _ => ⟨?_, id, fun j v hj => ?_⟩⟩
  · show h.size < (h.push _).size
    simp
  · show hget (h.push (.cells cs t_uint8 (cs.size, cs.size + 1))) h.size (0 + j) = some v
    rw [← hc] at hj
    simp [hget]
    simpa using hj
def hdv (c : Config) (root ht : Nat) : List Value := c.cs ++ [.int .u32 root, int ht]
def hok (c : Config) (root ht : Nat) : Prop := c.Right ∧ 1 ≤ root ∧ (root : Int) < c.blocks ∧ 1 ≤ ht ∧ ht ≤ 41
theorem c_head_Right (hr : hok c root ht) (r : ∀ h', Ext h h' → K (.bool true) h') : Ca f_head_Right #[.agg (hdv c root ht).toArray] h K := by
  obtain ⟨q1, q2, q3, q4, q5⟩ := hr
  have hb := blocks_eq q1
  refine m_head_Right_ok (bxa (cs := hdv c root ht) fun b h1 e1 hb1 kb _ => ?_)
  unfold Fva
  rw [FaP_ptr]
  refine LdA_at (cs := c.cs) (fun j v hj => ?_) rfl ?_
  · have hlt := (List.getElem?_eq_some_iff.1 hj).1
    rw [kb.get]; unfold hdv
    rw [Nat.zero_add, List.getElem?_append_left hlt]; exact hj
  refine c_conf_Check (c := c) fun h2 e2 => ?_
  have kb := kb.ext e2
  rw [if_pos q1, BiP_eql]
  refine cdp (fun _ => ?_) fun h => absurd rfl h
  refine fv (v := .int .u32 root) (by rw [kb.get]; rfl) ?_
  rw [BiP_geq]
  refine cdp (fun _ => ?_) fun h => absurd (by omega) h
  refine fv (v := .int .u32 root) (by rw [kb.get]; rfl) ?_
  rw [CvP_int, wrap64 (by omega) (by omega), FaP_ptr]
  refine fv (v := int c.blocks) (by rw [kb.get]; rfl) ?_
  rw [BiP_lss]
  refine cdp (fun _ => ?_) fun h => absurd (by omega) h
  refine fv (v := int ht) (by rw [kb.get]; rfl) ?_
  rw [BiP_geq]
  refine cdp (fun _ => ?_) fun h => absurd (by omega) h
  refine fv (v := int ht) (by rw [kb.get]; rfl) ?_
  rw [BiP_leq, decide_eq_true (by omega)]
  exact r h2 (e1.trans e2)
def nums (b : Nat) : List Value := [ptr b 0, ptr b 1, ptr b 2, ptr b 3, ptr b 4, ptr b 5, ptr b 6, ptr b 7, ptr b 9]
theorem c_head_numbers {b : Nat} (r : ∀ h', Ext h h' → K (.agg (nums b).toArray) h') : Ca f_head_numbers #[ptr b 0] h K := by
  refine m_head_numbers_ok (ala (cs := [.pointer none, .pointer none, .pointer none, .pointer none, .pointer none, .pointer none, .pointer none, .pointer none, .pointer none]) fun b1 h1 e1 hb1 k1 _ => ?_)
  simp only [NilP_ptr, FaP_ptr, Nat.zero_add]
  refine ⟨_, (nums b).toArray, rfl, by kernel_rfl, ?_⟩
  refine StA_b k1 rfl rfl rfl fun h2 hs2 e2 k2 => ⟨trivial, ?_⟩
  refine (LdA_b k2 rfl).2 (r h2 ?_)
  exact ⟨Nat.le_trans e1.le e2.le, fun x hx _ => (e2.eq x (Nat.lt_of_lt_of_le hx e1.le) (by omega)).trans (e1.eq x hx id)⟩
def magic : List UInt8 := [83, 76, 85, 73, 67, 69, 48, 49]
def hnums (c : Config) : List Int := [c.blocks, c.bytes, c.frames, c.fan, c.buffer, c.leaf, c.key, c.val]
def hbody (c : Config) (root ht : Nat) : List UInt8 := magic ++ (hnums c).flatMap (fun n => bytesOf 4 n.toNat) ++ bytesOf 4 root ++ bytesOf 4 ht ++ List.replicate 12 0
def headOf (c : Config) (root ht : Nat) : List UInt8 := hbody c root ht ++ bytesOf 4 (sumMore 1 (hbody c root ht)) ++ List.replicate (c.bytes.toNat - 64) 0
theorem hnums_len (c : Config) : ((hnums c).flatMap (fun n => bytesOf 4 n.toNat)).length = 32 := by
  simp [hnums, bytesOf_length]
theorem hbody_len (c : Config) : (hbody c root ht).length = 60 := by
  simp [hbody, bytesOf_length, magic, hnums]
theorem bytes64 (hr : c.Right) : 64 ≤ c.bytes := by
  have := hr.2.2.2.2.2.2
  unfold Config.leastBytes at this
  omega
theorem head_len (hr : c.Right) : (headOf c root ht).length = c.bytes.toNat := by
  have := bytes64 hr
  simp only [headOf, List.length_append, hbody_len, bytesOf_length, List.length_replicate]
  omega
theorem hnums_in (hr : c.Right) : ∀ n ∈ hnums c, 0 ≤ n ∧ n ≤ 65536 := by
  obtain ⟨⟨a1, a2, a3, a4, a5, a6, a7, a8, a9, a10⟩, b1, b2, b3, b4, b5, b6⟩ := hr
  have := bytes64 ⟨⟨a1, a2, a3, a4, a5, a6, a7, a8, a9, a10⟩, b1, b2, b3, b4, b5, b6⟩
  intro n hn
  simp only [hnums, List.mem_cons, List.not_mem_nil, or_false] at hn
  rcases hn with rfl | rfl | rfl | rfl | rfl | rfl | rfl | rfl <;> omega
theorem c_head_Encode (hr : hok c root ht) (r : ∀ y h', Ow h.size t_uint8 h' y (headOf c root ht) → Ext h h' → K (.tuple #[y, int 0]) h') : Ca f_head_Encode #[.agg (hdv c root ht).toArray] h K := by
  have hrr := hr
  obtain ⟨q1, q2, q3, q4, q5⟩ := hr
  have hb := blocks_eq q1
  have h64 := bytes64 q1
  have h65 := q1.2.2.2.2.2.1
  have hin := hnums_in q1
  refine m_head_Encode_ok (bxa (cs := hdv c root ht) fun b h1 e1 hb1 kb _ => ?_)
  refine (LdA_b kb rfl).2 (c_head_Right hrr fun h2 e2 => ?_)
  rw [UnP_not]
  refine cd (fun h => absurd h (by decide)) fun _ => ?_
  refine lit_bytes magic rfl (by decide) (by decide) (by kernel_rfl) rfl fun x3 h3 s3 e3 => ?_
  refine c_head_numbers fun h4 e4 => ?_
  refine alst (vs := nums b) rfl rfl rfl fun b5 h5 e5 hb5 k5 _ => ?_
  have e15 := ((e2.trans e3).trans e4).trans e5
  have kb := kb.ext e15
  refine sl_arr ?_
  refine ⟨_, _, _, rfl, ?_⟩
  have s5 : Sl No h5 x3 magic := (s3.ext e4).ext e5
  have l15 := e15.le
  have hl1 := e1.le
  refine lop (σ := Nat × Value) (fun p => [p.2, int p.1]) (fun p h' => Ext h5 h' ∧ p.1 ≤ 8 ∧ Sl No h' p.2 (magic ++ ((hnums c).take p.1).flatMap (fun n => bytesOf 4 n.toNat)))
    (fun p => 8 - p.1) (0, x3) rfl ⟨Ex.refl _ _, Nat.zero_le _, by simpa using s5⟩ ?_
  rintro ⟨i, v⟩ h6 N ⟨e6, hi, s6⟩ hN
  simp only at hi s6
  simp only [m_head_Encode_l20, gv_zero, gv_succ]
  have kb := kb.ext e6
  have k5 := k5.ext e6
  rw [BiP_lss]
  refine cdp (fun hlt => ?_) (fun hge => ?_)
  · have hlt : i < 8 := by omega
    have hnx : (hnums c)[i]? = some ((hnums c)[i]'hlt) := List.getElem?_eq_getElem hlt
    obtain ⟨n0, n1⟩ := hin _ (List.getElem_mem hlt)
    refine ix_own hlt ?_
    refine ld (v := ptr b i) (by
      rw [k5.get]
      have : i = 0 ∨ i = 1 ∨ i = 2 ∨ i = 3 ∨ i = 4 ∨ i = 5 ∨ i = 6 ∨ i = 7 := by omega
      rcases this with rfl | rfl | rfl | rfl | rfl | rfl | rfl | rfl <;> rfl) ?_
    rw [NilP_ptr]
    refine ld (v := int ((hnums c)[i]'hlt)) (by
      rw [kb.get]
      have : i = 0 ∨ i = 1 ∨ i = 2 ∨ i = 3 ∨ i = 4 ∨ i = 5 ∨ i = 6 ∨ i = 7 := by omega
      rcases this with rfl | rfl | rfl | rfl | rfl | rfl | rfl | rfl <;> rfl) ?_
    rw [CvP_int, wrapU rfl (by omega) (by show _ < (2 : Int) ^ 64; omega)]
    have hnn : (hnums c)[i]'hlt = (((hnums c)[i]'hlt).toNat : Int) := by omega
    have hlm : (magic ++ ((hnums c).take i).flatMap (fun n => bytesOf 4 n.toNat)).length ≤ 40 := by
      have : (((hnums c).take i).flatMap (fun n => bytesOf 4 n.toNat)).length = 4 * i := by
        have h4 : ∀ l : List Int, (l.flatMap (fun n => bytesOf 4 n.toNat)).length = 4 * l.length := fun l => by
          induction l with
          | nil => rfl
          | cons a t ih => simp [bytesOf_length, ih]; omega
        rw [h4, List.length_take]
        show 4 * min i 8 = 4 * i
        omega
      simp only [List.length_append, this]
      show 8 + 4 * i ≤ 40
      omega
    rw [hnn]
    refine c_word_Put (w := 4) s6 (.inr (.inr (.inl rfl))) (by omega) (by omega) fun y h7 o7 e7 => ?_
    refine add64 (by omega) ?_
    have := hN (i + 1, y) h7 ⟨e6.trans e7, by show i + 1 ≤ 8; omega, ?_⟩ (by simp only; omega)
    · simpa using this
    · have hti : (hnums c).take (i + 1) = (hnums c).take i ++ [(hnums c)[i]'hlt] := by rw [List.take_add_one, hnx]; rfl
      show Sl No h7 y (magic ++ ((hnums c).take (i + 1)).flatMap (fun n => bytesOf 4 n.toNat))
      rw [hti, List.flatMap_append, ← List.append_assoc]
      simp only [List.flatMap_cons, List.flatMap_nil, List.append_nil]
      exact o7.sl fun _ _ h => h
  · have hi8 : i = 8 := by omega
    subst hi8
    have ht8 : (hnums c).take 8 = hnums c := rfl
    rw [ht8] at s6
    unfold m_head_Encode_j32
    refine fv (v := .int .u32 root) (by rw [kb.get]; rfl) ?_
    rw [CvP_int, wrapU rfl (by omega) (by show _ < (2 : Int) ^ 64; omega)]
    have hl0 : (magic ++ (hnums c).flatMap (fun n => bytesOf 4 n.toNat)).length = 40 := by rw [List.length_append, hnums_len]; rfl
    refine c_word_Put (w := 4) s6 (.inr (.inr (.inl rfl))) (by omega) (by omega) fun v7 h7 o7 e7 => ?_
    have kb := kb.ext e7
    refine fv (v := int ht) (by rw [kb.get]; rfl) ?_
    rw [CvP_int, wrapU rfl (by omega) (by show _ < (2 : Int) ^ 64; omega)]
    refine c_word_Put (w := 4) (o7.sl (U := No) fun _ _ h => h) (.inr (.inr (.inl rfl))) (by omega) (by rw [List.length_append, bytesOf_length]; omega) fun v8 h8 o8 e8 => ?_
    have kb := kb.ext e8
    refine bld_zer (n := 12) (o8.low (Nat.zero_le _)) (by rw [List.length_append, List.length_append, hl0, bytesOf_length, bytesOf_length]; decide) fun v9 h9 o9 b9 => ?_
    have hv8 := o8.block
    have e68 : Ext h6 h8 := e7.trans e8
    have e16 : Ext h1 h6 := e15.trans e6
    have e08 : Ext h h8 := e1.trans (e16.trans e68)
    have l68 := e68.le
    have l16 := e16.le
    have hl8 : h6.size ≤ h7.size := e7.le
    have hx8 : ∀ x, x < h7.size → v8.ownBlock ≠ some x := fun x hx he => by have := hv8 x he; omega
    have kb := b9.blk kb (hx8 _ (by omega))
    have e09 : Ext h h9 := e08.andThen b9.ex fun x hx he => hx8 x (by omega) he
    have hb9 : ∀ x, v9.ownBlock = some x → h.size ≤ x := fun x hx => by
      rcases b9.at_ with h | ⟨c, h, hc⟩
      · rw [h] at hx; have := hv8 x hx; omega
      · rw [h] at hx; cases hx; have := e08.le; omega
    have hbd : magic ++ (hnums c).flatMap (fun n => bytesOf 4 n.toNat) ++ bytesOf 4 root ++ bytesOf 4 ht ++ List.replicate 12 0 = hbody c root ht := rfl
    rw [hbd] at o9
    obtain ⟨a9, m9, c9, rfl⟩ := o9.form
    have hone : (Value.slice a9 m9 c9).oneCell' = true := rfl
    refine bs (n0 := h9.size) (e := t_S_uint8) (zs := #[.slice none 0 0]) [(⟨.slice a9 m9 c9, hone⟩ : Cl)] rfl (Nat.le_refl _) rfl (by decide) (cs := #[.slice a9 m9 c9]) (by kernel_rfl) rfl fun v10 h10 o10 e10 => ?_
    have s10 : Sl No h10 v10 [(⟨.slice a9 m9 c9, hone⟩ : Cl)] := o10.sl fun _ _ h => h
    have o9 := o9.ext e10
    have kb := kb.ext e10
    refine c_check_Sum s10 (o9.sl (U := No) fun _ _ h => h) (by rw [hbody_len]; decide) ?_
    rw [CvP_int, wrapU rfl (by omega) (by have := sumMore_lt 1 (hbody c root ht); show _ < (2 : Int) ^ 64; omega)]
    refine c_word_Put (w := 4) (o9.sl (U := No) fun _ _ h => h) (.inr (.inr (.inl rfl))) (by have := sumMore_lt 1 (hbody c root ht); omega) (by rw [hbody_len]; decide) fun v11 h11 o11 e11 => ?_
    have kb := kb.ext e11
    rw [FaP_ptr]
    refine fv (v := int c.bytes) (by rw [kb.get]; rfl) ?_
    have s11 : Sl No h11 v11 _ := o11.sl fun _ _ h => h
    refine s11.len ?_
    have hl11 : (hbody c root ht ++ bytesOf 4 (sumMore 1 (hbody c root ht))).length = 64 := by rw [List.length_append, hbody_len, bytesOf_length]
    rw [hl11]
    refine sub64 (by omega) ?_
    have hsub : c.bytes - ((64 : Nat) : Int) = ((c.bytes.toNat - 64 : Nat) : Int) := by omega
    rw [hsub]
    refine bld_zer (n := c.bytes.toNat - 64) (o11.low (Nat.zero_le _)) (by rw [hl11]; have := q1.2.2.2.2.2.1; omega) fun v12 h12 o12 b12 => ?_
    have e911 : Ext h9 h11 := e10.trans e11
    have hv11 := o11.block
    have hl10 := e10.le
    have hl09 := e09.le
    have e012 : Ext h h12 := (e09.trans e911).andThen b12.ex fun x hx he => by have := hv11 x he; omega
    refine r v12 h12 (o12.anew fun x hx => ?_) e012
    rcases b12.at_ with h | ⟨c, h, hc⟩
    · rw [h] at hx; have := hv11 x hx; omega
    · rw [h] at hx; cases hx; have := e911.le; omega
end
end Go.Sg
