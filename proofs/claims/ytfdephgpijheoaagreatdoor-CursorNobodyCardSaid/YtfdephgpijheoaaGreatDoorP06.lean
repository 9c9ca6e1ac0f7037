/-
  Part 6 of a proof: own texts, merged by program.
-/
import Derived.Laws.BytesArg
import Derived.Test.YtfdephgpijheoaaGreatDoorP05
set_option linter.unusedVariables false
set_option linter.unusedSimpArgs false
namespace Go.Sg
open Go Vc
theorem cvh {f : FuncId} {args : Array Value} {h : Heap} {K : Kt} (hb : hasBody Pg f = true) (r : Ca f args h K) : CvH Pg (.func (.func f) #[] #[]) args h K :=
  ⟨f, #[], rfl, hb, by rw [Array.append_empty]; exact r⟩
section
variable {h : Heap} {K : Kt} {U : Nat → Prop}
theorem cmp_leaf (k : Str) : Cmp (.func (.func f_leaf_compare) #[] #[]) Pair.v Pair.key k := by
  intro a h R r
  refine cvh (by kernel_rfl) (m_leaf_compare_ok ?_)
  refine bxa fun b h1 e1 hb k1 _ => ?_
  refine fv (by rw [k1.get]; rfl) ?_
  exact c_lex_Compare (r h1 e1)
theorem parts_key {α : Type} {key : α → Str} {l : List α} (ha : Asc key l) (k : Str) : Parts l (fun a => cmp (key a) k) (pos key l k) :=
  ⟨pos_le, (parts_asc ha).1, (parts_asc ha).2⟩
theorem hit_key {α : Type} {key : α → Str} {l : List α} (ha : Asc key l) (k : Str) : hit l (fun a => cmp (key a) k) (pos key l k) = has key l k := by
  unfold hit
  cases hk : has key l k with
  | true => obtain ⟨a, h1, h2, _⟩ := get_hit ha hk; rw [h1]; simp [cmp_eq, h2]
  | false =>
    cases hg : l[pos key l k]? with
    | none => rfl
    | some a =>
      have := has_ne hk a (List.mem_of_getElem? hg)
      simp [cmp_eq, this]
theorem c_find_Pair {x : Value} {l : List Pair} {k : Str} (s : Sl U h x l) (ha : Asc Pair.key l) (hl : l.length ≤ 2 ^ 40) (r : ∀ h', Ext h h' → K (.tuple #[int (pos Pair.key l k), .bool (has Pair.key l k)]) h') :
    Ca f_slices_BinarySearchFunc_api_Pair #[x, str k, .func (.func f_leaf_compare) #[] #[]] h K :=
  c_BinarySearchFunc_Pair (cmp_leaf k) s hl (parts_key ha k) fun h' e => by rw [hit_key ha]; exact r h' e
def applyP (l : List Pair) (m : Msg) : List Pair := ins Pair.key l m.key (if m.del then [] else [⟨m.key, m.val⟩])
theorem applyP_asc {l : List Pair} (h : Asc Pair.key l) (m : Msg) : Asc Pair.key (applyP l m) := by
  unfold applyP; refine ins_asc h ?_; split
  · exact .inl rfl
  · exact .inr ⟨_, rfl, rfl⟩
theorem applyP_len {l : List Pair} (m : Msg) : (applyP l m).length ≤ l.length + 1 := by
  have h1 : (ahead Pair.key l m.key).length + (behind Pair.key l m.key).length ≤ l.length := by
    unfold ahead behind
    induction l with
    | nil => simp
    | cons a l ih =>
      simp only [List.filter_cons]
      by_cases q1 : a.key < m.key
      · have q2 : ¬ m.key < a.key := slt_asymm q1
        simp only [q1, q2, decide_true, decide_false, if_true, Bool.false_eq_true, if_false, List.length_cons]; omega
      · simp only [q1, decide_false, Bool.false_eq_true, if_false]
        split <;> simp only [List.length_cons] <;> omega
  unfold applyP ins
  simp only [List.length_append]
  split <;> simp <;> omega
theorem foldl_len (ms : List Msg) (l : List Pair) : (ms.foldl applyP l).length ≤ l.length + ms.length := by
  induction ms generalizing l with
  | nil => simp
  | cons m ms ih => simp only [List.foldl_cons, List.length_cons]; have := ih (applyP l m); have := applyP_len (l := l) m; omega
theorem c_leaf_Apply {x y : Value} {l : List Pair} {ms : List Msg} (s : Sl U h x l) (sm : Sl U h y ms) (ha : Asc Pair.key l) (hl : l.length + ms.length < 2 ^ 40)
    (r : ∀ v' h', Ow h.size t_api_Pair h' v' (ms.foldl applyP l) → Ext h h' → K v' h') : Ca f_leaf_Apply #[x, y] h K := by
  refine m_leaf_Apply_ok (c_Clone_Pair s (by omega) fun v1 h1 o1 e1 => ?_)
  refine sm.len ?_
  refine lop (σ := Value × Nat) (fun p => [p.1, int p.2]) (fun p h' => Ext h h' ∧ p.2 ≤ ms.length ∧ Ow h.size t_api_Pair h' p.1 ((ms.take p.2).foldl applyP l)) (fun p => ms.length - p.2) (v1, 0) rfl ⟨e1, Nat.zero_le _, by simpa using o1⟩ ?_
  rintro ⟨v, i⟩ h2 N ⟨e2, hi, o2⟩ hN
  simp only at hi o2
  simp only [m_leaf_Apply_l5, gv_zero, gv_succ]
  rw [BiP_lss]
  refine cdp (fun hlt => ?_) (fun hge => ?_)
  · have hi : i < ms.length := by omega
    have sm2 := sm.ext e2
    have hcur : ms[i]? = some ms[i] := List.getElem?_eq_getElem hi
    refine sm2.ea (by omega) (by rw [Int.toNat_natCast]; exact hcur) ?_
    have htk : (ms.take (i + 1)).foldl applyP l = applyP ((ms.take i).foldl applyP l) ms[i] := by
      rw [List.take_add_one, hcur, List.foldl_append]; rfl
    generalize ms[i] = m at *
    have hlen := foldl_len (ms.take i) l
    have hasc : Asc Pair.key ((ms.take i).foldl applyP l) := by
      have : ∀ (q : List Msg) (l : List Pair), Asc Pair.key l → Asc Pair.key (q.foldl applyP l) := by
        intro q; induction q with
        | nil => intro l h; exact h
        | cons m q ih => intro l h; exact ih _ (applyP_asc h m)
      exact this _ _ ha
    rw [List.length_take] at hlen
    generalize hL : (ms.take i).foldl applyP l = L at *
    refine alst (vs := [str m.key, .bool m.del, str m.val]) rfl rfl rfl fun bm h3 e3 hbm k3 s3 => ?_
    refine fv (by rw [k3.get]; rfl) ?_
    have o3 := o2.ext e3
    have e3' : Ext h h3 := e2.trans e3
    refine c_find_Pair (o3.sl (U := No) fun _ _ h => h) hasc (by omega) fun h4 e4 => ?_
    rw [ex20, ex21]
    have k4 := k3.ext e4
    have o4 := o3.ext e4
    have e4' : Ext h h4 := e3'.trans e4
    have hbl : h2.size ≤ bm := by omega
    have next : ∀ v' h', Ow h.size t_api_Pair h' v' (applyP L m) → Ext h h' → m_leaf_Apply_j46 v' y (int ms.length) (int i) h' N K := by
      intro v' h' o' e'
      unfold m_leaf_Apply_j46
      refine add64 (by omega) ?_
      exact hN (v', i + 1) h' ⟨e', by omega, by rw [htk]; exact o'⟩ (by simp only; omega)
    have hpl : pos Pair.key L m.key ≤ L.length := pos_le
    have hit : has Pair.key L m.key = true → m_leaf_Apply_j25 v (ptr bm 0) (int (pos Pair.key L m.key)) (.bool true) y (int ms.length) (int i) (.bool m.del) h4 N K := by
      intro hk
      obtain ⟨a, g1, g2, g3⟩ := get_hit hasc hk
      have hpl : pos Pair.key L m.key < L.length := (List.getElem?_eq_some_iff.1 g1).1
      unfold m_leaf_Apply_j25
      refine cd (fun hd => ?_) (fun hd => ?_)
      · refine add64 (by omega) ?_
        have := c_Delete_Pair (K := fun x28 h27 => m_leaf_Apply_j46 x28 y (int ms.length) (int i) h27 N K) o4 (by omega) hpl fun v' h' o' e' => next v' h' (by
          rw [drop_hit hasc hk, take_pos hasc] at o'
          unfold applyP ins; rw [hd]; simpa using o') (e4'.own e' (Nat.le_refl _))
        exact this
      · rw [CdP_true]
        refine fv (by rw [k4.get]; rfl) ?_
        refine ow_setf (a' := (⟨m.key, m.val⟩ : Pair)) rfl o4 g1 (by decide) (by rw [← g2]; rfl) rfl fun h5 o5 e5 => ?_
        refine next _ _ ?_ (e4'.own e5 (Nat.le_refl _))
        have hd : m.del = false := hd
        have : L.set (pos Pair.key L m.key) ⟨m.key, m.val⟩ = applyP L m := by
          rw [List.set_eq_take_append_cons_drop, if_pos hpl, take_pos hasc, drop_hit hasc hk]
          unfold applyP ins; rw [hd]; simp
        rwa [this] at o5
    have miss : has Pair.key L m.key = false → m_leaf_Apply_j25 v (ptr bm 0) (int (pos Pair.key L m.key)) (.bool false) y (int ms.length) (int i) (.bool false) h4 N K := by
      intro hk
      unfold m_leaf_Apply_j25
      rw [CdP_false, CdP_false]
      refine fv (by rw [k4.get]; rfl) ?_
      rw [UnP_not]
      refine cd (fun hd => ?_) (fun hd => ?_)
      · have hd : m.del = false := by simpa using hd
        refine fv (by rw [k4.get]; rfl) (fv (by rw [k4.get]; rfl) ?_)
        refine ⟨_, _, rfl, rfl, ?_⟩
        refine bs (n0 := h4.size) (e := t_api_Pair) [(⟨m.key, m.val⟩ : Pair)] rfl (Nat.le_refl _) rfl (by decide) (by kernel_rfl) rfl fun v5 h5 o5 e5 => ?_
        refine c_Insert_Pair (a := ⟨m.key, m.val⟩) (o4.ext e5) o5 (fun b hb => ?_) hpl (Nat.le_trans e4'.le e5.le) (by omega) fun v6 h6 o6 e6 => ?_
        · rcases o4.cases' with ⟨rfl, _⟩ | ⟨g, cap, rfl, hg, ow⟩
          · simp [Value.ownBlock] at hb
          · have := ow.lt; simp [Value.ownBlock] at hb; omega
        · refine next _ _ ?_ ((e4'.trans e5).own e6 (Nat.le_refl _))
          rw [take_pos hasc, drop_miss hasc hk] at o6
          unfold applyP ins; rw [hd]; exact o6
      · have hd : m.del = true := by simpa using hd
        refine next _ _ ?_ e4'
        unfold applyP; rw [hd]; simp only [if_true]
        rw [ins_miss hasc hk]; exact o4
    refine cd (fun hk => ?_) (fun hk => ?_)
    · refine fv (by rw [k4.get]; rfl) ?_
      rw [hk]; exact hit hk
    · rw [hk]; exact miss hk
  · have : i = ms.length := by omega
    subst this
    rw [List.take_length] at o2
    exact r _ _ o2 e2
end
end Go.Sg
namespace Go.Sg
open Go Vc
section
variable {h : Heap} {K : Kt} {U : Nat → Prop} {ts : Array TypeId} {t : TypeId}
theorem min_int {k} {a b : Int} (r : K (.int k (min a b)) h) : VH Pg (Builtin.min_ ts t #[.int k a, .int k b]) h K := by
  refine vh_pure (fun w _ => ?_) r
  by_cases hab : b < a
  · have : min a b = b := by omega
    simp [Builtin.min_, Builtin.min2, hab, this]
  · have : min a b = a := by omega
    simp [Builtin.min_, Builtin.min2, hab, this]
theorem max_int {k} {a b : Int} (r : K (.int k (max a b)) h) : VH Pg (Builtin.max_ ts t #[.int k a, .int k b]) h K := by
  refine vh_pure (fun w _ => ?_) r
  by_cases hab : b > a
  · have : max a b = b := by omega
    simp [Builtin.max_, Builtin.max2, hab, this]
  · have : max a b = a := by omega
    simp [Builtin.max_, Builtin.max2, hab, this]
def rises {α : Type} (key : α → Str) : List α → Bool
  | a :: b :: l => decide (key a < key b) && rises key (b :: l)
  | _ => true
theorem rises_asc {α : Type} {key : α → Str} : ∀ {l : List α}, rises key l = true ↔ Asc key l
  | [] => by simp [rises, Asc]
  | [a] => by simp [rises, Asc]
  | a :: b :: l => by
    have ih := rises_asc (key := key) (l := b :: l)
    have hc : Asc key (a :: b :: l) ↔ (∀ c ∈ b :: l, key a < key c) ∧ Asc key (b :: l) := Asc.cons
    rw [rises, Bool.and_eq_true, ih, hc]
    constructor
    · rintro ⟨h1, h2⟩
      have h1 : key a < key b := of_decide_eq_true h1
      refine ⟨fun c hc => ?_, h2⟩
      rcases List.mem_cons.1 hc with rfl | hc
      · exact h1
      · exact slt_trans h1 ((Asc.cons.1 h2).1 c hc)
    · rintro ⟨h1, h2⟩
      exact ⟨decide_eq_true (h1 b (by simp)), h2⟩
theorem rises_get {α : Type} {key : α → Str} {l : List α} : rises key l = true ↔ ∀ i a b, l[i]? = some a → l[i + 1]? = some b → key a < key b := by
  induction l with
  | nil => simp [rises]
  | cons a l ih =>
    cases l with
    | nil => simp [rises]
    | cons b l =>
      rw [rises, Bool.and_eq_true, ih]
      constructor
      · rintro ⟨h1, h2⟩ i x y hx hy
        cases i with
        | zero => simp at hx hy; subst hx hy; exact of_decide_eq_true h1
        | succ i => exact h2 i x y (by simpa using hx) (by simpa using hy)
      · intro h1
        exact ⟨decide_eq_true (h1 0 a b rfl rfl), fun i x y hx hy => h1 (i + 1) x y (by simpa using hx) (by simpa using hy)⟩
theorem right_gen {α : Type} [El α] {key : α → Str} {x : Value} {l : List α} {zz : Nat} (hzz : zz = El.z α) (hk : ∀ a, (El.enc a)[0]? = some (str (key a))) (s : Sl U h x l) (hl : l.length ≤ 2 ^ 40) (r : ∀ h', Ext h h' → K (.bool (rises key l)) h') :
    LenP (some true) x fun x2 => BiP .sub x2 (.int .i64 1) fun x3 =>
      LoP (fun vs h nx5 => BiP .lss (gv vs 1) x3 fun x6 => CdP x6
        (Ef zz 0 x (gv vs 1) h fun x10 => BiP .add (gv vs 1) (.int .i64 1) fun x11 => Ef zz 0 x x11 h fun x14 =>
          Ca f_lex_Compare #[x10, x14] h fun x16 h15 => True ∧ (BiP .geq x16 (.int .i64 0) fun x17 => CdP x17 (K (.bool false) h15)
            (BiP .add (gv vs 1) (.int .i64 1) fun x18 => nx5 [(gv vs 0), x18] h15)))
        (K (.bool true) h)) [(.bool false), (.int .i64 0)] h := by
  subst hzz
  refine s.len (sub64 (by omega) ?_)
  refine lop (σ := Nat) (fun i => [.bool false, int i]) (fun i h' => Ext h h' ∧ ∀ j a b, j < i → l[j]? = some a → l[j + 1]? = some b → key a < key b) (fun i => l.length - i) 0 rfl ⟨Ex.refl _ _, fun _ _ _ h => by omega⟩ ?_
  rintro i h1 N ⟨e1, hi⟩ hN
  simp only [gv_zero, gv_succ]
  rw [BiP_lss]
  refine cdp (fun hlt => ?_) (fun hge => ?_)
  · have q1 : i + 1 < l.length := by omega
    have g1 : l[i]? = some l[i] := List.getElem?_eq_getElem (by omega)
    have g2 : l[i + 1]? = some l[i + 1] := List.getElem?_eq_getElem q1
    refine (s.ext e1).ef (by omega) (by rw [Int.toNat_natCast]; exact g1) (hk _) ?_
    refine add64 (by omega) ?_
    refine (s.ext e1).ef (by omega) (by rw [show ((i : Int) + 1).toNat = i + 1 from by omega]; exact g2) (hk _) ?_
    refine c_lex_Compare ⟨trivial, ?_⟩
    rw [BiP_geq]
    refine cdp (fun hc => ?_) (fun hc => ?_)
    · have : rises key l = false := by
        cases hr : rises key l with
        | false => rfl
        | true => have := cmp_lt.2 (rises_get.1 hr i _ _ g1 g2); omega
      have r := r _ e1
      rwa [this] at r
    · refine add64 (by omega) ?_
      refine hN (i + 1) h1 ⟨e1, fun j a b hj ha hb => ?_⟩ (by omega)
      by_cases hji : j = i
      · subst hji
        rw [g1] at ha; rw [g2] at hb; cases ha; cases hb
        exact cmp_lt.1 (by omega)
      · exact hi j a b (by omega) ha hb
  · have : rises key l = true := rises_get.2 fun j a b ha hb => hi j a b (by have := (List.getElem?_eq_some_iff.1 hb).1; omega) ha hb
    have r := r _ e1
    rwa [this] at r
theorem c_leaf_Right {x : Value} {l : List Pair} (s : Sl U h x l) (hl : l.length ≤ 2 ^ 40) (r : ∀ h', Ext h h' → K (.bool (rises Pair.key l)) h') : Ca f_leaf_Right #[x] h K :=
  m_leaf_Right_ok (right_gen (key := Pair.key) rfl (fun _ => rfl) s hl r)
def inSpan (s : Span) (k : Str) : Bool := decide (¬ k < s.lo) && (s.top || decide (k < s.hi))
def partOf {α : Type} (key : α → Str) (l : List α) (s : Span) : List α := l.filter fun a => inSpan s (key a)
theorem drop_lo {α : Type} {key : α → Str} {l : List α} (ha : Asc key l) (lo : Str) : l.drop (pos key l lo) = l.filter fun a => decide (¬ key a < lo) := by
  rw [drop_pos ha]
  have h1 := (part_asc (k := lo) ha).1
  have z1 : (ahead key l lo).filter (fun a => decide (¬ key a < lo)) = [] := by
    rw [List.filter_eq_nil_iff]; intro a h; have := (List.mem_filter.1 h).2; simpa using this
  have z2 : (l.filter (fun a => decide (key a = lo))).filter (fun a => decide (¬ key a < lo)) = l.filter (fun a => decide (key a = lo)) := by
    rw [List.filter_eq_self]; intro a h; have := of_decide_eq_true (List.mem_filter.1 h).2; rw [this]; exact decide_eq_true (slt_irrefl _)
  have z3 : (behind key l lo).filter (fun a => decide (¬ key a < lo)) = behind key l lo := by
    rw [List.filter_eq_self]; intro a h; have := of_decide_eq_true (List.mem_filter.1 h).2; exact decide_eq_true (slt_asymm this)
  have h2 := congrArg (List.filter fun a => decide (¬ key a < lo)) h1
  rw [List.filter_append, List.filter_append, z1, z2, z3] at h2
  rw [h2]; rfl
theorem pos_mono {α : Type} {key : α → Str} {l : List α} {a b : Str} (hab : a < b) : pos key l a ≤ pos key l b := by
  unfold pos ahead
  induction l with
  | nil => simp
  | cons x l ih =>
    simp only [List.filter_cons]
    by_cases q : key x < a
    · have q2 := slt_trans q hab
      simp only [q, q2, decide_true, if_true, List.length_cons]; omega
    · simp only [q, decide_false, Bool.false_eq_true, if_false]
      split <;> (try simp only [List.length_cons]) <;> omega
theorem part_take_drop {α : Type} {key : α → Str} {l : List α} (ha : Asc key l) (s : Span) (he : s.empty = false) :
    (l.take (if s.top then l.length else pos key l s.hi)).drop (pos key l s.lo) = partOf key l s ∧ pos key l s.lo ≤ (if s.top then l.length else pos key l s.hi) := by
  obtain ⟨lo, hi, top⟩ := s
  cases top with
  | true =>
    refine ⟨?_, pos_le⟩
    show (l.take l.length).drop (pos key l lo) = _
    rw [List.take_length, drop_lo ha]
    unfold partOf inSpan
    simp
  | false =>
    have hlohi : lo < hi := by simpa [Span.empty] using he
    simp only [Bool.false_eq_true, if_false]
    refine ⟨?_, pos_mono hlohi⟩
    rw [take_pos ha]
    have hasc2 : Asc key (ahead key l hi) := ha.filter _
    have hp : pos key (ahead key l hi) lo = pos key l lo := by
      unfold pos ahead
      rw [List.filter_filter]
      congr 1
      apply List.filter_congr
      intro a _
      by_cases q : key a < lo
      · simp only [q, slt_trans q hlohi, decide_true, Bool.and_self]
      · simp only [q, decide_false, Bool.false_and]
    rw [← hp, drop_lo hasc2]
    unfold ahead partOf inSpan
    rw [List.filter_filter]
    apply List.filter_congr
    intro a _
    simp only [Bool.false_or]
def takeInt {α : Type} (l : List α) (n : Int) : List α := l.take n.toNat
theorem c_leaf_Part {x : Value} {l : List Pair} {s : Span} {most : Int} (sl : Sl U h x l) (ha : Asc Pair.key l) (hl : l.length ≤ 2 ^ 40)
    (r : ∀ v' h', Ow h.size t_api_Pair h' v' (if s.empty then [] else takeInt (partOf Pair.key l s) most) → Ext h h' → K v' h') : Ca f_leaf_Part #[x, s.v, int most] h K := by
  refine m_leaf_Part_ok ?_
  refine bxa (cs := s.cs) fun b h1 e1 hb k1 _ => ?_
  refine (LdA_b k1 rfl).2 ?_
  refine c_lex_Empty (s := s) fun h2 e2 => ?_
  have k2 := k1.ext e2
  have e12 := e1.trans e2
  have stop : (s.empty = true ∨ most < 1) → K (.slice none 0 0) h2 := by
    intro hs
    have := r (.slice none 0 0) h2
    have he : (if s.empty then [] else takeInt (partOf Pair.key l s) most) = ([] : List Pair) := by
      rcases hs with hs | hs
      · simp [hs]
      · have : most.toNat = 0 := by omega
        simp [takeInt, this]
    rw [he] at this
    exact this (Ow.nil _ _ _) e12
  refine cd (fun he => ?_) (fun he => ?_)
  · unfold m_leaf_Part_j11; rw [CdP_true]; exact stop (.inl he)
  · rw [BiP_lss]
    unfold m_leaf_Part_j11
    refine cdp (fun hm => stop (.inr hm)) (fun hm => ?_)
    unfold m_leaf_Part_j12
    refine fv (by rw [k2.get]; rfl) ?_
    refine c_find_Pair (sl.ext e12) ha hl fun h3 e3 => ?_
    rw [ex20, ex21]
    have e13 := e12.trans e3
    have k3 := k2.ext e3
    refine sl.len ?_
    refine fv (by rw [k3.get]; rfl) ?_
    rw [UnP_not]
    obtain ⟨p1, p2⟩ := part_take_drop (key := Pair.key) ha s he
    have hpl : pos Pair.key l s.lo ≤ l.length := pos_le
    have fin : ∀ (h4 : Heap) (j : Nat), Ext h h4 → j = (if s.top then l.length else pos Pair.key l s.hi) → j ≤ l.length → m_leaf_Part_j30 x (int most) (int (pos Pair.key l s.lo)) (int j) h4 K := by
      intro h4 j e4 hj hjl
      subst hj
      generalize hJ : (if s.top then l.length else pos Pair.key l s.hi) = j at *
      generalize hI : pos Pair.key l s.lo = i at *
      unfold m_leaf_Part_j30
      refine sl.len (min_int ?_)
      refine add64 (by omega) ?_
      refine min_int ?_
      have hz : (2 : Nat) = El.z Pair := rfl
      have hmi : min (j : Int) ((i : Int) + min most (l.length : Int)) = ((min j (i + most.toNat) : Nat) : Int) := by omega
      rw [hmi]
      refine (sl.ext e4).part (a := i) (b := min j (i + most.toNat)) bnd_nat bnd_nat (by omega) (by omega) fun v' s' => ?_
      refine c_Clone_Pair s' (by simp; omega) fun v5 h5 o5 e5 => ?_
      refine r v5 h5 ?_ (e4.trans e5)
      have : (l.take (min j (i + most.toNat))).drop i = takeInt (partOf Pair.key l s) most := by
        rw [← p1]
        unfold takeInt
        rw [List.take_drop, List.take_take]
        congr 2
        omega
      rw [he]
      simp only [Bool.false_eq_true, if_false]
      rw [← this]
      exact o5.low e4.le
    refine cd (fun ht => ?_) (fun ht => ?_)
    · have ht : s.top = false := by simpa using ht
      refine fv (by rw [k3.get]; rfl) ?_
      refine c_find_Pair (sl.ext e13) ha hl fun h4 e4 => ?_
      rw [ex20, ex21]
      exact fin h4 _ (e13.trans e4) (by simp [ht]) pos_le
    · have ht : s.top = true := by simpa using ht
      exact fin h3 _ e13 (by simp [ht]) (Nat.le_refl _)
end
end Go.Sg
namespace Go.Sg
open Go Vc
def Msg.cs (m : Msg) : List Value := [str m.key, .bool m.del, str m.val]
end Go.Sg
namespace Go.Sg
open Go Vc
section
variable {h : Heap} {K : Kt} {U : Nat → Prop}
theorem c_lex_In {s : Span} {k : Str} (r : ∀ h', Ext h h' → K (.bool (inSpan s k)) h') : Ca f_lex_In #[s.v, str k] h K := by
  obtain ⟨lo, hi, top⟩ := s
  refine m_lex_In_ok (bxa (cs := [str lo, str hi, .bool top]) fun b h1 e1 hb k1 _ => ?_)
  have r := r h1 e1
  unfold inSpan at r
  refine fv (by rw [k1.get]; rfl) ?_
  rw [BiP_sgeq]
  refine cdp (fun hlo => ?_) (fun hlo => ?_)
  · rw [decide_eq_true hlo] at r
    refine fv (by rw [k1.get]; rfl) ?_
    refine cd (fun ht => ?_) (fun ht => ?_)
    · subst ht; exact r
    · subst ht
      refine fv (by rw [k1.get]; rfl) ?_
      rw [BiP_slss]
      unfold m_lex_In_j17
      simpa using r
  · rw [decide_eq_false hlo] at r
    exact ⟨rfl, rfl, rfl, rfl, r⟩
end
end Go.Sg
namespace Go.Sg
open Go Vc
section
variable {h : Heap} {K : Kt} {U : Nat → Prop}
theorem isp {s : Str} {k} {i : Int} {b : UInt8} {R : Value → Prop} (h0 : 0 ≤ i) (hb : s[i.toNat]? = some b) (r : R (.int .u8 b.toNat)) : IsP (str s) (.int k i) R := by
  refine ⟨_, k, i, rfl, rfl, h0, b, ?_, r⟩
  obtain ⟨hl, hv⟩ := List.getElem?_eq_some_iff.1 hb
  have hl2 : i.toNat < (ByteArray.mk s.toArray).size := by simpa [ByteArray.size] using hl
  rw [getElem?_pos (ByteArray.mk s.toArray) i.toNat hl2]
  have : (ByteArray.mk s.toArray)[i.toNat] = s[i.toNat] := rfl
  rw [this, hv]
theorem c_lex_Next {s : Str} (hl : s.length < 2 ^ 40) (r : K (str (s ++ [0])) h) : Ca f_lex_Next #[str s] h K :=
  m_lex_Next_ok (sadd (b := [0]) (by simp; omega) r)
end
end Go.Sg
namespace Go.Sg
open Go Vc
section
variable {K : Value → Prop} {k : IntKind} {a b : Int}
theorem kadd (hw : k.wrap (a + b) = a + b) (r : K (.int k (a + b))) : BiP .add (.int k a) (.int k b) K := ⟨_, by simp [binVal]; rfl, by rw [hw]; exact r⟩
theorem krem (hb : b ≠ 0) (r : K (.int k (a.tmod b))) : BiP .rem (.int k a) (.int k b) K := ⟨_, by simp [binVal, hb], r⟩
theorem kquo (hb : b ≠ 0) (hw : k.wrap (a.tdiv b) = a.tdiv b) (r : K (.int k (a.tdiv b))) : BiP .quo (.int k a) (.int k b) K := ⟨_, by simp [binVal, hb]; rfl, by rw [hw]; exact r⟩
theorem wrap32 {n : Int} (h1 : 0 ≤ n) (h2 : n < 4294967296) : IntKind.wrap .u32 n = n := wrapU rfl h1 (by simpa [IntKind.bits] using h2)
end
def sumStep (p : Nat × Nat) (b : UInt8) : Nat × Nat := ((p.1 + b.toNat) % 65521, (p.2 + (p.1 + b.toNat) % 65521) % 65521)
def sumMore (s : Nat) (l : List UInt8) : Nat :=
  let p := l.foldl sumStep (s % 65536 % 65521, s / 65536 % 65521)
  p.2 * 65536 + p.1
theorem sum_fold_lt (l : List UInt8) : ∀ (p : Nat × Nat), p.1 < 65521 → p.2 < 65521 → (l.foldl sumStep p).1 < 65521 ∧ (l.foldl sumStep p).2 < 65521 := by
  induction l with
  | nil => intro p h1 h2; exact ⟨h1, h2⟩
  | cons b l ih => intro p _ _; exact ih _ (Nat.mod_lt _ (by decide)) (Nat.mod_lt _ (by decide))
theorem tmod_nat (a b : Nat) : ((a : Int)).tmod (b : Int) = ((a % b : Nat) : Int) := (Int.ofNat_tmod a b).symm
theorem tdiv_nat (a b : Nat) : ((a : Int)).tdiv (b : Int) = ((a / b : Nat) : Int) := (Int.ofNat_tdiv a b).symm
section
variable {h : Heap} {K : Kt} {U : Nat → Prop}
theorem shl_or {lo hi : Nat} {R : Value → Prop} (h1 : lo < 65536) (h2 : hi < 65536) (r : R (.int .u32 ((hi * 65536 + lo : Nat) : Int))) :
    BiP .shl (.int .u32 hi) (.int .u64 16) fun x20 => BiP .or x20 (.int .u32 lo) R := by
  have e1 : binVal .shl (.int .u32 (hi : Int)) (.int .u64 16) = some (.int .u32 ((hi * 65536 : Nat) : Int)) := by
    simp only [binVal]
    rw [if_neg (by decide)]
    have : (hi : Int) * 2 ^ (min (Int.toNat 16) (IntKind.bits .u32)) = ((hi * 65536 : Nat) : Int) := by
      have h3 : (2 : Int) ^ (min (Int.toNat 16) (IntKind.bits .u32)) = 65536 := by decide
      rw [h3]; omega
    rw [this, wrap32 (by omega) (by omega)]
  have e2 : binVal .or (.int .u32 ((hi * 65536 : Nat) : Int)) (.int .u32 (lo : Int)) = some (.int .u32 ((hi * 65536 + lo : Nat) : Int)) := by
    have h3 : ((BitVec.ofInt 32 ((hi * 65536 : Nat) : Int) ||| BitVec.ofInt 32 (lo : Int)).toNat : Int) = ((hi * 65536 + lo : Nat) : Int) := by
      rw [BitVec.ofInt_natCast, BitVec.ofInt_natCast, BitVec.toNat_or, BitVec.toNat_ofNat, BitVec.toNat_ofNat, Nat.mod_eq_of_lt (by omega), Nat.mod_eq_of_lt (by omega)]
      have := Nat.two_pow_add_eq_or_of_lt (i := 16) (b := lo) (by omega) hi
      rw [Nat.mul_comm hi 65536]
      exact congrArg Nat.cast this.symm
    simp only [binVal]
    rw [if_neg (by simp)]
    show some (Value.int .u32 (IntKind.wrap .u32 ((BitVec.ofInt 32 ((hi * 65536 : Nat) : Int) ||| BitVec.ofInt 32 (lo : Int)).toNat : Int))) = _
    rw [h3, wrap32 (by omega) (by omega)]
  rw [BiP_some e1, BiP_some e2]; exact r
theorem c_check_More {x : Value} {l : List UInt8} {s : Nat} (sl : Sl U h x l) (hs : s < 4294967296) (hl : l.length ≤ 2 ^ 40) (r : K (.int .u32 (sumMore s l)) h) : Ca f_check_More #[.int .u32 s, x] h K := by
  refine m_check_More_ok ?_
  unfold m_check_More
  refine krem (by decide) ?_
  have q1 : ((s : Int)).tmod 65536 = ((s % 65536 : Nat) : Int) := tmod_nat s 65536
  rw [q1]
  refine krem (by decide) ?_
  have q2 : (((s % 65536 : Nat) : Int)).tmod 65521 = ((s % 65536 % 65521 : Nat) : Int) := tmod_nat _ 65521
  rw [q2]
  have q3 : ((s : Int)).tdiv 65536 = ((s / 65536 : Nat) : Int) := tdiv_nat s 65536
  refine kquo (by decide) (by rw [q3, wrap32 (by omega) (by omega)]) ?_
  rw [q3]
  refine krem (by decide) ?_
  have q4 : (((s / 65536 : Nat) : Int)).tmod 65521 = ((s / 65536 % 65521 : Nat) : Int) := tmod_nat _ 65521
  rw [q4]
  refine sl.len ?_
  have b1 : s % 65536 % 65521 < 65521 := Nat.mod_lt _ (by decide)
  have b2 : s / 65536 % 65521 < 65521 := Nat.mod_lt _ (by decide)
  unfold sumMore at r
  generalize s % 65536 % 65521 = lo0 at *
  generalize s / 65536 % 65521 = hi0 at *
  refine lop (σ := Nat) (fun i => [.int .u32 ((l.take i).foldl sumStep (lo0, hi0)).1, .int .u32 ((l.take i).foldl sumStep (lo0, hi0)).2, int i]) (fun i h' => h' = h ∧ i ≤ l.length) (fun i => l.length - i) 0 (by simp) ⟨rfl, Nat.zero_le _⟩ ?_
  rintro i h1 N ⟨rfl, hi⟩ hN
  have hb := sum_fold_lt (l.take i) (lo0, hi0) b1 b2
  simp only [m_check_More_l7, gv_zero, gv_succ]
  rw [BiP_lss]
  refine cdp (fun hlt => ?_) (fun hge => ?_)
  · have g1 : l[i]? = some l[i] := List.getElem?_eq_getElem (by omega)
    have hnext : (l.take (i + 1)).foldl sumStep (lo0, hi0) = sumStep ((l.take i).foldl sumStep (lo0, hi0)) l[i] := by
      rw [List.take_add_one, g1, List.foldl_append]; rfl
    have hN := hN (i + 1) h1 ⟨rfl, by omega⟩ (by omega)
    rw [hnext] at hN
    generalize (l.take i).foldl sumStep (lo0, hi0) = p at *
    obtain ⟨lo, hi⟩ := p
    simp only at hb
    refine sl.ei (by omega) (by rw [Int.toNat_natCast]; exact g1) rfl ?_
    generalize l[i] = c at *
    have hc := c.toNat_lt
    rw [CvP_int, wrap32 (by omega) (by omega)]
    refine kadd (wrap32 (by omega) (by omega)) ?_
    rw [← Int.natCast_add]
    refine krem (by decide) ?_
    have q5 : (((lo + c.toNat : Nat) : Int)).tmod 65521 = (((lo + c.toNat) % 65521 : Nat) : Int) := tmod_nat _ 65521
    rw [q5]
    have b3 : (lo + c.toNat) % 65521 < 65521 := Nat.mod_lt _ (by decide)
    refine kadd (wrap32 (by omega) (by omega)) ?_
    rw [← Int.natCast_add]
    refine krem (by decide) ?_
    have q6 : (((hi + (lo + c.toNat) % 65521 : Nat) : Int)).tmod 65521 = (((hi + (lo + c.toNat) % 65521) % 65521 : Nat) : Int) := tmod_nat _ 65521
    rw [q6]
    refine add64 (by omega) ?_
    exact hN
  · have : i = l.length := by omega
    subst this
    rw [List.take_length] at *
    unfold m_check_More_j19
    exact shl_or (by omega) (by omega) r
end
end Go.Sg
namespace Go.Sg
open Go Vc
section
variable {α : Type} [El α] {t e : TypeId} {by' : Nat} {h : Heap} {K : Kt} {n0 : Nat}
theorem madeCells_rep {z : Value} {a : α} (hz : z.cells.toList = El.enc a) (n : Nat) : (madeCells z.cells (n * El.z α)).toList = cells (List.replicate n a) := by
  have hsz : z.cells.size = El.z α := by have := congrArg List.length hz; rw [El.len] at this; simpa using this
  rw [← zeroCells_rep hz n]
  unfold madeCells Builtin.zeroCells
  rw [hsz]
theorem mkn (T : SlT α t e by') {n : Nat} {kl kc} {z0 : α} (hz0 : ∀ i z, Pg.info? e = some i → i.zero = some z → z.cells.toList = El.enc z0) (hn : n0 ≤ h.size) (hl : n * El.z α ≤ 2 ^ 24) (hby : by' ≤ 64)
    (r : ∀ g h', g = h.size → Own g n e h' (List.replicate n z0) → Ext h h' → K (.slice (some ⟨g, 0, none⟩) n n) h') : VH Pg (Instr.makeSlice t (.int kl (n : Int)) (.int kc (n : Int))) h K := by
  obtain ⟨i, z, hi, hz, hs, hb, hzs⟩ := T.info
  intro w hw
  subst hw
  have hp := El.pos (α := α)
  have hn24 : n ≤ 2 ^ 24 := Nat.le_trans (Nat.le_mul_of_pos_right n hp) hl
  have hlb : by' * n ≤ 64 * 2 ^ 24 := Nat.mul_le_mul hby hn24
  obtain ⟨w', h1, h2, h3⟩ := run_makeSlice_full (P := Pg) w w.heap.size t e i z (El.z α) T.und hi hz hs kl kc n (by omega) (by rw [hb]; omega) (by simp only [maxLen]; omega) (Nat.le_refl _)
  rw [madeCells_rep (hz0 i z hi hz)] at h2
  have ow : Ow w.heap.size e w'.heap _ (List.replicate n z0) := Ow.of h2
  rcases ow.cases' with ⟨h, _⟩ | ⟨g, cap, hv, hg, ow⟩
  · cases h
  · simp only [List.length_replicate, Value.slice.injEq, Option.some.injEq, Addr.mk.injEq, true_and, and_true] at hv
    obtain ⟨rfl, rfl⟩ := hv
    exact ⟨_, w', h1, grown_kin h3, r _ _ rfl ow ⟨h3.size, fun b hb _ => h3.block b hb (by simp)⟩⟩
end
theorem z_byte : ∀ i z, Pg.info? t_uint8 = some i → i.zero = some z → z.cells.toList = El.enc (0 : UInt8) := by
  have h : (Pg.info? t_uint8).bind (fun i => i.zero.map fun z => z.cells.toList) = some [.int .u8 0] := by kernel_rfl
  intro i z hi hz
  rw [hi] at h
  simp only [Option.bind_some, hz, Option.map_some, Option.some.injEq] at h
  exact h
def Rd (rb : Nat) (h : Heap) (l : List UInt8) (er : Int) : Prop := ∃ v, Blk h rb [v, int er] ∧ Sl (fun b => rb ≤ b) h v l
abbrev only (rb : Nat) : Nat → Prop := fun b => b = rb
theorem Rd.ex {M : Nat → Prop} {rb : Nat} {h h' : Heap} {l : List UInt8} {er : Int} (r : Rd rb h l er) (e : Ex M h h') (hm : ∀ b, b ≤ rb → ¬ M b) : Rd rb h' l er := by
  obtain ⟨v, h1, h2⟩ := r
  refine ⟨v, h1.ex e (hm rb (Nat.le_refl _)), h2.ex e (fun b _ hb => ?_) (fun _ _ x => x)⟩
  exact Nat.le_of_lt (Nat.lt_of_not_le fun hq => hm b hq hb)
theorem Rd.ext {rb h h' l er} (r : Rd rb h l er) (e : Ext h h') : Rd rb h' l er := by
  obtain ⟨v, h1, h2⟩ := r; exact ⟨v, h1.ext e, h2.ext e⟩
section
variable {h : Heap} {K : Kt} {U : Nat → Prop} {rb : Nat} {l : List UInt8} {er : Int}
theorem c_word_right {n : Int} (r : K (.bool (decide (n = 1 ∨ n = 2 ∨ n = 4 ∨ n = 8))) h) : Ca f_word_right #[int n] h K := by
  refine m_word_right_ok ?_
  unfold m_word_right
  rw [BiP_eql]
  refine cdp (fun h1 => ?_) (fun h1 => ?_)
  · rw [decide_eq_true (.inl h1)] at r; exact r
  · rw [BiP_eql]
    refine cdp (fun h2 => ?_) (fun h2 => ?_)
    · rw [decide_eq_true (.inr (.inl h2))] at r; exact r
    · rw [BiP_eql]
      refine cdp (fun h3 => ?_) (fun h3 => ?_)
      · rw [decide_eq_true (.inr (.inr (.inl h3)))] at r; exact r
      · rw [BiP_eql]
        have : decide (n = 1 ∨ n = 2 ∨ n = 4 ∨ n = 8) = decide (n = 8) := by simp [h1, h2, h3]
        rw [this] at r; exact r
theorem c_word_Open {x : Value} (s : Sl U h x l) (hl : l.length ≤ 2 ^ 40) (r : ∀ rb h', rb ≥ h.size → Rd rb h' l 0 → Ext h h' → K (ptr rb 0) h') : Ca f_word_Open #[x] h K := by
  refine m_word_Open_ok (c_Clone_byte s hl fun v1 h1 o1 e1 => ?_)
  have hv : ∃ cs, v1.cells = #[v1] ∧ cs = #[v1] := by
    rcases o1.cases' with ⟨rfl, _⟩ | ⟨g, cap, rfl, _⟩ <;> exact ⟨_, rfl, rfl⟩
  obtain ⟨_, hv, _⟩ := hv
  refine ⟨_, #[v1, int 0], rfl, ?_, ?_⟩
  · rcases o1.cases' with ⟨rfl, _⟩ | ⟨g, cap, rfl, _⟩ <;> rfl
  · refine bxa (cs := [v1, int 0]) fun b h2 e2 hb k2 _ => ?_
    refine r b h2 (by have := e1.le; omega) ⟨v1, k2, ?_⟩ (e1.trans e2)
    exact (o1.sl (U := No) fun _ _ h => h).ex e2 (fun _ _ h => h) (fun x hx hb' => by omega)
theorem c_word_Err (rd : Rd rb h l er) (r : K (int er) h) : Ca f_word_Reader_Err #[ptr rb 0] h K := by
  refine m_word_Reader_Err_ok (eq_ptr_nil (by kernel_rfl) ?_)
  obtain ⟨v, k, s⟩ := rd
  exact fl (by rw [k.get]; rfl) r
theorem c_word_spoil {n : Int} (rd : Rd rb h l er) (r : ∀ h', Rd rb h' [] (if er = 0 then n else er) → Ex (only rb) h h' → K (.tuple #[]) h') : Ca f_word_Reader_spoil #[ptr rb 0, int n] h K := by
  refine m_word_Reader_spoil_ok ?_
  obtain ⟨v, k, s⟩ := rd
  refine fl (by rw [k.get]; rfl) ?_
  rw [BiP_eql]
  have fin : ∀ (h1 : Heap) (v : Value) (er' : Int), er' = (if er = 0 then n else er) → Blk h1 rb [v, int er'] → Ex (only rb) h h1 → m_word_Reader_spoil_j9 (ptr rb 0) h1 K := by
    intro h1 v er' he k1 e1
    unfold m_word_Reader_spoil_j9
    refine Fs_b k1 (by simp) rfl fun h2 _ e2 k2 => r h2 ⟨.slice none 0 0, ?_, Sl.nil _ _⟩ (e1.trans e2)
    rw [← he]; exact k2
  refine cdp (fun h0 => ?_) (fun h0 => ?_)
  · refine Fs_b k (by simp) rfl fun h1 _ e1 k1 => ?_
    exact fin h1 v n (by rw [if_pos h0]) k1 e1
  · exact fin h v er (by rw [if_neg h0]) k (Ex.refl _ _)
theorem Rd.ne {rb : Nat} {h : Heap} {l : List UInt8} {er : Int} (r : Rd rb h l er) : rb < h.size := by obtain ⟨v, h1, _⟩ := r; exact h1.lt
theorem c_word_Raw {n : Nat} (rd : Rd rb h l 0) (hn : n ≤ l.length) (hl : n ≤ 2 ^ 24) (r : ∀ v h', Ow h.size t_uint8 h' v (l.take n) → Rd rb h' (l.drop n) 0 → Ex (only rb) h h' → K v h') : Ca f_word_Reader_Raw #[ptr rb 0, int n] h K := by
  refine m_word_Reader_Raw_ok (eq_ptr_nil (by kernel_rfl) ?_)
  have hrb := rd.ne
  obtain ⟨v, k, s⟩ := rd
  refine fl (by rw [k.get]; rfl) ?_
  rw [BiP_neq]
  refine cdp (fun h => absurd rfl h) fun _ => ?_
  rw [BiP_lss]
  refine cdp (fun h => absurd h (by omega)) fun _ => ?_
  refine fl (by rw [k.get]; rfl) ?_
  refine s.len ?_
  rw [BiP_gtr]
  refine cdp (fun h => absurd h (by omega)) fun _ => ?_
  unfold m_word_Reader_Raw_j22
  refine mkn (n0 := h.size) T_byte z_byte (Nat.le_refl _) (by simpa [El.z] using hl) (by decide) fun g h1 hg o1 e1 => ?_
  have k1 := k.ext e1
  have s1 := s.ext e1
  refine fl (by rw [k1.get]; rfl) ?_
  refine copy_own (k := 0) T_byte o1 s1 (Nat.zero_le _) (by omega) fun h2 o2 e2 => ?_
  have hz : (List.replicate n (0 : UInt8)).take 0 ++ l.take n ++ (List.replicate n (0 : UInt8)).drop (0 + min l.length n) = l.take n := by
    rw [Nat.zero_add, Nat.min_eq_right hn, List.drop_eq_nil_of_le (by simp), List.append_nil]; rfl
  rw [hz] at o2
  have k2 := k1.ex e2 (by omega : ¬ rb = g)
  refine fl (by rw [k2.get]; rfl) ?_
  refine s.part (a := n) (b := l.length) bnd_nat rfl hn (Nat.le_refl _) fun v3 s3 => ?_
  rw [List.take_length] at s3
  have hv3 : one' v3 = true := by obtain ⟨a, cap, rfl, _⟩ := s3.out; rfl
  refine Fs_b k2 (by simp) hv3 fun h3 _ e3 k3 => ?_
  have e02 : Ext h h2 := e1.andThen e2 fun x hx => by omega
  have e03 : Ex (only rb) h h3 := e02.toM.trans e3
  have o3 := o2.ex e3 (by omega : ¬ g = rb)
  have hlen : (l.take n).length = n := by rw [List.length_take]; omega
  refine r _ h3 (o3.ow' (by omega) hlen) ⟨v3, k3, ?_⟩ e03
  exact s3.keep e03 fun b hb => Nat.le_of_eq (Eq.symm hb)
theorem c_word_Raw_short {n : Nat} (rd : Rd rb h l 0) (hn : l.length < n) (r : ∀ h', Rd rb h' [] 5 → Ex (only rb) h h' → K (.slice none 0 0) h') : Ca f_word_Reader_Raw #[ptr rb 0, int n] h K := by
  refine m_word_Reader_Raw_ok (eq_ptr_nil (by kernel_rfl) ?_)
  have rd' := rd
  obtain ⟨v, k, s⟩ := rd
  refine fl (by rw [k.get]; rfl) ?_
  rw [BiP_neq]
  refine cdp (fun h => absurd rfl h) fun _ => ?_
  rw [BiP_lss]
  refine cdp (fun h => absurd h (by omega)) fun _ => ?_
  refine fl (by rw [k.get]; rfl) ?_
  refine s.len ?_
  rw [BiP_gtr]
  refine cdp (fun _ => ?_) fun h => absurd (by omega) h
  exact c_word_spoil rd' fun h' r' e' => r h' r' e'
theorem c_word_Raw_err {n : Int} (rd : Rd rb h l er) (he : er ≠ 0) (r : K (.slice none 0 0) h) : Ca f_word_Reader_Raw #[ptr rb 0, int n] h K := by
  refine m_word_Reader_Raw_ok (eq_ptr_nil (by kernel_rfl) ?_)
  obtain ⟨v, k, s⟩ := rd
  refine fl (by rw [k.get]; rfl) ?_
  rw [BiP_neq]
  refine cdp (fun _ => ?_) fun h => absurd he h
  exact r
end
end Go.Sg
namespace Go.Sg
open Go Vc
def rawOf (l : List UInt8) (er : Int) (n : Nat) : List UInt8 × List UInt8 × Int :=
  if er ≠ 0 then ([], l, er) else if n ≤ l.length then (l.take n, l.drop n, 0) else ([], [], 5)
def numOf (l : List UInt8) : Nat := l.foldl (fun v c => v * 256 + c.toNat) 0
theorem numOf_snoc (l : List UInt8) (c : UInt8) : numOf (l ++ [c]) = numOf l * 256 + c.toNat := by simp [numOf, List.foldl_append]
theorem numOf_lt (l : List UInt8) : numOf l < 256 ^ l.length := by
  generalize hn : l.length = n
  induction n generalizing l with
  | zero => have := List.eq_nil_of_length_eq_zero hn; subst this; simp [numOf]
  | succ n ih =>
    obtain ⟨m, c, rfl⟩ : ∃ m c, l = m ++ [c] := ⟨l.dropLast, l.getLast (by rintro rfl; simp at hn), (List.dropLast_concat_getLast _).symm⟩
    rw [numOf_snoc]
    have := ih m (by simpa using hn)
    have hc := c.toNat_lt
    rw [Nat.pow_succ]; omega
section
variable {h : Heap} {K : Kt} {U : Nat → Prop} {rb : Nat} {l : List UInt8} {er : Int}
theorem c_Raw {n : Nat} (rd : Rd rb h l er) (hl : n ≤ 2 ^ 24) (r : ∀ v h', Ow h.size t_uint8 h' v (rawOf l er n).1 → Rd rb h' (rawOf l er n).2.1 (rawOf l er n).2.2 → Ex (only rb) h h' → K v h') : Ca f_word_Reader_Raw #[ptr rb 0, int n] h K := by
  unfold rawOf at r
  by_cases he : er = 0
  · subst he
    rw [if_neg (by simp)] at r
    by_cases hn : n ≤ l.length
    · rw [if_pos hn] at r; exact c_word_Raw rd hn hl r
    · rw [if_neg hn] at r; exact c_word_Raw_short rd (by omega) fun h' r' e' => r _ _ (Ow.nil _ _ _) r' e'
  · rw [if_pos he] at r
    exact c_word_Raw_err rd he (r _ _ (Ow.nil _ _ _) rd (Ex.refl _ _))
theorem shl8_or {v c : Nat} {R : Value → Prop} (h1 : v < 2 ^ 56) (h2 : c < 256) (r : R (.int .u64 ((v * 256 + c : Nat) : Int))) :
    BiP .shl (.int .u64 v) (.int .u64 8) fun x => BiP .or x (.int .u64 c) R := by
  have w64 : ∀ {n : Int}, 0 ≤ n → n < 18446744073709551616 → IntKind.wrap .u64 n = n := fun a b => wrapU rfl a (by simpa [IntKind.bits] using b)
  have e1 : binVal .shl (.int .u64 (v : Int)) (.int .u64 8) = some (.int .u64 ((v * 256 : Nat) : Int)) := by
    simp only [binVal]
    rw [if_neg (by decide)]
    have : (v : Int) * 2 ^ (min (Int.toNat 8) (IntKind.bits .u64)) = ((v * 256 : Nat) : Int) := by
      have h3 : (2 : Int) ^ (min (Int.toNat 8) (IntKind.bits .u64)) = 256 := by decide
      rw [h3]; omega
    rw [this, w64 (by omega) (by omega)]
  have e2 : binVal .or (.int .u64 ((v * 256 : Nat) : Int)) (.int .u64 (c : Int)) = some (.int .u64 ((v * 256 + c : Nat) : Int)) := by
    have h3 : ((BitVec.ofInt 64 ((v * 256 : Nat) : Int) ||| BitVec.ofInt 64 (c : Int)).toNat : Int) = ((v * 256 + c : Nat) : Int) := by
      rw [BitVec.ofInt_natCast, BitVec.ofInt_natCast, BitVec.toNat_or, BitVec.toNat_ofNat, BitVec.toNat_ofNat, Nat.mod_eq_of_lt (by omega), Nat.mod_eq_of_lt (by omega)]
      have := Nat.two_pow_add_eq_or_of_lt (i := 8) (b := c) (by omega) v
      rw [Nat.mul_comm v 256]
      exact congrArg Nat.cast this.symm
    simp only [binVal]
    rw [if_neg (by simp)]
    show some (Value.int .u64 (IntKind.wrap .u64 ((BitVec.ofInt 64 ((v * 256 : Nat) : Int) ||| BitVec.ofInt 64 (c : Int)).toNat : Int))) = _
    rw [h3, w64 (by omega) (by omega)]
  rw [BiP_some e1, BiP_some e2]; exact r
theorem c_word_Num {n : Nat} (rd : Rd rb h l er) (hn : n = 1 ∨ n = 2 ∨ n = 4 ∨ n = 8) (r : ∀ h', Rd rb h' (rawOf l er n).2.1 (rawOf l er n).2.2 → Ex (only rb) h h' → K (.int .u64 (numOf (rawOf l er n).1)) h') : Ca f_word_Reader_Num #[ptr rb 0, int n] h K := by
  refine m_word_Reader_Num_ok (c_word_right ?_)
  rw [decide_eq_true (by omega), UnP_not, Bool.not_true, CdP_false]
  unfold m_word_Reader_Num_j5
  refine c_Raw rd (by omega) fun v h1 o1 rd1 e1 => ?_
  have hlen : (rawOf l er n).1.length ≤ n := by
    unfold rawOf; split
    · simp
    · split
      · simp; omega
      · simp
  have s1 : Sl No h1 v (rawOf l er n).1 := o1.sl fun _ _ h => h
  have r := r h1 rd1 e1
  generalize (rawOf l er n).1 = q at *
  refine s1.len ?_
  refine lop (σ := Nat) (fun i => [.int .u64 (numOf (q.take i)), int i]) (fun i h' => h' = h1 ∧ i ≤ q.length) (fun i => q.length - i) 0 (by simp [numOf]) ⟨rfl, Nat.zero_le _⟩ ?_
  rintro i h2 N ⟨rfl, hi⟩ hN
  simp only [m_word_Reader_Num_l10, gv_zero, gv_succ]
  rw [BiP_lss]
  refine cdp (fun hlt => ?_) (fun hge => ?_)
  · have g1 : q[i]? = some q[i] := List.getElem?_eq_getElem (by omega)
    have hnext : numOf (q.take (i + 1)) = numOf (q.take i) * 256 + q[i].toNat := by
      rw [List.take_add_one, g1]; exact numOf_snoc _ _
    have hN := hN (i + 1) h2 ⟨rfl, by omega⟩ (by omega)
    rw [hnext] at hN
    have hv := numOf_lt (q.take i)
    have hv2 : numOf (q.take i) < 2 ^ 56 := by
      refine Nat.lt_of_lt_of_le hv ?_
      have h7 : (q.take i).length ≤ 7 := by rw [List.length_take]; omega
      calc 256 ^ (q.take i).length ≤ 256 ^ 7 := Nat.pow_le_pow_right (by decide) h7
        _ = 2 ^ 56 := by decide
    refine s1.ei (by omega) (by rw [Int.toNat_natCast]; exact g1) rfl ?_
    generalize q[i] = c at *
    have hc := c.toNat_lt
    have w64 : IntKind.wrap .u64 (c.toNat : Int) = (c.toNat : Int) := wrapU rfl (by omega) (by simp only [IntKind.bits]; omega)
    have := shl8_or (R := fun x18 => BiP .add (int i) (.int .i64 1) fun x19 => N [x18, x19] h2) hv2 (by omega : c.toNat < 256) (add64 (by omega) (by simpa using hN))
    simp only [CvP_int, w64]
    exact this
  · have : i = q.length := by omega
    subst this
    unfold m_word_Reader_Num_j20
    rw [List.take_length]; exact r
end
end Go.Sg
namespace Go.Sg
open Go Vc
def bytesOf : Nat → Nat → List UInt8
  | 0, _ => []
  | w + 1, v => UInt8.ofNat (v / 256 ^ w) :: bytesOf w v
theorem bytesOf_length (w v : Nat) : (bytesOf w v).length = w := by induction w with
  | zero => rfl
  | succ w ih => simp [bytesOf, ih]
section
variable {h : Heap} {K : Kt} {U : Nat → Prop}
theorem c_word_Put {x : Value} {l : List UInt8} {w v : Nat} (s : Sl U h x l) (hw : w = 1 ∨ w = 2 ∨ w = 4 ∨ w = 8) (hv : v < 2 ^ 64) (hl : l.length ≤ 2 ^ 39) (r : ∀ y h', Ow h.size t_uint8 h' y (l ++ bytesOf w v) → Ext h h' → K y h') :
    Ca f_word_Put #[x, int w, .int .u64 v] h K := by
  refine m_word_Put_ok (c_Clone_byte s (by omega) fun y1 h1 o1 e1 => ?_)
  refine c_word_right ?_
  rw [decide_eq_true (by omega), UnP_not, Bool.not_true, CdP_false]
  refine sub64 (by omega) ?_
  refine lop (σ := Nat × Value × List UInt8) (fun p => [p.2.1, int ((p.1 : Int) - 1)]) (fun p h' => Ext h h' ∧ p.1 ≤ 8 ∧ Ow h.size t_uint8 h' p.2.1 p.2.2 ∧ p.2.2 ++ bytesOf p.1 v = l ++ bytesOf w v ∧ p.2.2.length + p.1 ≤ l.length + 8) (fun p => p.1) (w, y1, l) rfl ⟨e1, by show w ≤ 8; omega, o1, rfl, by show l.length + w ≤ l.length + 8; omega⟩ ?_
  rintro ⟨n, y, q⟩ h2 N ⟨e2, hn, o2, hq, hlen⟩ hN
  simp only at e2 hn o2 hq hlen
  simp only [m_word_Put_l8, gv_zero, gv_succ]
  rw [BiP_geq]
  refine cdp (fun hpos => ?_) (fun hz => ?_)
  · obtain ⟨i, rfl⟩ : ∃ i, n = i + 1 := ⟨n - 1, by omega⟩
    have hi : (((i + 1 : Nat) : Int) - 1) = (i : Int) := by omega
    rw [hi]
    refine mul64 (by omega) ?_
    have e3 : binVal .shr (.int .u64 (v : Int)) (int (8 * (i : Int))) = some (.int .u64 ((v / 256 ^ i : Nat) : Int)) := by
      have h1 : (2 : Int) ^ (min (8 * (i : Int)).toNat (IntKind.bits .u64)) = ((256 ^ i : Nat) : Int) := by
        have : min (8 * (i : Int)).toNat (IntKind.bits .u64) = 8 * i := by simp only [IntKind.bits]; omega
        rw [this, Int.pow_mul]
        norm_cast
      simp only [binVal]
      rw [if_neg (by omega), h1, Int.fdiv_eq_ediv_of_nonneg _ (Int.natCast_nonneg _)]
      norm_cast
    rw [BiP_some e3, CvP_int]
    have e4 : IntKind.wrap .u8 ((v / 256 ^ i : Nat) : Int) = ((UInt8.ofNat (v / 256 ^ i)).toNat : Int) := by
      simp only [IntKind.wrap, IntKind.signed, IntKind.bits, Bool.false_and, Bool.false_eq_true, if_false]
      rw [UInt8.toNat_ofNat']
      omega
    rw [e4]
    refine bs (n0 := h2.size) (e := t_uint8) [UInt8.ofNat (v / 256 ^ i)] rfl (Nat.le_refl _) rfl (by decide) (by kernel_rfl) rfl fun y3 h3 o3 e3 => ?_
    refine app T_byte (o2.ext e3) (o3.sl (U := No) fun _ _ h => h) (Nat.le_trans e2.le e3.le) (by simp; omega) (by decide) fun y4 h4 o4 e4 _ => ?_
    refine sub64 (by omega) ?_
    refine hN (i, y4, q ++ [UInt8.ofNat (v / 256 ^ i)]) h4 ⟨(e2.trans e3).own e4 (Nat.le_refl _), by omega, o4, ?_, by simp; omega⟩ (by omega)
    simp only
    rw [← hq, bytesOf]; simp
  · have : n = 0 := by omega
    subst this
    unfold m_word_Put_j20
    rw [bytesOf, List.append_nil] at hq
    rw [hq] at o2
    exact r _ _ o2 e2
end
section
variable {h : Heap} {K : Kt} {U : Nat → Prop} {x fv : Value}
def Tst {α : Type} (h0 : Heap) (fv : Value) (ev : α → Value) (p : α → Bool) : Prop := ∀ a h' (R : Kt), Ext h0 h' → (∀ h'', Ext h' h'' → R (.bool (p a)) h'') → CvH Pg fv #[ev a] h' R
theorem index_gen {α : Type} [El α] {E : Value → Value → Heap → (Value → Prop) → Prop} {ev : α → Value} {p : α → Bool} {l : List α}
    (he : ∀ h' (i : Int) a (R : Value → Prop), Sl U h' x l → 0 ≤ i → l[i.toNat]? = some a → R (ev a) → E x (int i) h' R) (hc : Tst h fv ev p)
    (s : Sl U h x l) (hl : l.length ≤ 2 ^ 40) (r : ∀ i h', Ext h h' → (0 ≤ i ↔ l.any p = true) → K (int i) h') :
    LenP (some true) x fun x2 => LoP (fun vs h nx4 => BiP .lss (gv vs 1) x2 fun x5 => CdP x5
      (E x (gv vs 1) h fun x8 => CvH Pg fv #[x8] h fun x10 h9 => CdP x10 (K (gv vs 1) h9)
        (BiP .add (gv vs 1) (.int .i64 1) fun x11 => nx4 [(gv vs 0), x11] h9)) (K (.int .i64 (-1)) h)) [(.int .i64 0), (.int .i64 0)] h := by
  refine s.len ?_
  refine lop (σ := Nat) (fun i => [int 0, int i]) (fun i h' => Ext h h' ∧ i ≤ l.length ∧ (l.take i).any p = false) (fun i => l.length - i) 0 rfl ⟨Ex.refl _ _, Nat.zero_le _, by simp⟩ ?_
  rintro i h1 N ⟨e1, hi, hn⟩ hN
  simp only [gv_zero, gv_succ]
  rw [BiP_lss]
  refine cdp (fun hlt => ?_) (fun hge => ?_)
  · have g1 : l[i]? = some l[i] := List.getElem?_eq_getElem (by omega)
    refine he _ _ l[i] _ (s.ext e1) (by omega) (by rw [Int.toNat_natCast]; exact g1) ?_
    refine hc _ _ _ e1 fun h2 e2 => ?_
    refine cd (fun hp => ?_) (fun hp => ?_)
    · exact r i h2 (e1.trans e2) ⟨fun _ => List.any_eq_true.2 ⟨l[i], List.getElem_mem _, hp⟩, fun _ => by omega⟩
    · refine add64 (by omega) ?_
      refine hN (i + 1) h2 ⟨e1.trans e2, by omega, ?_⟩ (by omega)
      rw [List.take_add_one, g1, List.any_append, hn]; simpa using hp
  · have : i = l.length := by omega
    subst this
    rw [List.take_length] at hn
    exact r (-1) h1 e1 ⟨fun h => by omega, fun h => by rw [hn] at h; cases h⟩
def byteV (b : UInt8) : Value := .int .u8 b.toNat
theorem c_ContainsFunc_byte {l : List UInt8} {p : UInt8 → Bool} (hc : Tst h fv byteV p) (s : Sl U h x l) (hl : l.length ≤ 2 ^ 40) (r : ∀ h', Ext h h' → K (.bool (l.any p)) h') : Ca f_slices_ContainsFunc_byte #[x, fv] h K :=
  m_slices_ContainsFunc_byte_ok (m_slices_IndexFunc_byte_ok (index_gen (K := fun x2 h1 => BiP .geq x2 (.int .i64 0) fun x3 => K x3 h1) (E := Ei 1) (ev := byteV) (p := p) (l := l) (fun h' i a R s h0 ha r => Sl.ei s h0 ha rfl r) hc s hl fun i h' e hi => by
    rw [BiP_geq]
    have : decide (0 ≤ i) = l.any p := by
      by_cases h0 : 0 ≤ i
      · rw [decide_eq_true h0, hi.1 h0]
      · rw [decide_eq_false h0]; cases hq : l.any p with
        | false => rfl
        | true => exact absurd (hi.2 hq) h0
    rw [this]; exact r h' e))
theorem tst_nonzero1 {h0 : Heap} : Tst h0 (.func (.func f_word_Reader_Zeros_1) #[] #[]) byteV (fun c => decide (c ≠ 0)) := by
  intro a h R _ r
  refine cvh (by kernel_rfl) (m_word_Reader_Zeros_1_ok ?_)
  unfold m_word_Reader_Zeros_1 byteV
  rw [BiP_neq]
  have r := r h (Ex.refl _ _)
  have : decide ((a.toNat : Int) ≠ 0) = decide (a ≠ 0) := by
    by_cases h0 : a = 0
    · subst h0; rfl
    · have : a.toNat ≠ 0 := fun e => h0 (UInt8.toNat_inj.1 (by simpa using e))
      simp [h0, this]
  rw [this]; exact r
theorem tst_nonzero2 {h0 : Heap} : Tst h0 (.func (.func f_word_Reader_Text_1) #[] #[]) byteV (fun c => decide (c ≠ 0)) := by
  intro a h R _ r
  refine cvh (by kernel_rfl) (m_word_Reader_Text_1_ok ?_)
  unfold m_word_Reader_Text_1 byteV
  rw [BiP_neq]
  have r := r h (Ex.refl _ _)
  have : decide ((a.toNat : Int) ≠ 0) = decide (a ≠ 0) := by
    by_cases h0 : a = 0
    · subst h0; rfl
    · have : a.toNat ≠ 0 := fun e => h0 (UInt8.toNat_inj.1 (by simpa using e))
      simp [h0, this]
  rw [this]; exact r
end
end Go.Sg
namespace Go.Sg
open Go Vc
section
variable {h : Heap} {K : Kt} {U : Nat → Prop} {x : Value} {rb : Nat} {l : List UInt8} {er : Int}
theorem cv_str (s : Sl U h x l) (r : K (str l) h) : VH Pg (convert t_S_uint8 t_string x) h K := by
  refine vh_pure (v := str l) (fun w hw => ?_) r
  subst hw
  obtain ⟨a, cap, rfl, ⟨rfl, rfl⟩ | ⟨b, o, rfl, hc⟩⟩ := s.cells
  · exact run_convert_bytes_nil w t_S_uint8 t_uint8 T_byte.und (by kernel_rfl) _ _ t_string (by kernel_rfl)
  · have := run_convert_bytes_arg (P := Pg) w t_S_uint8 t_uint8 T_byte.und (by kernel_rfl) b o l.length cap (l.map fun c => (c.toNat : Int)) (by simp) (fun i hi => by
      rw [cell_hget]
      have g := hc i (.int .u8 (l[i].toNat : Int)) (by
        have := cells_get (List.getElem?_eq_getElem hi) 0 (El.pos (α := UInt8))
        have hz : El.z UInt8 = 1 := rfl
        rw [hz, Nat.mul_one, Nat.add_zero] at this
        rw [this]; rfl)
      rw [g]
      simp [List.getD_eq_getElem?_getD, hi]) t_string (by kernel_rfl)
    rw [this]
    have e : strOfNums (l.map fun c => (c.toNat : Int)) = ⟨l.toArray⟩ := by
      unfold strOfNums
      rw [List.map_map]
      have : ((fun n : Int => UInt8.ofNat n.toNat) ∘ fun c : UInt8 => (c.toNat : Int)) = id := by
        funext c; simp
      rw [this, List.map_id]
    rw [e]; rfl
def spoilOf (l : List UInt8) (er n : Int) : List UInt8 × Int := ([], if er = 0 then n else er)
def zerosOf (l : List UInt8) (er : Int) (n : Nat) : List UInt8 × Int :=
  if (rawOf l er n).1.any (fun c => decide (c ≠ 0)) then spoilOf (rawOf l er n).2.1 (rawOf l er n).2.2 3 else ((rawOf l er n).2.1, (rawOf l er n).2.2)
theorem c_word_Zeros {n : Nat} (rd : Rd rb h l er) (hn : n ≤ 2 ^ 24) (r : ∀ h', Rd rb h' (zerosOf l er n).1 (zerosOf l er n).2 → Ex (only rb) h h' → K (.tuple #[]) h') : Ca f_word_Reader_Zeros #[ptr rb 0, int n] h K := by
  refine m_word_Reader_Zeros_ok (c_Raw rd hn fun v h1 o1 rd1 e1 => ?_)
  have hlen : (rawOf l er n).1.length ≤ n := by
    unfold rawOf; split
    · simp
    · split
      · simp; omega
      · simp
  unfold zerosOf at r
  refine c_ContainsFunc_byte tst_nonzero1 (o1.sl (U := No) fun _ _ h => h) (by omega) fun h2 e2 => ?_
  have rd2 := rd1.ext e2
  have e12 : Ex (only rb) h h2 := e1.trans e2.toM
  refine cd (fun hp => ?_) (fun hp => ?_)
  · rw [if_pos hp] at r
    exact c_word_spoil rd2 fun h3 rd3 e3 => r h3 rd3 (e12.trans e3)
  · rw [if_neg (by rw [hp]; simp)] at r
    exact r h2 rd2 e12
def textOf (l : List UInt8) (er : Int) (n m : Nat) : Str × List UInt8 × Int :=
  if m < n then ([], spoilOf l er 2)
  else if (rawOf l er m).1.length < m then ([], (rawOf l er m).2)
  else if ((rawOf l er m).1.drop n).any (fun c => decide (c ≠ 0)) then ([], spoilOf (rawOf l er m).2.1 (rawOf l er m).2.2 3)
  else ((rawOf l er m).1.take n, (rawOf l er m).2)
theorem c_word_Text {n m : Nat} (rd : Rd rb h l er) (hm : m ≤ 2 ^ 24) (hn : n < 2 ^ 62) (r : ∀ h', Rd rb h' (textOf l er n m).2.1 (textOf l er n m).2.2 → Ex (only rb) h h' → K (str (textOf l er n m).1) h') : Ca f_word_Reader_Text #[ptr rb 0, int n, int m] h K := by
  refine m_word_Reader_Text_ok (eq_ptr_nil (by kernel_rfl) ?_)
  show CdP (.bool false) _ _
  rw [CdP_false, BiP_lss]
  unfold textOf at r
  refine cdp (fun h => absurd h (by omega)) fun _ => ?_
  rw [BiP_gtr]
  unfold m_word_Reader_Text_j9
  refine cdp (fun hmn => ?_) (fun hmn => ?_)
  · rw [if_pos (by omega)] at r
    exact c_word_spoil rd fun h1 rd1 e1 => r h1 rd1 e1
  · rw [if_neg (by omega)] at r
    unfold m_word_Reader_Text_j12
    refine c_Raw rd hm fun v h1 o1 rd1 e1 => ?_
    have s1 : Sl No h1 v (rawOf l er m).1 := o1.sl fun _ _ h => h
    have hlen : (rawOf l er m).1.length ≤ m := by
      unfold rawOf; split
      · simp
      · split
        · simp; omega
        · simp
    refine s1.len ?_
    rw [BiP_lss]
    refine cdp (fun hlt => ?_) (fun hge => ?_)
    · rw [if_pos (by omega)] at r
      exact r h1 rd1 e1
    · rw [if_neg (by omega)] at r
      refine s1.part (a := n) (b := (rawOf l er m).1.length) bnd_nat rfl (by omega) (Nat.le_refl _) fun v2 s2 => ?_
      rw [List.take_length] at s2
      refine c_ContainsFunc_byte tst_nonzero2 s2 (by simp; omega) fun h2 e2 => ?_
      have rd2 := rd1.ext e2
      have e12 : Ex (only rb) h h2 := e1.trans e2.toM
      refine cd (fun hp => ?_) (fun hp => ?_)
      · rw [if_pos hp] at r
        exact c_word_spoil rd2 fun h3 rd3 e3 => r h3 rd3 (e12.trans e3)
      · rw [if_neg (by rw [hp]; simp)] at r
        refine s1.part (a := 0) (b := n) rfl bnd_nat (Nat.zero_le _) (by omega) fun v3 s3 => ?_
        rw [List.drop_zero] at s3
        exact cv_str (s3.ext e2) (r h2 rd2 e12)
end
end Go.Sg
namespace Go.Sg
open Go Vc
structure Config where
  blocks : Int
  bytes : Int
  frames : Int
  fan : Int
  buffer : Int
  leaf : Int
  key : Int
  val : Int
deriving DecidableEq
def Config.cs (c : Config) : List Value := [int c.blocks, int c.bytes, int c.frames, int c.fan, int c.buffer, int c.leaf, int c.key, int c.val]
def Config.v (c : Config) : Value := .agg c.cs.toArray
def Config.Sized (c : Config) : Prop := 8 ≤ c.fan ∧ c.fan ≤ 64 ∧ 2 * c.fan ≤ c.buffer ∧ c.buffer ≤ 512 ∧ c.buffer ≤ c.leaf ∧ c.leaf ≤ 1024 ∧ 1 ≤ c.key ∧ c.key ≤ 64 ∧ 0 ≤ c.val ∧ c.val ≤ 256
instance (c : Config) : Decidable c.Sized := by unfold Config.Sized; infer_instance
section
variable {h : Heap} {K : Kt} {c : Config}
theorem c_conf_sized (r : ∀ h', Ext h h' → K (.bool (decide c.Sized)) h') : Ca f_conf_sized #[c.v] h K := by
  refine m_conf_sized_ok (bxa (cs := c.cs) fun b h1 e1 hb k _ => ?_)
  have r := r h1 e1
  have no : ¬ c.Sized → m_conf_sized_j59 h1 K := fun hn => by rw [decide_eq_false hn] at r; exact r
  have L : ∀ {i : Nat} {v : Value} {R : Value → Prop}, c.cs[i]? = some v → R v → Fv i (ptr b 0) h1 R := fun hi hr => fv (by rw [k.get, Nat.zero_add]; exact hi) hr
  have two : ∀ {A B : Prop} {x : Prop} [Decidable x] (J : Value → Prop), (A → B) → True := fun _ _ => trivial
  refine L rfl ?_
  rw [BiP_lss]
  have j13 : ∀ (x : Bool), (x = true → ¬ c.Sized) → (x = false → 8 ≤ c.fan ∧ c.fan ≤ 64) → m_conf_sized_j13 (ptr b 0) (.bool x) h1 K := by
    intro x hx1 hx2
    unfold m_conf_sized_j13
    refine cd (fun h => no (hx1 h)) fun h => ?_
    obtain ⟨q1, q2⟩ := hx2 h
    refine L rfl (L rfl ?_)
    refine mul64 (by omega) ?_
    rw [BiP_lss]
    have j26 : ∀ (x : Bool), (x = true → ¬ c.Sized) → (x = false → 2 * c.fan ≤ c.buffer ∧ c.buffer ≤ 512) → m_conf_sized_j26 (ptr b 0) (.bool x) h1 K := by
      intro x hx1 hx2
      unfold m_conf_sized_j26
      refine cd (fun h => no (hx1 h)) fun h => ?_
      obtain ⟨q3, q4⟩ := hx2 h
      refine L rfl (L rfl ?_)
      rw [BiP_lss]
      have j38 : ∀ (x : Bool), (x = true → ¬ c.Sized) → (x = false → c.buffer ≤ c.leaf ∧ c.leaf ≤ 1024) → m_conf_sized_j38 (ptr b 0) (.bool x) h1 K := by
        intro x hx1 hx2
        unfold m_conf_sized_j38
        refine cd (fun h => no (hx1 h)) fun h => ?_
        obtain ⟨q5, q6⟩ := hx2 h
        refine L rfl ?_
        rw [BiP_lss]
        have j48 : ∀ (x : Bool), (x = true → ¬ c.Sized) → (x = false → 1 ≤ c.key ∧ c.key ≤ 64) → m_conf_sized_j48 (ptr b 0) (.bool x) h1 K := by
          intro x hx1 hx2
          unfold m_conf_sized_j48
          refine cd (fun h => no (hx1 h)) fun h => ?_
          obtain ⟨q7, q8⟩ := hx2 h
          refine L rfl ?_
          rw [BiP_lss]
          have j58 : ∀ (x : Bool), (x = true → ¬ c.Sized) → (x = false → c.Sized) → m_conf_sized_j58 (.bool x) h1 K := by
            intro x hx1 hx2
            unfold m_conf_sized_j58
            refine cd (fun h => no (hx1 h)) fun h => ?_
            rw [decide_eq_true (hx2 h)] at r; exact r
          refine cdp (fun h => j58 true (fun _ s => by unfold Config.Sized at s; omega) (fun h => by cases h)) fun h => L rfl ?_
          rw [BiP_gtr]
          exact j58 _ (fun h s => by have := of_decide_eq_true h; unfold Config.Sized at s; omega) (fun h => by have := of_decide_eq_false h; unfold Config.Sized; omega)
        refine cdp (fun h => j48 true (fun _ s => by unfold Config.Sized at s; omega) (fun h => by cases h)) fun h => L rfl ?_
        rw [BiP_gtr]
        exact j48 _ (fun h s => by have := of_decide_eq_true h; unfold Config.Sized at s; omega) (fun h => by have := of_decide_eq_false h; omega)
      refine cdp (fun h => j38 true (fun _ s => by unfold Config.Sized at s; omega) (fun h => by cases h)) fun h => L rfl ?_
      rw [BiP_gtr]
      exact j38 _ (fun h s => by have := of_decide_eq_true h; unfold Config.Sized at s; omega) (fun h => by have := of_decide_eq_false h; omega)
    refine cdp (fun h => j26 true (fun _ s => by unfold Config.Sized at s; omega) (fun h => by cases h)) fun h => L rfl ?_
    rw [BiP_gtr]
    exact j26 _ (fun h s => by have := of_decide_eq_true h; unfold Config.Sized at s; omega) (fun h => by have := of_decide_eq_false h; omega)
  refine cdp (fun h => j13 true (fun _ s => by unfold Config.Sized at s; omega) (fun h => by cases h)) fun h => L rfl ?_
  rw [BiP_gtr]
  exact j13 _ (fun h s => by have := of_decide_eq_true h; unfold Config.Sized at s; omega) (fun h => by have := of_decide_eq_false h; omega)
def Config.inner (c : Config) : Int := if c.Sized then 8 + 4 * c.fan + (c.fan - 1) * (1 + c.key) + c.buffer * (4 + c.key + c.val) else 0
def Config.outer (c : Config) : Int := if c.Sized then 8 + c.leaf * (3 + c.key + c.val) else 0
def Config.move (c : Config) : Int := if c.Sized then (c.buffer + 2 * c.fan - 1) / (2 * c.fan) else 0
theorem mul_bd {a b m n : Int} (ha : 0 ≤ a ∧ a ≤ m) (hb : 0 ≤ b ∧ b ≤ n) : 0 ≤ a * b ∧ a * b ≤ m * n :=
  ⟨Int.mul_nonneg ha.1 hb.1, Int.mul_le_mul ha.2 hb.2 hb.1 (by omega)⟩
theorem c_conf_Inner (r : ∀ h', Ext h h' → K (int c.inner) h') : Ca f_conf_Inner #[c.v] h K := by
  refine m_conf_Inner_ok (bxa (cs := c.cs) fun b h1 e1 hb k _ => ?_)
  refine (LdA_b k rfl).2 (c_conf_sized (c := c) fun h2 e2 => ?_)
  have k2 := k.ext e2
  have r := r h2 (e1.trans e2)
  have L : ∀ {i : Nat} {v : Value} {R : Value → Prop}, c.cs[i]? = some v → R v → Fv i (ptr b 0) h2 R := fun hi hr => fv (by rw [k2.get, Nat.zero_add]; exact hi) hr
  unfold Config.inner at r
  rw [UnP_not]
  refine cd (fun hs => ?_) (fun hs => ?_)
  · rw [if_neg (by simpa using hs)] at r; exact r
  · have hs : c.Sized := by simpa using hs
    rw [if_pos hs] at r
    unfold Config.Sized at hs
    have m1 := mul_bd (a := c.fan - 1) (b := 1 + c.key) (m := 63) (n := 65) (by omega) (by omega)
    have m2 := mul_bd (a := c.buffer) (b := 4 + c.key + c.val) (m := 512) (n := 324) (by omega) (by omega)
    refine L rfl (mul64 (by omega) (add64 (by omega) (L rfl (sub64 (by omega) (L rfl (add64 (by omega) (mul64 (by omega) (add64 (by omega) ?_))))))))
    refine L rfl (L rfl (add64 (by omega) (L rfl (add64 (by omega) (mul64 (by omega) (add64 (by omega) ?_))))))
    exact r
theorem c_conf_Outer (r : ∀ h', Ext h h' → K (int c.outer) h') : Ca f_conf_Outer #[c.v] h K := by
  refine m_conf_Outer_ok (bxa (cs := c.cs) fun b h1 e1 hb k _ => ?_)
  refine (LdA_b k rfl).2 (c_conf_sized (c := c) fun h2 e2 => ?_)
  have k2 := k.ext e2
  have r := r h2 (e1.trans e2)
  have L : ∀ {i : Nat} {v : Value} {R : Value → Prop}, c.cs[i]? = some v → R v → Fv i (ptr b 0) h2 R := fun hi hr => fv (by rw [k2.get, Nat.zero_add]; exact hi) hr
  unfold Config.outer at r
  rw [UnP_not]
  refine cd (fun hs => ?_) (fun hs => ?_)
  · rw [if_neg (by simpa using hs)] at r; exact r
  · have hs : c.Sized := by simpa using hs
    rw [if_pos hs] at r
    unfold Config.Sized at hs
    have m1 := mul_bd (a := c.leaf) (b := 3 + c.key + c.val) (m := 1024) (n := 323) (by omega) (by omega)
    exact L rfl (L rfl (add64 (by omega) (L rfl (add64 (by omega) (mul64 (by omega) (add64 (by omega) r))))))
end
end Go.Sg
namespace Go.Sg
open Go Vc
section
variable {h : Heap} {K : Value → Prop} {X : XS} {b : Nat} {cs : List Value}
theorem LaX_b {n : Nat} (k : Blk h b cs) (hn : cs.length = n) (hX : ∀ o, X b o) (r : K (.agg cs.toArray)) : LaX X n (ptr b 0) h K :=
  ⟨b, 0, cs, rfl, hn, fun j v e => ⟨hX _, by rw [k.get]; simpa using e⟩, r⟩
theorem LdX_b {o : Nat} {v : Value} (k : Blk h b cs) (hv : cs[o]? = some v) (hX : ∀ o, X b o) (r : K v) : LdX X (ptr b o) h K :=
  ⟨b, o, v, rfl, hX _, by rw [k.get]; exact hv, r⟩
theorem agr_b {M : Nat → Prop} {h' : Heap} (e : Ex M h h') (hb : b < h.size) (hm : ¬ M b) : Agr (fun b' _ => b' = b) h h' := by
  rintro x o rfl
  exact hget_eq (e.eq _ hb hm) o
end
section
variable {h : Heap} {K : Kt} {c : Config} {ts : Array TypeId} {t : TypeId}
theorem max_int3 {k} {a b d : Int} (r : K (.int k (max (max a b) d)) h) : VH Pg (Builtin.max_ ts t #[.int k a, .int k b, .int k d]) h K := by
  refine vh_pure (fun w _ => ?_) r
  have e1 : (if b > a then b else a) = max a b := by omega
  have e2 : (if d > max a b then d else max a b) = max (max a b) d := by omega
  simp [Builtin.max_, Builtin.max2, e1, e2]
def Config.leastBytes (c : Config) : Int := max (max 64 c.inner) c.outer
def Config.least (c : Config) : Config := if c.Sized then { c with bytes := c.leastBytes } else c
theorem c_conf_Least (r : ∀ h', Ext h h' → K c.least.v h') : Ca f_conf_Least #[c.v] h K := by
  refine m_conf_Least_ok (bxa (cs := c.cs) fun b h1 e1 hb k _ => ?_)
  refine ala fun b2 h2 e2 hb2 k2 _ => ?_
  have k := k.ext e2
  have e12 := e1.trans e2
  refine (LdA_b k rfl).2 (c_conf_sized (c := c) fun h3 e3 => ?_)
  have k := k.ext e3
  have k2 := k2.ext e3
  have e13 := e12.trans e3
  have fin : ∀ (h5 : Heap) (d : Config), d = c.least → Blk h5 b d.cs → (∃ z, Blk h5 b2 z ∧ z.length = 8) → Ext h h5 → m_conf_Least_j20 (ptr b 0) (ptr b2 0) h5 K := by
    intro h5 d hd kd ⟨z, kz, hz⟩ e5
    unfold m_conf_Least_j20
    refine (LdA_b kd rfl).2 ?_
    refine StA_b (vs := d.cs) kz hz rfl rfl fun h6 _ e6 k6 => ?_
    refine (LdA_b k6 rfl).2 ?_
    subst hd
    exact r h6 (e5.andThen e6 fun x hx => by have := e1.le; omega)
  refine cdp (fun hs => ?_) (fun hs => ?_)
  · refine ⟨fun b' _ => b' = b, ?_⟩
    refine LaX_b k rfl (fun _ => rfl) (LaX_b k rfl (fun _ => rfl) ?_)
    refine c_conf_Inner (c := c) fun h4 e4 => ⟨agr_b e4 k.lt (fun x => x), ?_⟩
    refine c_conf_Outer (c := c) fun h5 e5 => ⟨trivial, ?_⟩
    refine max_int3 ⟨trivial, ?_⟩
    rw [FaP_ptr]
    have e35 := e4.trans e5
    refine StP_b (k.ext e35) (by simp [Config.cs]) rfl fun h6 _ e6 k6 => ⟨trivial, ?_⟩
    refine fin h6 { c with bytes := c.leastBytes } (by unfold Config.least; rw [if_pos hs]) k6 ⟨_, (k2.ext e35).ex e6 (by omega), rfl⟩ ((e13.trans e35).andThen e6 fun x hx => by omega)
  · exact fin h3 c (by unfold Config.least; rw [if_neg hs]) k ⟨_, k2, rfl⟩ e13
def Config.Right (c : Config) : Prop := c.Sized ∧ 5 ≤ c.blocks ∧ c.blocks ≤ 65536 ∧ 8 ≤ c.frames ∧ c.frames ≤ 64 ∧ c.bytes ≤ 65536 ∧ c.leastBytes ≤ c.bytes
instance (c : Config) : Decidable c.Right := by unfold Config.Right; infer_instance
theorem c_conf_Check (r : ∀ h', Ext h h' → K (int (if c.Right then 0 else 2)) h') : Ca f_conf_Check #[c.v] h K := by
  refine m_conf_Check_ok (bxa (cs := c.cs) fun b h1 e1 hb k _ => ?_)
  refine (LdA_b k rfl).2 (c_conf_sized (c := c) fun h2 e2 => ?_)
  have k := k.ext e2
  have e12 := e1.trans e2
  have no : ∀ h', Ext h h' → ¬ c.Right → m_conf_Check_j53 (.bool true) h' K := fun h' e hn => by
    have r := r h' e; rw [if_neg hn] at r; exact r
  have L : ∀ {i : Nat} {v : Value} {R : Value → Prop}, c.cs[i]? = some v → R v → Fv i (ptr b 0) h2 R := fun hi hr => fv (by rw [k.get, Nat.zero_add]; exact hi) hr
  have j33 : ∀ (x : Bool), (x = false → ¬ c.Right) → (x = true → c.Sized ∧ 5 ≤ c.blocks ∧ c.blocks ≤ 65536 ∧ 8 ≤ c.frames ∧ c.frames ≤ 64) → m_conf_Check_j33 (ptr b 0) (.bool x) h2 K := by
    intro x hx1 hx2
    unfold m_conf_Check_j33
    refine ⟨fun b' _ => b' = b, ?_⟩
    rw [UnP_not]
    refine cd (fun hx => no _ e12 (hx1 (by simpa using hx))) fun hx => ?_
    have hq := hx2 (by simpa using hx)
    rw [FaP_ptr]
    refine LdX_b k rfl (fun _ => rfl) ?_
    rw [BiP_gtr]
    refine cdp (fun hb => no _ e12 fun s => by have := s.2.2.2.2.2.1; omega) fun hb => ?_
    rw [FaP_ptr]
    refine LdX_b k rfl (fun _ => rfl) (LaX_b k rfl (fun _ => rfl) ?_)
    refine c_conf_Least (c := c) fun h3 e3 => ⟨agr_b e3 k.lt (fun x => x), ?_⟩
    refine ⟨c.least.cs.toArray, int c.least.bytes, rfl, rfl, ?_⟩
    show BiP .lss (int c.bytes) (int c.least.bytes) _
    rw [BiP_lss]
    have hlb : c.least.bytes = c.leastBytes := by unfold Config.least; rw [if_pos hq.1]
    rw [hlb]
    unfold m_conf_Check_j53
    have r := r h3 (e12.trans e3)
    refine cdp (fun hlt => ?_) (fun hge => ?_)
    · have hr : ¬ c.Right := fun s => by have := s.2.2.2.2.2.2; omega
      rw [if_neg hr] at r; exact r
    · have hr : c.Right := ⟨hq.1, hq.2.1, hq.2.2.1, hq.2.2.2.1, hq.2.2.2.2, by omega, by omega⟩
      rw [if_pos hr] at r; exact r
  refine cdp (fun hs => ?_) (fun hs => j33 false (fun _ s => hs s.1) (fun h => by cases h))
  refine L rfl ?_
  rw [BiP_geq]
  refine cdp (fun h1 => ?_) (fun h1 => j33 false (fun _ s => h1 s.2.1) (fun h => by cases h))
  refine L rfl ?_
  rw [BiP_leq]
  refine cdp (fun h2 => ?_) (fun h2 => j33 false (fun _ s => h2 s.2.2.1) (fun h => by cases h))
  refine L rfl ?_
  rw [BiP_geq]
  refine cdp (fun h3 => ?_) (fun h3 => j33 false (fun _ s => h3 s.2.2.2.1) (fun h => by cases h))
  refine L rfl ?_
  rw [BiP_leq]
  exact j33 _ (fun h s => by have := of_decide_eq_false h; exact this s.2.2.2.2.1) (fun h => ⟨hs, h1, h2, h3, of_decide_eq_true h⟩)
end
end Go.Sg
namespace Go.Sg
open Go Vc
structure Node where
  level : Int
  kids : List U32
  pivots : List Str
  buf : List Msg
  pairs : List Pair
deriving DecidableEq
section
variable {h : Heap} {K : Kt} {c : Config}
def keyOk (c : Config) (k : Str) : Bool := decide (1 ≤ k.length) && decide ((k.length : Int) ≤ c.key)
theorem c_node_Key {k : Str} (r : ∀ h', Ext h h' → K (.bool (keyOk c k)) h') : Ca f_node_Key #[c.v, str k] h K := by
  refine m_node_Key_ok (bxa (cs := c.cs) fun b h1 e1 hb k1 _ => ?_)
  have r := r h1 e1
  unfold keyOk at r
  rw [LenP_str, BiP_geq]
  refine cdp (fun h1 => ?_) (fun h1 => ?_)
  · rw [LenP_str]
    refine fv (by rw [k1.get]; rfl) ?_
    rw [BiP_leq]
    rw [decide_eq_true (by omega : 1 ≤ k.length), Bool.true_and] at r
    exact r
  · rw [decide_eq_false (by omega : ¬ 1 ≤ k.length), Bool.false_and] at r
    exact r
structure Nd (U : Nat → Prop) (h : Heap) (v : Value) (n : Node) : Prop where
  out : ∃ k p b l, v = .agg #[int n.level, k, p, b, l] ∧ Sl U h k n.kids ∧ Sl U h p n.pivots ∧ Sl U h b n.buf ∧ Sl U h l n.pairs
theorem Nd.keep {U M : Nat → Prop} {h h' : Heap} {v : Value} {n : Node} (d : Nd U h v n) (e : Ex M h h') (hm : ∀ b, M b → U b) : Nd U h' v n := by
  obtain ⟨k, p, b, l, h0, h1, h2, h3, h4⟩ := d.out
  exact ⟨k, p, b, l, h0, h1.keep e hm, h2.keep e hm, h3.keep e hm, h4.keep e hm⟩
theorem Nd.ext {U : Nat → Prop} {h h' : Heap} {v : Value} {n : Node} (d : Nd U h v n) (e : Ext h h') : Nd U h' v n := d.keep e fun _ x => x.elim
end
end Go.Sg
