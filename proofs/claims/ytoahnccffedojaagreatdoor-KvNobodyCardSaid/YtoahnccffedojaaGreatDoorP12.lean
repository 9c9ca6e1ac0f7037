/-
  Part 12 of a proof: own texts, merged by program.
-/
import Derived.Test.YtoahnccffedojaaGreatDoorP09
import Derived.Test.YtoahnccffedojaaGreatDoorP10
import Derived.Test.YtoahnccffedojaaGreatDoorP11
set_option linter.unusedVariables false
set_option linter.unusedSimpArgs false
/-! Contracts of leaf. -/
namespace Go.Sg
open Go Vc
theorem cvh {f : FuncId} {args : Array Value} {h : Heap} {K : Kt} (hb : hasBody Pg f = true) (r : Ca f args h K) : CvH Pg (.func (.func f) #[] #[]) args h K :=
  ⟨f, #[], rfl, hb, by rw [Array.append_empty]; exact r⟩
section
variable {h : Heap} {K : Kt} {U : Nat → Prop}
theorem cmp_leaf (k : Str) : Cmp (.func (.func f_leaf_compare) #[] #[]) Pair.v Pair.key k := by
  intro a h R r
  refine cvh (by kernel_rfl) (m_leaf_compare_ok ?_)
  refine bxa fun b h1 e1 hb k1 _ => ?_
  refine fv (by rw [k1.get]; rfl) ?_
  exact c_lex_Compare (r h1 e1)
theorem cmp_buf (k : Str) : Cmp (.func (.func f_buf_compare) #[] #[]) Msg.v Msg.key k := by
  intro a h R r
  refine cvh (by kernel_rfl) (m_buf_compare_ok ?_)
  refine bxa fun b h1 e1 hb k1 _ => ?_
  refine fv (by rw [k1.get]; rfl) ?_
  exact c_lex_Compare (r h1 e1)
theorem cmp_lex (k : Str) : Cmp (.func (.func f_lex_Compare) #[] #[]) str id k := by
  intro a h R r
  exact cvh (by kernel_rfl) (c_lex_Compare (r h (Ex.refl _ _)))
theorem parts_key {α : Type} {key : α → Str} {l : List α} (ha : Asc key l) (k : Str) : Parts l (fun a => cmp (key a) k) (pos key l k) :=
  ⟨pos_le, (parts_asc ha).1, (parts_asc ha).2⟩
theorem hit_key {α : Type} {key : α → Str} {l : List α} (ha : Asc key l) (k : Str) : hit l (fun a => cmp (key a) k) (pos key l k) = has key l k := by
  unfold hit
  cases hk : has key l k with
  | true => obtain ⟨a, h1, h2, _⟩ := get_hit ha hk; rw [h1]; simp [cmp_eq, h2]
  | false =>
    cases hg : l[pos key l k]? with
    | none => rfl
    | some a =>
      have := has_ne hk a (List.mem_of_getElem? hg)
      simp [cmp_eq, this]
/-- The search in a leaf. -/
theorem c_find_Pair {x : Value} {l : List Pair} {k : Str} (s : Sl U h x l) (ha : Asc Pair.key l) (hl : l.length ≤ 2 ^ 40) (r : ∀ h', Ext h h' → K (.tuple #[int (pos Pair.key l k), .bool (has Pair.key l k)]) h') :
    Ca f_slices_BinarySearchFunc_api_Pair #[x, str k, .func (.func f_leaf_compare) #[] #[]] h K :=
  c_BinarySearchFunc_Pair (cmp_leaf k) s hl (parts_key ha k) fun h' e => by rw [hit_key ha]; exact r h' e
theorem c_find_Msg {x : Value} {l : List Msg} {k : Str} (s : Sl U h x l) (ha : Asc Msg.key l) (hl : l.length ≤ 2 ^ 40) (r : ∀ h', Ext h h' → K (.tuple #[int (pos Msg.key l k), .bool (has Msg.key l k)]) h') :
    Ca f_slices_BinarySearchFunc_api_Msg #[x, str k, .func (.func f_buf_compare) #[] #[]] h K :=
  c_BinarySearchFunc_Msg (cmp_buf k) s hl (parts_key ha k) fun h' e => by rw [hit_key ha]; exact r h' e
theorem c_find_str {x : Value} {l : List Str} {k : Str} (s : Sl U h x l) (ha : Asc id l) (hl : l.length ≤ 2 ^ 40) (r : ∀ h', Ext h h' → K (.tuple #[int (pos id l k), .bool (has id l k)]) h') :
    Ca f_slices_BinarySearchFunc_string #[x, str k, .func (.func f_lex_Compare) #[] #[]] h K :=
  c_BinarySearchFunc_str (cmp_lex k) s hl (parts_key (key := id) ha k) fun h' e => by
    have := hit_key (key := id) ha k
    simp only [id] at this
    rw [this]; exact r h' e
/-- What a leaf says of a key. -/
def getP (l : List Pair) (k : Str) : Option Str := (l.find? fun a => decide (a.key = k)).map Pair.val
theorem getP_none {l : List Pair} {k : Str} (h : has Pair.key l k = false) : getP l k = none := by
  unfold getP
  rw [List.find?_eq_none.2 (fun a ha => by simpa using has_ne h a ha)]; rfl
theorem getP_some {l : List Pair} {k : Str} (ha : Asc Pair.key l) {a : Pair} (hm : a ∈ l) (hk : a.key = k) : getP l k = some a.val := by
  unfold getP
  induction l with
  | nil => simp at hm
  | cons b l ih =>
    obtain ⟨h1, h2⟩ := Asc.cons.1 ha
    rcases List.mem_cons.1 hm with rfl | hm
    · simp [hk]
    · have : ¬ b.key = k := fun e => by have := h1 a hm; rw [e, hk] at this; exact slt_irrefl _ this
      simp only [List.find?_cons, this, decide_false, Bool.false_eq_true, if_false]
      exact ih h2 hm
theorem c_leaf_Get {x : Value} {l : List Pair} {k : Str} (s : Sl U h x l) (ha : Asc Pair.key l) (hl : l.length ≤ 2 ^ 40) (r : ∀ h', Ext h h' → K (.tuple #[str ((getP l k).getD []), .bool (getP l k).isSome]) h') : Ca f_leaf_Get #[x, str k] h K := by
  refine m_leaf_Get_ok (c_find_Pair s ha hl fun h1 e1 => ?_)
  rw [ex20, ex21, UnP_not]
  have := r h1 e1
  refine cd (fun hn => ?_) (fun hn => ?_)
  · rw [getP_none (by simpa using hn)] at this; exact this
  · obtain ⟨a, h2, h3, h4⟩ := get_hit (k := k) ha (by simpa using hn)
    rw [getP_some ha h4 h3] at this
    exact (s.ext e1).ef (by omega) (by rw [Int.toNat_natCast]; exact h2) rfl this
/-- A message come to a leaf. -/
def applyP (l : List Pair) (m : Msg) : List Pair := ins Pair.key l m.key (if m.del then [] else [⟨m.key, m.val⟩])
theorem applyP_asc {l : List Pair} (h : Asc Pair.key l) (m : Msg) : Asc Pair.key (applyP l m) := by
  unfold applyP; refine ins_asc h ?_; split
  · exact .inl rfl
  · exact .inr ⟨_, rfl, rfl⟩
theorem applyP_len {l : List Pair} (m : Msg) : (applyP l m).length ≤ l.length + 1 := by
  have h1 : (ahead Pair.key l m.key).length + (behind Pair.key l m.key).length ≤ l.length := by
    unfold ahead behind
    induction l with
    | nil => simp
    | cons a l ih =>
      simp only [List.filter_cons]
      by_cases q1 : a.key < m.key
      · have q2 : ¬ m.key < a.key := slt_asymm q1
        simp only [q1, q2, decide_true, decide_false, if_true, Bool.false_eq_true, if_false, List.length_cons]; omega
      · simp only [q1, decide_false, Bool.false_eq_true, if_false]
        split <;> simp only [List.length_cons] <;> omega
  unfold applyP ins
  simp only [List.length_append]
  split <;> simp <;> omega
theorem foldl_len (ms : List Msg) (l : List Pair) : (ms.foldl applyP l).length ≤ l.length + ms.length := by
  induction ms generalizing l with
  | nil => simp
  | cons m ms ih => simp only [List.foldl_cons, List.length_cons]; have := ih (applyP l m); have := applyP_len (l := l) m; omega
theorem c_leaf_Apply {x y : Value} {l : List Pair} {ms : List Msg} (s : Sl U h x l) (sm : Sl U h y ms) (ha : Asc Pair.key l) (hl : l.length + ms.length < 2 ^ 40)
    (r : ∀ v' h', Ow h.size t_api_Pair h' v' (ms.foldl applyP l) → Ext h h' → K v' h') : Ca f_leaf_Apply #[x, y] h K := by
  refine m_leaf_Apply_ok (c_Clone_Pair s (by omega) fun v1 h1 o1 e1 => ?_)
  refine sm.len ?_
  refine lop (σ := Value × Nat) (fun p => [p.1, int p.2]) (fun p h' => Ext h h' ∧ p.2 ≤ ms.length ∧ Ow h.size t_api_Pair h' p.1 ((ms.take p.2).foldl applyP l)) (fun p => ms.length - p.2) (v1, 0) rfl ⟨e1, Nat.zero_le _, by simpa using o1⟩ ?_
  rintro ⟨v, i⟩ h2 N ⟨e2, hi, o2⟩ hN
  simp only at hi o2
  simp only [m_leaf_Apply_l5, gv_zero, gv_succ]
  rw [BiP_lss]
  refine cdp (fun hlt => ?_) (fun hge => ?_)
  · have hi : i < ms.length := by omega
    have sm2 := sm.ext e2
    have hcur : ms[i]? = some ms[i] := List.getElem?_eq_getElem hi
    refine sm2.ea (by omega) (by rw [Int.toNat_natCast]; exact hcur) ?_
    have htk : (ms.take (i + 1)).foldl applyP l = applyP ((ms.take i).foldl applyP l) ms[i] := by
      rw [List.take_add_one, hcur, List.foldl_append]; rfl
    generalize ms[i] = m at *
    have hlen := foldl_len (ms.take i) l
    have hasc : Asc Pair.key ((ms.take i).foldl applyP l) := by
      have : ∀ (q : List Msg) (l : List Pair), Asc Pair.key l → Asc Pair.key (q.foldl applyP l) := by
        intro q; induction q with
        | nil => intro l h; exact h
        | cons m q ih => intro l h; exact ih _ (applyP_asc h m)
      exact this _ _ ha
    rw [List.length_take] at hlen
    generalize hL : (ms.take i).foldl applyP l = L at *
    refine alst (vs := [str m.key, .bool m.del, str m.val]) rfl rfl rfl fun bm h3 e3 hbm k3 s3 => ?_
    refine fv (by rw [k3.get]; rfl) ?_
    have o3 := o2.ext e3
    have e3' : Ext h h3 := e2.trans e3
    refine c_find_Pair (o3.sl (U := No) fun _ _ h => h) hasc (by omega) fun h4 e4 => ?_
    rw [ex20, ex21]
    have k4 := k3.ext e4
    have o4 := o3.ext e4
    have e4' : Ext h h4 := e3'.trans e4
    have hbl : h2.size ≤ bm := by omega
    have next : ∀ v' h', Ow h.size t_api_Pair h' v' (applyP L m) → Ext h h' → m_leaf_Apply_j46 v' y (int ms.length) (int i) h' N K := by
      intro v' h' o' e'
      unfold m_leaf_Apply_j46
      refine add64 (by omega) ?_
      exact hN (v', i + 1) h' ⟨e', by omega, by rw [htk]; exact o'⟩ (by simp only; omega)
    have hpl : pos Pair.key L m.key ≤ L.length := pos_le
    have hit : has Pair.key L m.key = true → m_leaf_Apply_j25 v (ptr bm 0) (int (pos Pair.key L m.key)) (.bool true) y (int ms.length) (int i) (.bool m.del) h4 N K := by
      intro hk
      obtain ⟨a, g1, g2, g3⟩ := get_hit hasc hk
      have hpl : pos Pair.key L m.key < L.length := (List.getElem?_eq_some_iff.1 g1).1
      unfold m_leaf_Apply_j25
      refine cd (fun hd => ?_) (fun hd => ?_)
      · refine add64 (by omega) ?_
        have := c_Delete_Pair (K := fun x28 h27 => m_leaf_Apply_j46 x28 y (int ms.length) (int i) h27 N K) o4 (by omega) hpl fun v' h' o' e' => next v' h' (by
          rw [drop_hit hasc hk, take_pos hasc] at o'
          unfold applyP ins; rw [hd]; simpa using o') (e4'.own e' (Nat.le_refl _))
        exact this
      · rw [CdP_true]
        refine fv (by rw [k4.get]; rfl) ?_
        refine ow_setf (a' := (⟨m.key, m.val⟩ : Pair)) rfl o4 g1 (by decide) (by rw [← g2]; rfl) rfl fun h5 o5 e5 => ?_
        refine next _ _ ?_ (e4'.own e5 (Nat.le_refl _))
        have hd : m.del = false := hd
        have : L.set (pos Pair.key L m.key) ⟨m.key, m.val⟩ = applyP L m := by
          rw [List.set_eq_take_append_cons_drop, if_pos hpl, take_pos hasc, drop_hit hasc hk]
          unfold applyP ins; rw [hd]; simp
        rwa [this] at o5
    have miss : has Pair.key L m.key = false → m_leaf_Apply_j25 v (ptr bm 0) (int (pos Pair.key L m.key)) (.bool false) y (int ms.length) (int i) (.bool false) h4 N K := by
      intro hk
      unfold m_leaf_Apply_j25
      rw [CdP_false, CdP_false]
      refine fv (by rw [k4.get]; rfl) ?_
      rw [UnP_not]
      refine cd (fun hd => ?_) (fun hd => ?_)
      · have hd : m.del = false := by simpa using hd
        refine fv (by rw [k4.get]; rfl) (fv (by rw [k4.get]; rfl) ?_)
        refine ⟨_, _, rfl, rfl, ?_⟩
        refine bs (n0 := h4.size) (e := t_api_Pair) [(⟨m.key, m.val⟩ : Pair)] rfl (Nat.le_refl _) rfl (by decide) (by kernel_rfl) rfl fun v5 h5 o5 e5 => ?_
        refine c_Insert_Pair (a := ⟨m.key, m.val⟩) (o4.ext e5) o5 (fun b hb => ?_) hpl (Nat.le_trans e4'.le e5.le) (by omega) fun v6 h6 o6 e6 => ?_
        · rcases o4.cases' with ⟨rfl, _⟩ | ⟨g, cap, rfl, hg, ow⟩
          · simp [Value.ownBlock] at hb
          · have := ow.lt; simp [Value.ownBlock] at hb; omega
        · refine next _ _ ?_ ((e4'.trans e5).own e6 (Nat.le_refl _))
          rw [take_pos hasc, drop_miss hasc hk] at o6
          unfold applyP ins; rw [hd]; exact o6
      · have hd : m.del = true := by simpa using hd
        refine next _ _ ?_ e4'
        unfold applyP; rw [hd]; simp only [if_true]
        rw [ins_miss hasc hk]; exact o4
    refine cd (fun hk => ?_) (fun hk => ?_)
    · refine fv (by rw [k4.get]; rfl) ?_
      rw [hk]; exact hit hk
    · rw [hk]; exact miss hk
  · have : i = ms.length := by omega
    subst this
    rw [List.take_length] at o2
    exact r _ _ o2 e2
end
end Go.Sg
/-! Contracts of leaf, the rest. -/
namespace Go.Sg
open Go Vc
section
variable {h : Heap} {K : Kt} {U : Nat → Prop} {ts : Array TypeId} {t : TypeId}
theorem min_int {k} {a b : Int} (r : K (.int k (min a b)) h) : VH Pg (Builtin.min_ ts t #[.int k a, .int k b]) h K := by
  refine vh_pure (fun w _ => ?_) r
  by_cases hab : b < a
  · have : min a b = b := by omega
    simp [Builtin.min_, Builtin.min2, hab, this]
  · have : min a b = a := by omega
    simp [Builtin.min_, Builtin.min2, hab, this]
theorem max_int {k} {a b : Int} (r : K (.int k (max a b)) h) : VH Pg (Builtin.max_ ts t #[.int k a, .int k b]) h K := by
  refine vh_pure (fun w _ => ?_) r
  by_cases hab : b > a
  · have : max a b = b := by omega
    simp [Builtin.max_, Builtin.max2, hab, this]
  · have : max a b = a := by omega
    simp [Builtin.max_, Builtin.max2, hab, this]
/-- Do the keys of neighbours rise? -/
def rises {α : Type} (key : α → Str) : List α → Bool
  | a :: b :: l => decide (key a < key b) && rises key (b :: l)
  | _ => true
theorem rises_asc {α : Type} {key : α → Str} : ∀ {l : List α}, rises key l = true ↔ Asc key l
  | [] => by simp [rises, Asc]
  | [a] => by simp [rises, Asc]
  | a :: b :: l => by
    have ih := rises_asc (key := key) (l := b :: l)
    have hc : Asc key (a :: b :: l) ↔ (∀ c ∈ b :: l, key a < key c) ∧ Asc key (b :: l) := Asc.cons
    rw [rises, Bool.and_eq_true, ih, hc]
    constructor
    · rintro ⟨h1, h2⟩
      have h1 : key a < key b := of_decide_eq_true h1
      refine ⟨fun c hc => ?_, h2⟩
      rcases List.mem_cons.1 hc with rfl | hc
      · exact h1
      · exact slt_trans h1 ((Asc.cons.1 h2).1 c hc)
    · rintro ⟨h1, h2⟩
      exact ⟨decide_eq_true (h1 b (by simp)), h2⟩
theorem rises_get {α : Type} {key : α → Str} {l : List α} : rises key l = true ↔ ∀ i a b, l[i]? = some a → l[i + 1]? = some b → key a < key b := by
  induction l with
  | nil => simp [rises]
  | cons a l ih =>
    cases l with
    | nil => simp [rises]
    | cons b l =>
      rw [rises, Bool.and_eq_true, ih]
      constructor
      · rintro ⟨h1, h2⟩ i x y hx hy
        cases i with
        | zero => simp at hx hy; subst hx hy; exact of_decide_eq_true h1
        | succ i => exact h2 i x y (by simpa using hx) (by simpa using hy)
      · intro h1
        exact ⟨decide_eq_true (h1 0 a b rfl rfl), fun i x y hx hy => h1 (i + 1) x y (by simpa using hx) (by simpa using hy)⟩
theorem right_gen {α : Type} [El α] {key : α → Str} {x : Value} {l : List α} {zz : Nat} (hzz : zz = El.z α) (hk : ∀ a, (El.enc a)[0]? = some (str (key a))) (s : Sl U h x l) (hl : l.length ≤ 2 ^ 40) (r : ∀ h', Ext h h' → K (.bool (rises key l)) h') :
    LenP (some true) x fun x2 => BiP .sub x2 (.int .i64 1) fun x3 =>
      LoP (fun vs h nx5 => BiP .lss (gv vs 1) x3 fun x6 => CdP x6
        (Ef zz 0 x (gv vs 1) h fun x10 => BiP .add (gv vs 1) (.int .i64 1) fun x11 => Ef zz 0 x x11 h fun x14 =>
          Ca f_lex_Compare #[x10, x14] h fun x16 h15 => True ∧ (BiP .geq x16 (.int .i64 0) fun x17 => CdP x17 (K (.bool false) h15)
            (BiP .add (gv vs 1) (.int .i64 1) fun x18 => nx5 [(gv vs 0), x18] h15)))
        (K (.bool true) h)) [(.bool false), (.int .i64 0)] h := by
  subst hzz
  refine s.len (sub64 (by omega) ?_)
  refine lop (σ := Nat) (fun i => [.bool false, int i]) (fun i h' => Ext h h' ∧ ∀ j a b, j < i → l[j]? = some a → l[j + 1]? = some b → key a < key b) (fun i => l.length - i) 0 rfl ⟨Ex.refl _ _, fun _ _ _ h => by omega⟩ ?_
  rintro i h1 N ⟨e1, hi⟩ hN
  simp only [gv_zero, gv_succ]
  rw [BiP_lss]
  refine cdp (fun hlt => ?_) (fun hge => ?_)
  · have q1 : i + 1 < l.length := by omega
    have g1 : l[i]? = some l[i] := List.getElem?_eq_getElem (by omega)
    have g2 : l[i + 1]? = some l[i + 1] := List.getElem?_eq_getElem q1
    refine (s.ext e1).ef (by omega) (by rw [Int.toNat_natCast]; exact g1) (hk _) ?_
    refine add64 (by omega) ?_
    refine (s.ext e1).ef (by omega) (by rw [show ((i : Int) + 1).toNat = i + 1 from by omega]; exact g2) (hk _) ?_
    refine c_lex_Compare ⟨trivial, ?_⟩
    rw [BiP_geq]
    refine cdp (fun hc => ?_) (fun hc => ?_)
    · have : rises key l = false := by
        cases hr : rises key l with
        | false => rfl
        | true => have := cmp_lt.2 (rises_get.1 hr i _ _ g1 g2); omega
      have r := r _ e1
      rwa [this] at r
    · refine add64 (by omega) ?_
      refine hN (i + 1) h1 ⟨e1, fun j a b hj ha hb => ?_⟩ (by omega)
      by_cases hji : j = i
      · subst hji
        rw [g1] at ha; rw [g2] at hb; cases ha; cases hb
        exact cmp_lt.1 (by omega)
      · exact hi j a b (by omega) ha hb
  · have : rises key l = true := rises_get.2 fun j a b ha hb => hi j a b (by have := (List.getElem?_eq_some_iff.1 hb).1; omega) ha hb
    have r := r _ e1
    rwa [this] at r
theorem c_leaf_Right {x : Value} {l : List Pair} (s : Sl U h x l) (hl : l.length ≤ 2 ^ 40) (r : ∀ h', Ext h h' → K (.bool (rises Pair.key l)) h') : Ca f_leaf_Right #[x] h K :=
  m_leaf_Right_ok (right_gen (key := Pair.key) rfl (fun _ => rfl) s hl r)
theorem c_buf_Right {x : Value} {l : List Msg} (s : Sl U h x l) (hl : l.length ≤ 2 ^ 40) (r : ∀ h', Ext h h' → K (.bool (rises Msg.key l)) h') : Ca f_buf_Right #[x] h K :=
  m_buf_Right_ok (right_gen (key := Msg.key) rfl (fun _ => rfl) s hl r)
/-- Is a key of a span? -/
def inSpan (s : Span) (k : Str) : Bool := decide (¬ k < s.lo) && (s.top || decide (k < s.hi))
/-- A list's part within a span. -/
def partOf {α : Type} (key : α → Str) (l : List α) (s : Span) : List α := l.filter fun a => inSpan s (key a)
theorem drop_lo {α : Type} {key : α → Str} {l : List α} (ha : Asc key l) (lo : Str) : l.drop (pos key l lo) = l.filter fun a => decide (¬ key a < lo) := by
  rw [drop_pos ha]
  have h1 := (part_asc (k := lo) ha).1
  have z1 : (ahead key l lo).filter (fun a => decide (¬ key a < lo)) = [] := by
    rw [List.filter_eq_nil_iff]; intro a h; have := (List.mem_filter.1 h).2; simpa using this
  have z2 : (l.filter (fun a => decide (key a = lo))).filter (fun a => decide (¬ key a < lo)) = l.filter (fun a => decide (key a = lo)) := by
    rw [List.filter_eq_self]; intro a h; have := of_decide_eq_true (List.mem_filter.1 h).2; rw [this]; exact decide_eq_true (slt_irrefl _)
  have z3 : (behind key l lo).filter (fun a => decide (¬ key a < lo)) = behind key l lo := by
    rw [List.filter_eq_self]; intro a h; have := of_decide_eq_true (List.mem_filter.1 h).2; exact decide_eq_true (slt_asymm this)
  have h2 := congrArg (List.filter fun a => decide (¬ key a < lo)) h1
  rw [List.filter_append, List.filter_append, z1, z2, z3] at h2
  rw [h2]; rfl
theorem pos_mono {α : Type} {key : α → Str} {l : List α} {a b : Str} (hab : a < b) : pos key l a ≤ pos key l b := by
  unfold pos ahead
  induction l with
  | nil => simp
  | cons x l ih =>
    simp only [List.filter_cons]
    by_cases q : key x < a
    · have q2 := slt_trans q hab
      simp only [q, q2, decide_true, if_true, List.length_cons]; omega
    · simp only [q, decide_false, Bool.false_eq_true, if_false]
      split <;> (try simp only [List.length_cons]) <;> omega
theorem part_take_drop {α : Type} {key : α → Str} {l : List α} (ha : Asc key l) (s : Span) (he : s.empty = false) :
    (l.take (if s.top then l.length else pos key l s.hi)).drop (pos key l s.lo) = partOf key l s ∧ pos key l s.lo ≤ (if s.top then l.length else pos key l s.hi) := by
  obtain ⟨lo, hi, top⟩ := s
  cases top with
  | true =>
    refine ⟨?_, pos_le⟩
    show (l.take l.length).drop (pos key l lo) = _
    rw [List.take_length, drop_lo ha]
    unfold partOf inSpan
    simp
  | false =>
    have hlohi : lo < hi := by simpa [Span.empty] using he
    simp only [Bool.false_eq_true, if_false]
    refine ⟨?_, pos_mono hlohi⟩
    rw [take_pos ha]
    have hasc2 : Asc key (ahead key l hi) := ha.filter _
    have hp : pos key (ahead key l hi) lo = pos key l lo := by
      unfold pos ahead
      rw [List.filter_filter]
      congr 1
      apply List.filter_congr
      intro a _
      by_cases q : key a < lo
      · simp only [q, slt_trans q hlohi, decide_true, Bool.and_self]
      · simp only [q, decide_false, Bool.false_and]
    rw [← hp, drop_lo hasc2]
    unfold ahead partOf inSpan
    rw [List.filter_filter]
    apply List.filter_congr
    intro a _
    simp only [Bool.false_or]
def takeInt {α : Type} (l : List α) (n : Int) : List α := l.take n.toNat
theorem c_leaf_Part {x : Value} {l : List Pair} {s : Span} {most : Int} (sl : Sl U h x l) (ha : Asc Pair.key l) (hl : l.length ≤ 2 ^ 40)
    (r : ∀ v' h', Ow h.size t_api_Pair h' v' (if s.empty then [] else takeInt (partOf Pair.key l s) most) → Ext h h' → K v' h') : Ca f_leaf_Part #[x, s.v, int most] h K := by
  refine m_leaf_Part_ok ?_
  refine bxa (cs := s.cs) fun b h1 e1 hb k1 _ => ?_
  refine (LdA_b k1 rfl).2 ?_
  refine c_lex_Empty (s := s) fun h2 e2 => ?_
  have k2 := k1.ext e2
  have e12 := e1.trans e2
  have stop : (s.empty = true ∨ most < 1) → K (.slice none 0 0) h2 := by
    intro hs
    have := r (.slice none 0 0) h2
    have he : (if s.empty then [] else takeInt (partOf Pair.key l s) most) = ([] : List Pair) := by
      rcases hs with hs | hs
      · simp [hs]
      · have : most.toNat = 0 := by omega
        simp [takeInt, this]
    rw [he] at this
    exact this (Ow.nil _ _ _) e12
  refine cd (fun he => ?_) (fun he => ?_)
  · unfold m_leaf_Part_j11; rw [CdP_true]; exact stop (.inl he)
  · rw [BiP_lss]
    unfold m_leaf_Part_j11
    refine cdp (fun hm => stop (.inr hm)) (fun hm => ?_)
    unfold m_leaf_Part_j12
    refine fv (by rw [k2.get]; rfl) ?_
    refine c_find_Pair (sl.ext e12) ha hl fun h3 e3 => ?_
    rw [ex20, ex21]
    have e13 := e12.trans e3
    have k3 := k2.ext e3
    refine sl.len ?_
    refine fv (by rw [k3.get]; rfl) ?_
    rw [UnP_not]
    obtain ⟨p1, p2⟩ := part_take_drop (key := Pair.key) ha s he
    have hpl : pos Pair.key l s.lo ≤ l.length := pos_le
    have fin : ∀ (h4 : Heap) (j : Nat), Ext h h4 → j = (if s.top then l.length else pos Pair.key l s.hi) → j ≤ l.length → m_leaf_Part_j30 x (int most) (int (pos Pair.key l s.lo)) (int j) h4 K := by
      intro h4 j e4 hj hjl
      subst hj
      generalize hJ : (if s.top then l.length else pos Pair.key l s.hi) = j at *
      generalize hI : pos Pair.key l s.lo = i at *
      unfold m_leaf_Part_j30
      refine sl.len (min_int ?_)
      refine add64 (by omega) ?_
      refine min_int ?_
      have hz : (2 : Nat) = El.z Pair := rfl
      have hmi : min (j : Int) ((i : Int) + min most (l.length : Int)) = ((min j (i + most.toNat) : Nat) : Int) := by omega
      rw [hmi]
      refine (sl.ext e4).part (a := i) (b := min j (i + most.toNat)) bnd_nat bnd_nat (by omega) (by omega) fun v' s' => ?_
      refine c_Clone_Pair s' (by simp; omega) fun v5 h5 o5 e5 => ?_
      refine r v5 h5 ?_ (e4.trans e5)
      have : (l.take (min j (i + most.toNat))).drop i = takeInt (partOf Pair.key l s) most := by
        rw [← p1]
        unfold takeInt
        rw [List.take_drop, List.take_take]
        congr 2
        omega
      rw [he]
      simp only [Bool.false_eq_true, if_false]
      rw [← this]
      exact o5.low e4.le
    refine cd (fun ht => ?_) (fun ht => ?_)
    · have ht : s.top = false := by simpa using ht
      refine fv (by rw [k3.get]; rfl) ?_
      refine c_find_Pair (sl.ext e13) ha hl fun h4 e4 => ?_
      rw [ex20, ex21]
      exact fin h4 _ (e13.trans e4) (by simp [ht]) pos_le
    · have ht : s.top = true := by simpa using ht
      exact fin h3 _ e13 (by simp [ht]) (Nat.le_refl _)
end
end Go.Sg
/-! Contracts of buf. -/
namespace Go.Sg
open Go Vc
def Msg.cs (m : Msg) : List Value := [str m.key, .bool m.del, str m.val]
def zeroM : Msg := ⟨[], false, []⟩
def findM (l : List Msg) (k : Str) : Option Msg := l.find? fun a => decide (a.key = k)
theorem findM_none {l : List Msg} {k : Str} (h : has Msg.key l k = false) : findM l k = none :=
  List.find?_eq_none.2 (fun a ha => by simpa using has_ne h a ha)
theorem findM_some {l : List Msg} {k : Str} (ha : Asc Msg.key l) {a : Msg} (hm : a ∈ l) (hk : a.key = k) : findM l k = some a := by
  unfold findM
  induction l with
  | nil => simp at hm
  | cons b l ih =>
    obtain ⟨h1, h2⟩ := Asc.cons.1 ha
    rcases List.mem_cons.1 hm with rfl | hm
    · simp [hk]
    · have : ¬ b.key = k := fun e => by have := h1 a hm; rw [e, hk] at this; exact slt_irrefl _ this
      simp only [List.find?_cons, this, decide_false]
      exact ih h2 hm
def putM (l : List Msg) (m : Msg) : List Msg := ins Msg.key l m.key [m]
def mergeM : List Msg → List Msg → List Msg
  | [], b => b
  | a, [] => a
  | x :: a, y :: b => if y.key < x.key then y :: mergeM (x :: a) b else if x.key = y.key then x :: mergeM a b else x :: mergeM a (y :: b)
termination_by a b => a.length + b.length
theorem mergeM_nil (a : List Msg) : mergeM a [] = a := by cases a <;> simp [mergeM]
section
variable {h : Heap} {K : Kt} {U : Nat → Prop}
theorem c_buf_Find {x : Value} {l : List Msg} {k : Str} (s : Sl U h x l) (ha : Asc Msg.key l) (hl : l.length ≤ 2 ^ 40) (r : ∀ h', Ext h h' → K (.tuple #[((findM l k).getD zeroM).v, .bool (findM l k).isSome]) h') : Ca f_buf_Find #[x, str k] h K := by
  refine m_buf_Find_ok (ala fun b h1 e1 hb k1 _ => ?_)
  refine c_find_Msg (s.ext e1) ha hl fun h2 e2 => ?_
  have k2 := k1.ext e2
  have e12 := e1.trans e2
  rw [ex20, ex21, UnP_not]
  refine cd (fun hn => ?_) (fun hn => ?_)
  · refine ⟨_, _, rfl, rfl, ?_⟩
    refine StA_b (vs := zeroM.cs) k2 rfl rfl rfl fun h3 _ e3 k3 => ?_
    refine (LdA_b k3 rfl).2 ?_
    have := r h3 (e12.andThen e3 fun x hx => by omega)
    rw [findM_none (by simpa using hn)] at this; exact this
  · obtain ⟨a, g1, g2, g3⟩ := get_hit (k := k) ha (by simpa using hn)
    refine (s.ext e12).ea (by omega) (by rw [Int.toNat_natCast]; exact g1) ?_
    refine StA_b (vs := a.cs) k2 rfl rfl rfl fun h3 _ e3 k3 => ?_
    refine (LdA_b k3 rfl).2 ?_
    have := r h3 (e12.andThen e3 fun x hx => by omega)
    rw [findM_some ha g3 g2] at this; exact this
theorem c_buf_Put {x : Value} {l : List Msg} {m : Msg} (s : Sl U h x l) (ha : Asc Msg.key l) (hl : l.length < 2 ^ 40) (r : ∀ v' h', Ow h.size t_api_Msg h' v' (putM l m) → Ext h h' → K v' h') : Ca f_buf_Put #[x, m.v] h K := by
  refine m_buf_Put_ok (bxa (cs := m.cs) fun b h1 e1 hb k1 _ => ?_)
  refine fv (by rw [k1.get]; rfl) ?_
  refine c_find_Msg (s.ext e1) ha (by omega) fun h2 e2 => ?_
  rw [ex20, ex21]
  have e12 := e1.trans e2
  refine c_Clone_Msg (s.ext e12) (by omega) fun v3 h3 o3 e3 => ?_
  have k3 := (k1.ext e2).ext e3
  have e13 := e12.trans e3
  have hpl : pos Msg.key l m.key ≤ l.length := pos_le
  have o3 := o3.low e12.le
  refine cd (fun hk => ?_) (fun hk => ?_)
  · refine (LdA_b k3 rfl).2 ?_
    obtain ⟨a, g1, g2, g3⟩ := get_hit ha hk
    refine ow_set (a' := m) (vs := m.cs) rfl rfl rfl o3 (List.getElem?_eq_some_iff.1 g1).1 fun h4 o4 e4 => ?_
    refine r _ _ ?_ (e13.own e4 (Nat.le_refl _))
    have : l.set (pos Msg.key l m.key) m = putM l m := by
      rw [List.set_eq_take_append_cons_drop, if_pos (List.getElem?_eq_some_iff.1 g1).1, take_pos ha, drop_hit ha hk]
      unfold putM ins; simp
    rwa [this] at o4
  · refine (LdA_b k3 rfl).2 ?_
    refine bs (n0 := h3.size) (e := t_api_Msg) [m] rfl (Nat.le_refl _) rfl (by decide) (by kernel_rfl) rfl fun v5 h5 o5 e5 => ?_
    refine c_Insert_Msg (a := m) (o3.ext e5) o5 (fun b hb => ?_) hpl (Nat.le_trans e13.le e5.le) (by omega) fun v6 h6 o6 e6 => ?_
    · rcases o3.cases' with ⟨rfl, _⟩ | ⟨g, cap, rfl, hg, ow⟩
      · simp [Value.ownBlock] at hb
      · have := ow.lt; simp [Value.ownBlock] at hb; omega
    · refine r _ _ ?_ ((e13.trans e5).own e6 (Nat.le_refl _))
      rw [take_pos ha, drop_miss ha hk] at o6
      unfold putM ins; exact o6
def loOf (l : List Msg) (s : Span) : Nat := if s.empty then 0 else pos Msg.key l s.lo
def hiOf (l : List Msg) (s : Span) : Nat := if s.empty then 0 else if s.top then l.length else pos Msg.key l s.hi
def partM (l : List Msg) (s : Span) : List Msg := if s.empty then [] else partOf Msg.key l s
theorem partM_eq {l : List Msg} (ha : Asc Msg.key l) (s : Span) : (l.take (hiOf l s)).drop (loOf l s) = partM l s ∧ loOf l s ≤ hiOf l s ∧ hiOf l s ≤ l.length := by
  unfold loOf hiOf partM
  cases he : s.empty with
  | true => simp
  | false =>
    have := part_take_drop (key := Msg.key) ha s he
    simp only [Bool.false_eq_true, if_false]
    refine ⟨this.1, this.2, ?_⟩
    split
    · exact Nat.le_refl _
    · exact pos_le
theorem c_buf_part {x : Value} {l : List Msg} {s : Span} (sl : Sl U h x l) (ha : Asc Msg.key l) (hl : l.length ≤ 2 ^ 40) (r : ∀ h', Ext h h' → K (.tuple #[int (loOf l s), int (hiOf l s)]) h') : Ca f_buf_part #[x, s.v] h K := by
  refine m_buf_part_ok (bxa (cs := s.cs) fun b h1 e1 hb k1 _ => ?_)
  refine (LdA_b k1 rfl).2 ?_
  refine c_lex_Empty (s := s) fun h2 e2 => ?_
  have k2 := k1.ext e2
  have e12 := e1.trans e2
  refine cd (fun he => ?_) (fun he => ?_)
  · have := r h2 e12
    simp only [loOf, hiOf, he, if_true] at this
    exact this
  · refine fv (by rw [k2.get]; rfl) ?_
    refine c_find_Msg (sl.ext e12) ha hl fun h3 e3 => ?_
    have k3 := k2.ext e3
    have e13 := e12.trans e3
    rw [ex20, ex21]
    refine sl.len ?_
    refine fv (by rw [k3.get]; rfl) ?_
    rw [UnP_not]
    refine cd (fun ht => ?_) (fun ht => ?_)
    · have ht : s.top = false := by simpa using ht
      refine fv (by rw [k3.get]; rfl) ?_
      refine c_find_Msg (sl.ext e13) ha hl fun h4 e4 => ?_
      rw [ex20, ex21]
      have := r h4 (e13.trans e4)
      simp only [loOf, hiOf, he, ht, Bool.false_eq_true, if_false] at this
      exact this
    · have ht : s.top = true := by simpa using ht
      have := r h3 e13
      simp only [loOf, hiOf, he, ht, Bool.false_eq_true, if_false, if_true] at this
      exact this
theorem c_buf_Part {x : Value} {l : List Msg} {s : Span} (sl : Sl U h x l) (ha : Asc Msg.key l) (hl : l.length ≤ 2 ^ 40) (r : ∀ v' h', Ow h.size t_api_Msg h' v' (partM l s) → Ext h h' → K v' h') : Ca f_buf_Part #[x, s.v] h K := by
  refine m_buf_Part_ok (bxa (cs := s.cs) fun b h1 e1 hb k1 _ => ?_)
  refine (LdA_b k1 rfl).2 ?_
  refine c_buf_part (s := s) (sl.ext e1) ha hl fun h2 e2 => ?_
  have e12 := e1.trans e2
  rw [ex20, ex21]
  obtain ⟨p1, p2, p3⟩ := partM_eq ha s
  refine (sl.ext e12).part (a := loOf l s) (b := hiOf l s) bnd_nat bnd_nat p2 p3 fun v' s' => ?_
  rw [p1] at s'
  have hlen : (partM l s).length ≤ l.length := by rw [← p1]; simp; omega
  exact c_Clone_Msg s' (by omega) fun v4 h4 o4 e4 => r _ _ (o4.low e12.le) (e12.trans e4)
theorem c_buf_Split {x : Value} {l : List Msg} {k : Str} (sl : Sl U h x l) (ha : Asc Msg.key l) (hl : l.length ≤ 2 ^ 40)
    (r : ∀ v w h', Ow h.size t_api_Msg h' v (ahead Msg.key l k) → Ow h.size t_api_Msg h' w (l.drop (pos Msg.key l k)) → Ext h h' → K (.tuple #[v, w]) h') : Ca f_buf_Split #[x, str k] h K := by
  refine m_buf_Split_ok (c_find_Msg sl ha hl fun h1 e1 => ?_)
  rw [ex20, ex21]
  have hpl : pos Msg.key l k ≤ l.length := pos_le
  refine (sl.ext e1).part (a := 0) (b := pos Msg.key l k) rfl bnd_nat (Nat.zero_le _) hpl fun v' s' => ?_
  refine (sl.ext e1).part (a := pos Msg.key l k) (b := l.length) bnd_nat rfl hpl (Nat.le_refl _) fun w' s2 => ?_
  rw [List.drop_zero, take_pos ha] at s'
  rw [List.take_length] at s2
  refine c_Clone_Msg s' (by have : (ahead Msg.key l k).length ≤ l.length := List.length_filter_le _ _
                            omega) fun v3 h3 o3 e3 => ⟨trivial, ?_⟩
  refine c_Clone_Msg (s2.ext e3) (by simp; omega) fun v4 h4 o4 e4 => ⟨trivial, ?_⟩
  exact r _ _ _ ((o3.ext e4).low e1.le) (o4.low (e1.trans e3).le) ((e1.trans e3).trans e4)
theorem c_buf_Merge {x y : Value} {a b : List Msg} (sa : Sl U h x a) (sb : Sl U h y b) (hl : a.length + b.length ≤ 2 ^ 39) (r : ∀ v' h', Ow h.size t_api_Msg h' v' (mergeM a b) → Ext h h' → K v' h') : Ca f_buf_Merge #[x, y] h K := by
  refine m_buf_Merge_ok (sa.len (sb.len (add64 (by omega) ?_)))
  have c1 : ((a.length : Int) + b.length) = ((a.length + b.length : Nat) : Int) := by omega
  rw [c1]
  refine mk0 (n0 := h.size) T_Msg (Nat.le_refl _) (by omega) (by decide) fun v1 h1 o1 e1 => ?_
  refine lop (σ := (Value × List Msg) × (Value × List Msg) × (Value × List Msg)) (fun p => [p.1.1, p.2.1.1, p.2.2.1])
    (fun p h' => Ext h h' ∧ Sl U h p.1.1 p.1.2 ∧ Sl U h p.2.1.1 p.2.1.2 ∧ Ow h.size t_api_Msg h' p.2.2.1 p.2.2.2 ∧ p.2.2.2 ++ mergeM p.1.2 p.2.1.2 = mergeM a b ∧ p.2.2.2.length + p.1.2.length + p.2.1.2.length ≤ a.length + b.length)
    (fun p => p.1.2.length + p.2.1.2.length) ((x, a), (y, b), (v1, [])) rfl ⟨e1, sa, sb, o1, rfl, by simp⟩ ?_
  clear sa sb
  rintro ⟨⟨x, a'⟩, ⟨y, b'⟩, ⟨v, q⟩⟩ h2 N ⟨e2, sa, sb, o, hq, hlen⟩ hN
  simp only at e2 sa sb o hq hlen
  simp only [m_buf_Merge_l7, gv_zero, gv_succ]
  have done : (a' = [] ∨ b' = []) → m_buf_Merge_j17 x y v (.bool false) h2 N K := by
    intro hab
    unfold m_buf_Merge_j17
    rw [CdP_false]
    unfold m_buf_Merge_j46
    refine app T_Msg o (sa.ext e2) e2.le (by omega) (by decide) fun v3 h3 o3 e3 _ => ?_
    have e3 := e2.own e3 (Nat.le_refl _)
    refine app T_Msg o3 (sb.ext e3) e3.le (by rw [List.length_append]; omega) (by decide) fun v4 h4 o4 e4 _ => ?_
    refine r _ _ ?_ (e3.own e4 (Nat.le_refl _))
    have : q ++ a' ++ b' = mergeM a b := by
      rw [← hq]
      rcases hab with rfl | rfl
      · simp [mergeM]
      · simp [mergeM_nil]
    rwa [this] at o4
  refine sa.len ?_
  rw [BiP_gtr]
  refine cdp (fun h1 => ?_) (fun h1 => done (.inl (List.eq_nil_of_length_eq_zero (by omega))))
  refine sb.len ?_
  rw [BiP_gtr]
  by_cases h2' : 0 < b'.length
  · rw [decide_eq_true (by omega : (0 : Int) < (b'.length : Int))]
    match a', b', sa, sb, h1, h2', hq, hlen, hN with
    | m :: a', n :: b', sa, sb, _, _, hq, hlen, hN =>
    unfold m_buf_Merge_j17 m_buf_Merge_j18
    rw [CdP_true]
    simp only [List.length_cons] at hlen
    have gm : (m :: a')[(0 : Int).toNat]? = some m := rfl
    have gn : (n :: b')[(0 : Int).toNat]? = some n := rfl
    refine (sa.ext e2).ef (by omega) gm rfl ?_
    refine (sb.ext e2).ef (by omega) gn rfl ?_
    refine c_lex_Compare ⟨trivial, ?_⟩
    -- one more message
    have push : ∀ (z : Msg) (R : Kt), (∀ v' h', Ow h.size t_api_Msg h' v' (q ++ [z]) → Ext h h' → R v' h') →
        BsP st_S_api_Msg 1 [(0, z.v)] h2 fun x32 h31 => VH Pg (Builtin.append_ #[t_S_api_Msg, t_S_api_Msg] t_S_api_Msg #[v, x32]) h31 R := by
      intro z R hR
      refine bs (n0 := h2.size) (e := t_api_Msg) [z] rfl (Nat.le_refl _) rfl (by decide) (by kernel_rfl) rfl fun v5 h5 o5 e5 => ?_
      have e5' := e2.trans e5
      refine app T_Msg (o.ext e5) (o5.sl (U := No) fun _ _ h => h) e5'.le (by simp; omega) (by decide) fun v6 h6 o6 e6 _ => ?_
      exact hR _ _ o6 (e5'.own e6 (Nat.le_refl _))
    have tailA : ∀ (y' : Value) (b2 : List Msg), Sl U h y' b2 → b2.length ≤ b'.length + 1 → mergeM (m :: a') (n :: b') = m :: mergeM a' b2 → m_buf_Merge_j38 x y' v h2 N K := by
      intro y' b2 s2 hl2 hm
      unfold m_buf_Merge_j38
      refine (sa.ext e2).ea (by omega) gm ?_
      refine push m _ fun v' h' o' e' => ?_
      refine sa.part (a := 1) (b := (m :: a').length) (by rfl) rfl (by simp) (Nat.le_refl _) fun x' s' => ?_
      rw [List.take_length] at s'
      refine hN ((x', a'), (y', b2), (v', q ++ [m])) h' ⟨e', s', s2, o', ?_, by simp; omega⟩ (by simp; omega)
      simp only
      rw [← hq, hm]; simp
    rw [BiP_eql]
    refine cdp (fun hc => ?_) (fun hc => ?_)
    · have hlt : n.key < m.key := by rcases cmp_cases m.key n.key with ⟨q, _⟩ | ⟨q, _⟩ | ⟨_, q⟩ <;> first | exact q | omega
      refine (sb.ext e2).ea (by omega) gn ?_
      refine push n _ fun v' h' o' e' => ?_
      refine sb.part (a := 1) (b := (n :: b').length) (by rfl) rfl (by simp) (Nat.le_refl _) fun y' s' => ?_
      rw [List.take_length] at s'
      refine hN ((x, m :: a'), (y', b'), (v', q ++ [n])) h' ⟨e', sa, s', o', ?_, by simp; omega⟩ (by simp)
      simp only
      rw [← hq]
      conv => rhs; rw [mergeM]
      simp [hlt]
    · rw [BiP_eql]
      have hnlt : ¬ n.key < m.key := by
        rcases cmp_cases m.key n.key with ⟨_, q⟩ | ⟨_, q⟩ | ⟨q, _⟩
        · exact slt_asymm q
        · rw [q]; exact slt_irrefl _
        · exact absurd q hc
      refine cdp (fun he => ?_) (fun he => ?_)
      · have heq : m.key = n.key := cmp_eq.1 he
        refine sb.part (a := 1) (b := (n :: b').length) (by rfl) rfl (by simp) (Nat.le_refl _) fun y' s' => ?_
        rw [List.take_length] at s'
        refine tailA y' b' s' (by omega) ?_
        rw [mergeM, if_neg hnlt, if_pos heq]
      · have hne : m.key ≠ n.key := fun e => he (cmp_eq.2 e)
        refine tailA y (n :: b') sb (by simp) ?_
        rw [mergeM, if_neg hnlt, if_neg hne]
  · rw [decide_eq_false (by omega : ¬ (0 : Int) < (b'.length : Int))]
    exact done (.inr (List.eq_nil_of_length_eq_zero (by omega)))
end
end Go.Sg
/-! Contracts of fan, and of lex.In. -/
namespace Go.Sg
open Go Vc
section
variable {h : Heap} {K : Kt} {U : Nat → Prop}
theorem c_lex_In {s : Span} {k : Str} (r : ∀ h', Ext h h' → K (.bool (inSpan s k)) h') : Ca f_lex_In #[s.v, str k] h K := by
  obtain ⟨lo, hi, top⟩ := s
  refine m_lex_In_ok (bxa (cs := [str lo, str hi, .bool top]) fun b h1 e1 hb k1 _ => ?_)
  have r := r h1 e1
  unfold inSpan at r
  refine fv (by rw [k1.get]; rfl) ?_
  rw [BiP_sgeq]
  refine cdp (fun hlo => ?_) (fun hlo => ?_)
  · rw [decide_eq_true hlo] at r
    refine fv (by rw [k1.get]; rfl) ?_
    refine cd (fun ht => ?_) (fun ht => ?_)
    · subst ht; exact r
    · subst ht
      refine fv (by rw [k1.get]; rfl) ?_
      rw [BiP_slss]
      unfold m_lex_In_j17
      simpa using r
  · rw [decide_eq_false hlo] at r
    exact ⟨rfl, rfl, rfl, rfl, r⟩
/-- The kid of a key: how many pivots are not behind it. -/
def wayOf (p : List Str) (k : Str) : Nat := pos id p k + (if has id p k then 1 else 0)
theorem c_fan_Way {x : Value} {p : List Str} {k : Str} (s : Sl U h x p) (ha : Asc id p) (hl : p.length ≤ 2 ^ 40) (r : ∀ h', Ext h h' → K (int (wayOf p k)) h') : Ca f_fan_Way #[x, str k] h K := by
  refine m_fan_Way_ok (c_find_str s ha hl fun h1 e1 => ?_)
  have r := r h1 e1
  have hp : pos id p k ≤ p.length := pos_le
  rw [ex20, ex21]
  unfold wayOf at r
  refine cd (fun hk => ?_) (fun hk => ?_)
  · rw [hk] at r
    refine add64 (by omega) ?_
    unfold m_fan_Way_j7
    simpa using r
  · rw [hk] at r
    unfold m_fan_Way_j7
    simpa using r
/-- The span of the i-th kid, of pivots, within a span. -/
def ownSpan (p : List Str) (i : Nat) : Span := ⟨if i = 0 then [] else p.getD (i - 1) [], if i = p.length then [] else p.getD i [], decide (i = p.length)⟩
def kidSpan (p : List Str) (i : Nat) (s : Span) : Span := if (meet (ownSpan p i) s).empty then noSpan else meet (ownSpan p i) s
def kidIs (p : List Str) (i : Nat) (s : Span) : Bool := !(meet (ownSpan p i) s).empty
theorem c_fan_Span {x : Value} {p : List Str} {i : Nat} {s : Span} (sp : Sl U h x p) (hl : p.length ≤ 2 ^ 40) (hi : i ≤ p.length)
    (r : ∀ h', Ext h h' → K (.tuple #[(kidSpan p i s).v, .bool (kidIs p i s)]) h') : Ca f_fan_Span #[x, int i, s.v] h K := by
  refine m_fan_Span_ok (bxa (cs := s.cs) fun b1 h1 e1 hb1 k1 s1 => ?_)
  refine ala fun b2 h2 e2 hb2 k2 s2 => ?_
  have k1 := k1.ext e2
  have e12 := e1.trans e2
  rw [BiP_lss]
  refine cdp (fun h => absurd h (by omega)) fun _ => ?_
  refine sp.len ?_
  rw [BiP_gtr]
  unfold m_fan_Span_j12
  refine cdp (fun h => absurd h (by omega)) fun _ => ?_
  unfold m_fan_Span_j16
  refine sp.len ?_
  rw [BiP_eql]
  have hd : decide ((i : Int) = p.length) = decide (i = p.length) := by
    by_cases h : i = p.length
    · simp [h]
    · have : ¬ (i : Int) = p.length := by omega
      simp [h, this]
  rw [hd]
  refine ⟨_, _, rfl, rfl, ?_⟩
  refine alst (vs := [str [], str [], .bool (decide (i = p.length))]) rfl rfl rfl fun b3 h3 e3 hb3 k3 s3 => ?_
  have e13 := e12.trans e3
  have k1 := k1.ext e3
  have k2 := k2.ext e3
  have fin : ∀ (h5 : Heap), Ex (fun b => b = b3) h3 h5 → Blk h5 b3 (ownSpan p i).cs → m_fan_Span_j39 (ptr b1 0) (ptr b2 0) (ptr b3 0) h5 K := by
    intro h5 e5 k5
    have k1 := k1.ex e5 (by omega : ¬ b1 = b3)
    have k2 := k2.ex e5 (by omega : ¬ b2 = b3)
    have e15 : Ext h h5 := e13.andThen e5 fun x hx => by omega
    unfold m_fan_Span_j39
    refine (LdA_b k5 rfl).2 ((LdA_b k1 rfl).2 ?_)
    refine c_lex_Meet (a := ownSpan p i) (b := s) fun h6 e6 => ?_
    rw [ex20, ex21]
    refine StA_b (vs := (kidSpan p i s).cs) (k2.ext e6) rfl rfl rfl fun h7 _ e7 k7 => ?_
    refine (LdA_b k7 rfl).2 ?_
    exact r h7 ((e15.trans e6).andThen e7 fun x hx => by omega)
  have mid : ∀ (lo : Str) (h4 : Heap), lo = (ownSpan p i).lo → Ex (fun b => b = b3) h3 h4 → Blk h4 b3 [str lo, str [], .bool (decide (i = p.length))] → m_fan_Span_j30 x (int i) (ptr b1 0) (ptr b2 0) (ptr b3 0) h4 K := by
    intro lo h4 hlo e4 k4
    unfold m_fan_Span_j30
    refine fv (by rw [k4.get]; rfl) ?_
    rw [UnP_not]
    by_cases hip : i = p.length
    · rw [decide_eq_true hip]
      have : (ownSpan p i).cs = [str lo, str [], .bool (decide (i = p.length))] := by unfold Span.cs ownSpan at *; simp [hip] at hlo ⊢; rw [hlo]
      exact fin h4 e4 (by rw [this]; exact k4)
    · rw [decide_eq_false hip]
      have hlt : i < p.length := by omega
      have e14 : Ext h h4 := e13.andThen e4 fun x hx => by omega
      refine (sp.ext e14).ei (x := p[i]) (by omega) (by rw [Int.toNat_natCast]; exact List.getElem?_eq_getElem hlt) rfl ?_
      rw [FaP_ptr]
      refine StP_b k4 (by simp) rfl fun h5 _ e5 k5 => ?_
      refine fin h5 (e4.trans e5) ?_
      have : (ownSpan p i).cs = [str lo, str p[i], .bool (decide (i = p.length))] := by
        unfold Span.cs ownSpan at *; simp [hip, hlt, List.getD_eq_getElem?_getD] at hlo ⊢; rw [hlo]
      rw [this]; exact k5
  rw [BiP_gtr]
  refine cdp (fun hpos => ?_) (fun hz => ?_)
  · refine sub64 (by omega) ?_
    have hlt : i - 1 < p.length := by omega
    refine (sp.ext e13).ei (x := p[i - 1]) (by omega) (by rw [show ((i : Int) - 1).toNat = i - 1 from by omega]; exact List.getElem?_eq_getElem hlt) rfl ?_
    rw [FaP_ptr]
    refine StP_b k3 (by simp) rfl fun h4 _ e4 k4 => ?_
    refine mid _ h4 ?_ e4 k4
    unfold ownSpan
    have : ¬ i = 0 := by omega
    simp [this, hlt, List.getD_eq_getElem?_getD]
  · refine mid [] h3 ?_ (Ex.refl _ _) k3
    unfold ownSpan
    have : i = 0 := by omega
    simp [this]
theorem c_fan_Insert {x : Value} {p : List Str} {i : Nat} {k : Str} (sp : Sl U h x p) (hl : p.length < 2 ^ 40) (hi : i ≤ p.length) (r : ∀ v' h', Ow h.size t_string h' v' (p.take i ++ [k] ++ p.drop i) → Ext h h' → K v' h') : Ca f_fan_Insert #[x, int i, str k] h K := by
  refine m_fan_Insert_ok (c_Clone_str sp (by omega) fun v1 h1 o1 e1 => ?_)
  rw [BiP_lss]
  refine cdp (fun h => absurd h (by omega)) fun _ => ?_
  refine sp.len ?_
  rw [BiP_gtr]
  unfold m_fan_Insert_j10
  refine cdp (fun h => absurd h (by omega)) fun _ => ?_
  unfold m_fan_Insert_j11
  refine bs (n0 := h1.size) (e := t_string) [k] rfl (Nat.le_refl _) rfl (by decide) (by kernel_rfl) rfl fun v5 h5 o5 e5 => ?_
  refine c_Insert_str (a := k) (o1.ext e5) o5 (fun b hb => ?_) hi (Nat.le_trans e1.le e5.le) (by omega) fun v6 h6 o6 e6 => ?_
  · rcases o1.cases' with ⟨rfl, _⟩ | ⟨g, cap, rfl, hg, ow⟩
    · simp [Value.ownBlock] at hb
    · have := ow.lt; simp [Value.ownBlock] at hb; omega
  · exact r _ _ o6 ((e1.trans e5).own e6 (Nat.le_refl _))
theorem c_fan_Remove {x : Value} {p : List Str} {i : Nat} (sp : Sl U h x p) (hl : p.length < 2 ^ 40) (hi : i < p.length) (r : ∀ v' h', Ow h.size t_string h' v' (p.take i ++ p.drop (i + 1)) → Ext h h' → K v' h') : Ca f_fan_Remove #[x, int i] h K := by
  refine m_fan_Remove_ok (c_Clone_str sp (by omega) fun v1 h1 o1 e1 => ?_)
  rw [BiP_lss]
  refine cdp (fun h => absurd h (by omega)) fun _ => ?_
  refine sp.len ?_
  rw [BiP_geq]
  unfold m_fan_Remove_j10
  refine cdp (fun h => absurd h (by omega)) fun _ => ?_
  unfold m_fan_Remove_j11
  refine add64 (by omega) ?_
  exact c_Delete_str o1 (by omega) hi fun v6 h6 o6 e6 => r _ _ o6 (e1.own e6 (Nat.le_refl _))
end
end Go.Sg
/-! Contracts of lex, the rest; of leaf.Halve. -/
namespace Go.Sg
open Go Vc
section
variable {h : Heap} {K : Kt} {U : Nat → Prop}
theorem isp {s : Str} {k} {i : Int} {b : UInt8} {R : Value → Prop} (h0 : 0 ≤ i) (hb : s[i.toNat]? = some b) (r : R (.int .u8 b.toNat)) : IsP (str s) (.int k i) R := by
  refine ⟨_, k, i, rfl, rfl, h0, b, ?_, r⟩
  obtain ⟨hl, hv⟩ := List.getElem?_eq_some_iff.1 hb
  have hl2 : i.toNat < (ByteArray.mk s.toArray).size := by simpa [ByteArray.size] using hl
  rw [getElem?_pos (ByteArray.mk s.toArray) i.toNat hl2]
  have : (ByteArray.mk s.toArray)[i.toNat] = s[i.toNat] := rfl
  rw [this, hv]
theorem ssp {s : Str} {lo hi : Option Value} {a b : Nat} {R : Value → Prop} (ha : bnd lo 0 = some a) (hb : bnd hi s.length = some b) (hab : a ≤ b) (hbl : b ≤ s.length) (r : R (str ((s.take b).drop a))) : SsP (str s) lo hi R := by
  refine ⟨_, a, b, rfl, ha, by simpa [ByteArray.size] using hb, hab, by simpa [ByteArray.size] using hbl, ?_⟩
  have : (ByteArray.mk s.toArray).extract a b = ⟨((s.take b).drop a).toArray⟩ := by
    apply ByteArray.ext
    rw [ByteArray.data_extract]
    apply Array.toList_inj.1
    simp [List.extract_eq_take_drop, List.drop_take]
  rw [this]; exact r
def shared : Str → Str → Nat
  | a :: s, b :: t => if a = b then shared s t + 1 else 0
  | _, _ => 0
theorem shared_le : ∀ (s t : Str), shared s t ≤ s.length ∧ shared s t ≤ t.length
  | [], _ => by simp [shared]
  | _ :: _, [] => by simp [shared]
  | a :: s, b :: t => by
    rw [shared]; split
    · have := shared_le s t; simp; omega
    · simp
theorem shared_eq : ∀ {s t : Str} {n : Nat}, n ≤ s.length → n ≤ t.length → (∀ i, i < n → s[i]? = t[i]?) → (∀ a b, s[n]? = some a → t[n]? = some b → a ≠ b) → shared s t = n
  | [], t, n, h1, _, _, _ => by simp at h1; subst h1; cases t <;> rfl
  | a :: s, [], n, _, h2, _, _ => by simp at h2; subst h2; rfl
  | a :: s, b :: t, 0, _, _, _, h4 => by rw [shared, if_neg (h4 a b rfl rfl)]
  | a :: s, b :: t, n + 1, h1, h2, h3, h4 => by
    have h0 : a = b := by have := h3 0 (by omega); simpa using this
    rw [shared, if_pos h0, shared_eq (n := n) (by simpa using h1) (by simpa using h2) (fun i hi => by have := h3 (i + 1) (by omega); simpa using this) (fun x y hx hy => h4 x y (by simpa using hx) (by simpa using hy))]
theorem c_lex_Shared {s t : Str} (hl : s.length < 2 ^ 40) (r : K (int (shared s t)) h) : Ca f_lex_Shared #[str s, str t] h K := by
  refine m_lex_Shared_ok ?_
  unfold m_lex_Shared
  rw [LenP_str, LenP_str]
  refine min_int ?_
  have hm : min (s.length : Int) t.length = ((min s.length t.length : Nat) : Int) := by omega
  rw [hm]
  refine lop (σ := Nat) (fun i => [int 0, int i]) (fun i h' => h' = h ∧ i ≤ min s.length t.length ∧ ∀ j, j < i → s[j]? = t[j]?) (fun i => min s.length t.length - i) 0 rfl ⟨rfl, Nat.zero_le _, fun j hj => by omega⟩ ?_
  rintro i h1 N ⟨rfl, hi, hj⟩ hN
  simp only [m_lex_Shared_l6, gv_zero, gv_succ]
  rw [BiP_lss]
  refine cdp (fun hlt => ?_) (fun hge => ?_)
  · have g1 : s[i]? = some s[i] := List.getElem?_eq_getElem (by omega)
    have g2 : t[i]? = some t[i] := List.getElem?_eq_getElem (by omega)
    refine isp (by omega) (by rw [Int.toNat_natCast]; exact g1) ?_
    refine isp (by omega) (by rw [Int.toNat_natCast]; exact g2) ?_
    rw [BiP_neq]
    refine cdp (fun hne => ?_) (fun heq => ?_)
    · rw [shared_eq (n := i) (by omega) (by omega) hj (fun a b ha hb e => hne (by rw [g1] at ha; rw [g2] at hb; cases ha; cases hb; rw [e]))] at r
      exact r
    · have heq : s[i] = t[i] := by
        have : (s[i].toNat : Int) = t[i].toNat := by simpa using heq
        exact UInt8.toNat_inj.1 (by omega)
      refine add64 (by omega) ?_
      refine hN (i + 1) h1 ⟨rfl, by omega, fun j hj' => ?_⟩ (by omega)
      by_cases hji : j = i
      · subst hji; rw [g1, g2, heq]
      · exact hj j (by omega)
  · unfold m_lex_Shared_j14
    have : min s.length t.length = i := by omega
    rw [this]
    rw [shared_eq (n := i) (by omega) (by omega) hj (fun a b ha hb => by
      have := (List.getElem?_eq_some_iff.1 ha).1; have := (List.getElem?_eq_some_iff.1 hb).1; omega)] at r
    exact r
/-- The shortest text behind a and not behind b. -/
def cut (a b : Str) : Str := b.take (shared a b + 1)
theorem shared_lt : ∀ {a b : Str}, a < b → shared a b < b.length
  | [], [], h => absurd h (slt_irrefl _)
  | [], _ :: _, _ => by simp [shared]
  | _ :: _, [], h => by simp at h
  | x :: a, y :: b, h => by
    rw [shared]; split
    · rename_i e
      subst e
      have := List.cons_lt_cons_iff.1 h
      rcases this with h | ⟨_, h⟩
      · exact absurd h (UInt8.lt_irrefl _)
      · have := shared_lt h; simp; omega
    · simp
theorem c_lex_Cut {a b : Str} (hl : a.length < 2 ^ 40) (hl2 : b.length < 2 ^ 40) (hab : a < b) (r : K (.tuple #[str (cut a b), .bool true]) h) : Ca f_lex_Cut #[str a, str b] h K := by
  refine m_lex_Cut_ok ?_
  unfold m_lex_Cut
  rw [BiP_sgeq]
  refine cdp (fun h => absurd hab h) fun _ => ?_
  refine c_lex_Shared hl ?_
  have := shared_lt hab
  refine add64 (by omega) ?_
  refine ssp (a := 0) (b := shared a b + 1) rfl (by rw [show ((shared a b : Int) + 1) = ((shared a b + 1 : Nat) : Int) from by omega]; exact bnd_nat) (Nat.zero_le _) (by omega) ?_
  rw [List.drop_zero]; exact r
theorem c_leaf_Halve {x : Value} {l : List Pair} (s : Sl U h x l) (ha : Asc Pair.key l) (hk : ∀ p ∈ l, p.key.length < 2 ^ 40) (h2 : 2 ≤ l.length) (hl : l.length ≤ 2 ^ 40)
    (r : ∀ v w h' p q, l[(l.length + 1) / 2 - 1]? = some p → l[(l.length + 1) / 2]? = some q → Ow h.size t_api_Pair h' v (l.take ((l.length + 1) / 2)) → Ow h.size t_api_Pair h' w (l.drop ((l.length + 1) / 2)) → Ext h h' → K (.tuple #[v, w, str (cut p.key q.key), .bool true]) h') : Ca f_leaf_Halve #[x] h K := by
  refine m_leaf_Halve_ok (s.len ?_)
  rw [BiP_lss]
  refine cdp (fun h => absurd h (by omega)) fun _ => ?_
  have hq : ((l.length : Int) + 1).tdiv 2 = (((l.length + 1) / 2 : Nat) : Int) := by
    rw [Int.tdiv_eq_ediv_of_nonneg (by omega)]; omega
  refine s.len (add64 (by omega) (quo64 (by omega) (by rw [hq]; omega) ?_))
  rw [hq]
  generalize hn : (l.length + 1) / 2 = n at *
  refine sub64 (by omega) ?_
  have g1 : l[n - 1]? = some l[n - 1] := List.getElem?_eq_getElem (by omega)
  have g2 : l[n]? = some l[n] := List.getElem?_eq_getElem (by omega)
  refine s.ef (by omega) (by rw [show ((n : Int) - 1).toNat = n - 1 from by omega]; exact g1) rfl ?_
  refine s.ef (by omega) (by rw [Int.toNat_natCast]; exact g2) rfl ?_
  have hlt : (l[n - 1]).key < (l[n]).key := rises_get.1 (rises_asc.2 ha) (n - 1) _ _ g1 (by rw [show n - 1 + 1 = n from by omega]; exact g2)
  refine c_lex_Cut (hk _ (List.getElem_mem _)) (hk _ (List.getElem_mem _)) hlt ⟨trivial, ?_⟩
  rw [ex20, ex21]
  refine s.part (a := 0) (b := n) rfl bnd_nat (Nat.zero_le _) (by omega) fun v' s1 => ?_
  refine s.part (a := n) (b := l.length) bnd_nat rfl (by omega) (Nat.le_refl _) fun w' s2 => ?_
  rw [List.drop_zero] at s1
  rw [List.take_length] at s2
  refine c_Clone_Pair s1 (by simp; omega) fun v3 h3 o3 e3 => ⟨trivial, ?_⟩
  refine c_Clone_Pair (s2.ext e3) (by simp; omega) fun v4 h4 o4 e4 => ⟨trivial, ?_⟩
  exact r _ _ _ _ _ g1 g2 (o3.ext e4) (o4.low e3.le) (e3.trans e4)
end
end Go.Sg
/-! Contracts of check. -/
namespace Go.Sg
open Go Vc
section
variable {K : Value → Prop} {k : IntKind} {a b : Int}
theorem kadd (hw : k.wrap (a + b) = a + b) (r : K (.int k (a + b))) : BiP .add (.int k a) (.int k b) K := ⟨_, by simp [binVal]; rfl, by rw [hw]; exact r⟩
theorem ksub (hw : k.wrap (a - b) = a - b) (r : K (.int k (a - b))) : BiP .sub (.int k a) (.int k b) K := ⟨_, by simp [binVal]; rfl, by rw [hw]; exact r⟩
theorem krem (hb : b ≠ 0) (r : K (.int k (a.tmod b))) : BiP .rem (.int k a) (.int k b) K := ⟨_, by simp [binVal, hb], r⟩
theorem kquo (hb : b ≠ 0) (hw : k.wrap (a.tdiv b) = a.tdiv b) (r : K (.int k (a.tdiv b))) : BiP .quo (.int k a) (.int k b) K := ⟨_, by simp [binVal, hb]; rfl, by rw [hw]; exact r⟩
theorem wrap32 {n : Int} (h1 : 0 ≤ n) (h2 : n < 4294967296) : IntKind.wrap .u32 n = n := wrapU rfl h1 (by simpa [IntKind.bits] using h2)
end
def sumStep (p : Nat × Nat) (b : UInt8) : Nat × Nat := ((p.1 + b.toNat) % 65521, (p.2 + (p.1 + b.toNat) % 65521) % 65521)
def sumMore (s : Nat) (l : List UInt8) : Nat :=
  let p := l.foldl sumStep (s % 65536 % 65521, s / 65536 % 65521)
  p.2 * 65536 + p.1
theorem sum_fold_lt (l : List UInt8) : ∀ (p : Nat × Nat), p.1 < 65521 → p.2 < 65521 → (l.foldl sumStep p).1 < 65521 ∧ (l.foldl sumStep p).2 < 65521 := by
  induction l with
  | nil => intro p h1 h2; exact ⟨h1, h2⟩
  | cons b l ih => intro p _ _; exact ih _ (Nat.mod_lt _ (by decide)) (Nat.mod_lt _ (by decide))
theorem tmod_nat (a b : Nat) : ((a : Int)).tmod (b : Int) = ((a % b : Nat) : Int) := (Int.ofNat_tmod a b).symm
theorem tdiv_nat (a b : Nat) : ((a : Int)).tdiv (b : Int) = ((a / b : Nat) : Int) := (Int.ofNat_tdiv a b).symm
section
variable {h : Heap} {K : Kt} {U : Nat → Prop}
theorem shl_or {lo hi : Nat} {R : Value → Prop} (h1 : lo < 65536) (h2 : hi < 65536) (r : R (.int .u32 ((hi * 65536 + lo : Nat) : Int))) :
    BiP .shl (.int .u32 hi) (.int .u64 16) fun x20 => BiP .or x20 (.int .u32 lo) R := by
  have e1 : binVal .shl (.int .u32 (hi : Int)) (.int .u64 16) = some (.int .u32 ((hi * 65536 : Nat) : Int)) := by
    simp only [binVal]
    rw [if_neg (by decide)]
    have : (hi : Int) * 2 ^ (min (Int.toNat 16) (IntKind.bits .u32)) = ((hi * 65536 : Nat) : Int) := by
      have h3 : (2 : Int) ^ (min (Int.toNat 16) (IntKind.bits .u32)) = 65536 := by decide
      rw [h3]; omega
    rw [this, wrap32 (by omega) (by omega)]
  have e2 : binVal .or (.int .u32 ((hi * 65536 : Nat) : Int)) (.int .u32 (lo : Int)) = some (.int .u32 ((hi * 65536 + lo : Nat) : Int)) := by
    have h3 : ((BitVec.ofInt 32 ((hi * 65536 : Nat) : Int) ||| BitVec.ofInt 32 (lo : Int)).toNat : Int) = ((hi * 65536 + lo : Nat) : Int) := by
      rw [BitVec.ofInt_natCast, BitVec.ofInt_natCast, BitVec.toNat_or, BitVec.toNat_ofNat, BitVec.toNat_ofNat, Nat.mod_eq_of_lt (by omega), Nat.mod_eq_of_lt (by omega)]
      have := Nat.two_pow_add_eq_or_of_lt (i := 16) (b := lo) (by omega) hi
      rw [Nat.mul_comm hi 65536]
      exact congrArg Nat.cast this.symm
    simp only [binVal]
    rw [if_neg (by simp)]
    show some (Value.int .u32 (IntKind.wrap .u32 ((BitVec.ofInt 32 ((hi * 65536 : Nat) : Int) ||| BitVec.ofInt 32 (lo : Int)).toNat : Int))) = _
    rw [h3, wrap32 (by omega) (by omega)]
  rw [BiP_some e1, BiP_some e2]; exact r
theorem c_check_More {x : Value} {l : List UInt8} {s : Nat} (sl : Sl U h x l) (hs : s < 4294967296) (hl : l.length ≤ 2 ^ 40) (r : K (.int .u32 (sumMore s l)) h) : Ca f_check_More #[.int .u32 s, x] h K := by
  refine m_check_More_ok ?_
  unfold m_check_More
  refine krem (by decide) ?_
  have q1 : ((s : Int)).tmod 65536 = ((s % 65536 : Nat) : Int) := tmod_nat s 65536
  rw [q1]
  refine krem (by decide) ?_
  have q2 : (((s % 65536 : Nat) : Int)).tmod 65521 = ((s % 65536 % 65521 : Nat) : Int) := tmod_nat _ 65521
  rw [q2]
  have q3 : ((s : Int)).tdiv 65536 = ((s / 65536 : Nat) : Int) := tdiv_nat s 65536
  refine kquo (by decide) (by rw [q3, wrap32 (by omega) (by omega)]) ?_
  rw [q3]
  refine krem (by decide) ?_
  have q4 : (((s / 65536 : Nat) : Int)).tmod 65521 = ((s / 65536 % 65521 : Nat) : Int) := tmod_nat _ 65521
  rw [q4]
  refine sl.len ?_
  have b1 : s % 65536 % 65521 < 65521 := Nat.mod_lt _ (by decide)
  have b2 : s / 65536 % 65521 < 65521 := Nat.mod_lt _ (by decide)
  unfold sumMore at r
  generalize s % 65536 % 65521 = lo0 at *
  generalize s / 65536 % 65521 = hi0 at *
  refine lop (σ := Nat) (fun i => [.int .u32 ((l.take i).foldl sumStep (lo0, hi0)).1, .int .u32 ((l.take i).foldl sumStep (lo0, hi0)).2, int i]) (fun i h' => h' = h ∧ i ≤ l.length) (fun i => l.length - i) 0 (by simp) ⟨rfl, Nat.zero_le _⟩ ?_
  rintro i h1 N ⟨rfl, hi⟩ hN
  have hb := sum_fold_lt (l.take i) (lo0, hi0) b1 b2
  simp only [m_check_More_l7, gv_zero, gv_succ]
  rw [BiP_lss]
  refine cdp (fun hlt => ?_) (fun hge => ?_)
  · have g1 : l[i]? = some l[i] := List.getElem?_eq_getElem (by omega)
    have hnext : (l.take (i + 1)).foldl sumStep (lo0, hi0) = sumStep ((l.take i).foldl sumStep (lo0, hi0)) l[i] := by
      rw [List.take_add_one, g1, List.foldl_append]; rfl
    have hN := hN (i + 1) h1 ⟨rfl, by omega⟩ (by omega)
    rw [hnext] at hN
    generalize (l.take i).foldl sumStep (lo0, hi0) = p at *
    obtain ⟨lo, hi⟩ := p
    simp only at hb
    refine sl.ei (by omega) (by rw [Int.toNat_natCast]; exact g1) rfl ?_
    generalize l[i] = c at *
    have hc := c.toNat_lt
    rw [CvP_int, wrap32 (by omega) (by omega)]
    refine kadd (wrap32 (by omega) (by omega)) ?_
    rw [← Int.natCast_add]
    refine krem (by decide) ?_
    have q5 : (((lo + c.toNat : Nat) : Int)).tmod 65521 = (((lo + c.toNat) % 65521 : Nat) : Int) := tmod_nat _ 65521
    rw [q5]
    have b3 : (lo + c.toNat) % 65521 < 65521 := Nat.mod_lt _ (by decide)
    refine kadd (wrap32 (by omega) (by omega)) ?_
    rw [← Int.natCast_add]
    refine krem (by decide) ?_
    have q6 : (((hi + (lo + c.toNat) % 65521 : Nat) : Int)).tmod 65521 = (((hi + (lo + c.toNat) % 65521) % 65521 : Nat) : Int) := tmod_nat _ 65521
    rw [q6]
    refine add64 (by omega) ?_
    exact hN
  · have : i = l.length := by omega
    subst this
    rw [List.take_length] at *
    unfold m_check_More_j19
    exact shl_or (by omega) (by omega) r
end
end Go.Sg
