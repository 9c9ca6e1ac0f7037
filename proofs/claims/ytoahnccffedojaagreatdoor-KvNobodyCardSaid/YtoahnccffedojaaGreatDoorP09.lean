/-
  Part 9 of a proof: own texts, merged by program.
-/
import Derived.Lib.Bytealg
import Derived.Lib.AppendZerosOnto
import Derived.Lib.Overlaps
import Derived.Test.YtoahnccffedojaaGreatDoorP04
import Derived.Test.YtoahnccffedojaaGreatDoorP06
import Derived.Test.YtoahnccffedojaaGreatDoorP07
import Derived.Test.YtoahnccffedojaaGreatDoorP08
set_option linter.unusedVariables false
set_option linter.unusedSimpArgs false
/-! Contracts of lex, and of what compares texts. -/
namespace Go.Sg
open Go Vc
theorem cx {f : FuncId} {fn : Func} {args : Array Value} {h : Heap} {K : Kt} {e : Array Value → Sem Value} {v : Value} (hf : Pg.funcs[f]? = some fn) (h1 : (fn.name == "runtime.NumGoroutine") = false) (h2 : fn.body.isNone = true)
    (h3 : Extern.findNext fn = none) (h4 : Extern.find fn = some e) (hr : ∀ w, (e args).run Pg w = .ok v w) (r : K v h) : Cx f args h K := by
  intro w hw
  have h1' : ¬ fn.name = "runtime.NumGoroutine" := by simpa using h1
  have h2' : fn.body = none := by simpa using h2
  exact ⟨v, w, by simp [callFunc, hf, h1', h2', h3, h4, hr], Kin.refl w, by rw [hw]; exact r⟩
/-- How two texts stand to each other: -1, 0, 1. -/
def cmp (a b : Str) : Int := Go.Lib.compareBytes a b
theorem cmp_lt : ∀ {a b : Str}, cmp a b < 0 ↔ a < b
  | [], [] => by simp [cmp, Go.Lib.compareBytes]
  | [], _ :: _ => by simp [cmp, Go.Lib.compareBytes]
  | _ :: _, [] => by simp [cmp, Go.Lib.compareBytes]
  | x :: a, y :: b => by
    have ih := cmp_lt (a := a) (b := b)
    unfold cmp at ih ⊢
    rw [Go.Lib.compareBytes, List.cons_lt_cons_iff]
    by_cases h1 : x < y
    · simp [h1]
    · by_cases h2 : y < x
      · have : x ≠ y := fun e => h1 (by subst e; exact h2)
        simp [h1, h2, this]
      · have : x = y := UInt8.le_antisymm (UInt8.not_lt.1 h2) (UInt8.not_lt.1 h1)
        simp [h1, h2, ih, this]
theorem cmp_eq : ∀ {a b : Str}, cmp a b = 0 ↔ a = b
  | [], [] => by simp [cmp, Go.Lib.compareBytes]
  | [], _ :: _ => by simp [cmp, Go.Lib.compareBytes]
  | _ :: _, [] => by simp [cmp, Go.Lib.compareBytes]
  | x :: a, y :: b => by
    have ih := cmp_eq (a := a) (b := b)
    unfold cmp at ih ⊢
    rw [Go.Lib.compareBytes]
    by_cases h1 : x < y
    · have : x ≠ y := fun e => by subst e; exact absurd h1 (UInt8.lt_irrefl _)
      simp [h1, this]
    · by_cases h2 : y < x
      · have : x ≠ y := fun e => by subst e; exact absurd h2 (UInt8.lt_irrefl _)
        simp [h1, h2, this]
      · have : x = y := UInt8.le_antisymm (UInt8.not_lt.1 h2) (UInt8.not_lt.1 h1)
        simp [h1, h2, ih, this]
theorem cmp_cases (a b : Str) : (cmp a b = -1 ∧ a < b) ∨ (cmp a b = 0 ∧ a = b) ∨ (cmp a b = 1 ∧ b < a) := by
  induction a generalizing b with
  | nil => cases b <;> simp [cmp, Go.Lib.compareBytes]
  | cons x a ih =>
    cases b with
    | nil => simp [cmp, Go.Lib.compareBytes]
    | cons y b =>
      have ih := ih b
      unfold cmp at ih ⊢
      rw [Go.Lib.compareBytes]
      simp only [List.cons_lt_cons_iff]
      by_cases h1 : x < y
      · simp [h1]
      · by_cases h2 : y < x
        · simp [h1, h2]
        · have : x = y := UInt8.le_antisymm (UInt8.not_lt.1 h2) (UInt8.not_lt.1 h1)
          simpa [h1, h2, this] using ih
section
variable {h : Heap} {K : Kt} {a b : Str}
theorem c_CompareString (r : K (int (cmp a b)) h) : Ca f_bytealg_CompareString #[str a, str b] h K :=
  m_bytealg_CompareString_ok (cx b_bytealg_abigen_runtime_cmpstring_at (by kernel_rfl) (by kernel_rfl) (by kernel_rfl) (by kernel_rfl) (fun w => Go.Lib.run_compareString _ _ w) (by simpa [cmp] using r))
theorem c_strings_Compare (r : K (int (cmp a b)) h) : Ca f_strings_Compare #[str a, str b] h K := m_strings_Compare_ok (c_CompareString r)
theorem c_lex_Compare (r : K (int (cmp a b)) h) : Ca f_lex_Compare #[str a, str b] h K := m_lex_Compare_ok (c_strings_Compare r)
end
/-! Spans. -/
structure Span where
  lo : Str
  hi : Str
  top : Bool
deriving DecidableEq
def Span.v (s : Span) : Value := .agg #[str s.lo, str s.hi, .bool s.top]
def Span.cs (s : Span) : List Value := [str s.lo, str s.hi, .bool s.top]
def allSpan : Span := ⟨[], [], true⟩
section
variable {h : Heap} {K : Kt}
theorem c_lex_All (r : ∀ h', Ext h h' → K allSpan.v h') : Ca f_lex_All #[] h K := by
  refine m_lex_All_ok ?_
  refine al (v := _) fun b h1 e1 hb k1 _ => ?_
  refine ⟨_, _, rfl, rfl, ?_⟩
  refine StA_blk (vs := [str [], str [], .bool true]) k1 (by simp [Value.cells]) rfl rfl ?_
  refine LdA_blk (hsets_blk _ _ k1) rfl ?_
  exact r _ (e1.own (n0 := h.size) (hsets_ex (by omega)) (Nat.le_refl _))
end
end Go.Sg
/-! More of the words at known values: variables of a call's own, texts' minimum and maximum. -/
namespace Go.Sg
open Go Vc
section
variable {h : Heap} {K : Value → Prop} {H : Heap → Prop} {Q : Value → Heap → Prop}
theorem BxP_iff {t v} : BxP t v h Q ↔ Q (ptr h.size 0) (h.push (.cells v.cells t)) := Iff.rfl
theorem AlP_iff {t v} : AlP t (some v) h Q ↔ Q (ptr h.size 0) (h.push (.cells v.cells t)) := by simp [AlP, BxP]
theorem hget_push {o : Obj} {b k} : hget (h.push o) b k = if b = h.size then (match o with | .cells c _ _ => c[k]? | _ => none) else hget h b k := by
  unfold hget
  rw [Array.getElem?_push]
  by_cases hb : b = h.size
  · simp only [hb, if_true]; cases o <;> rfl
  · simp only [hb, if_false]
theorem hfz_push {o : Obj} {b k} : hfz (h.push o) b k = if b = h.size then (match o with | .cells _ _ (lo, hi) => decide (lo ≤ k) && decide (k < hi) | _ => false) else hfz h b k := by
  unfold hfz
  rw [Array.getElem?_push]
  by_cases hb : b = h.size
  · simp only [hb, if_true]; cases o <;> rfl
  · simp only [hb, if_false]
theorem hget_hset {b o v b' o'} : hget (hset h b o v) b' o' = if b' = b ∧ o' = o ∧ (hget h b o).isSome = true then some v else hget h b' o' := by
  by_cases hb : b' = b
  · subst hb
    unfold hget hset
    rw [Array.getElem?_modify, if_pos rfl]
    cases hx : h[b']? with
    | none => simp
    | some x =>
      cases x <;> simp
      rename_i c _ _
      by_cases ho : o' = o
      · subst ho
        by_cases hl : o' < c.size
        · simp [hl]
        · simp [hl]
      · simp [ho, Ne.symm ho]
  · rw [if_neg (by simp [hb])]
    unfold hget; rw [hset_ne hb]
theorem hfz_hset {b o v b' o'} : hfz (hset h b o v) b' o' = hfz h b' o' := by
  by_cases hb : b' = b
  · subst hb
    unfold hfz hset
    rw [Array.getElem?_modify, if_pos rfl]
    cases hx : h[b']? with
    | none => simp
    | some x => cases x <;> simp
  · unfold hfz; rw [hset_ne hb]
/-- The n cells from a place on. -/
def rd (h : Heap) (b : Nat) : Nat → Nat → Option (List Value)
  | _, 0 => some []
  | o, n + 1 => (hget h b o).bind fun v => (rd h b (o + 1) n).map (v :: ·)
theorem rd_iff {b : Nat} : ∀ {n o : Nat} {vs : List Value}, rd h b o n = some vs ↔ vs.length = n ∧ ∀ j v, vs[j]? = some v → hget h b (o + j) = some v
  | 0, o, vs => by
    simp only [rd, Option.some.injEq, List.length_eq_zero_iff]
    constructor
    · rintro rfl; exact ⟨rfl, fun j v h => by simp at h⟩
    · rintro ⟨rfl, _⟩; rfl
  | n + 1, o, vs => by
    simp only [rd]
    cases vs with
    | nil => simp [Option.bind_eq_some_iff]
    | cons x vs =>
      simp only [Option.bind_eq_some_iff, Option.map_eq_some_iff, List.length_cons]
      constructor
      · rintro ⟨v, h1, l, h2, h3⟩
        cases h3
        have := (rd_iff (n := n)).1 h2
        refine ⟨by rw [this.1], fun j w hj => ?_⟩
        cases j with
        | zero => simp at hj; subst hj; exact h1
        | succ j => simp at hj; have := this.2 j w hj; rw [← this]; congr 1; omega
      · rintro ⟨h1, h2⟩
        refine ⟨x, by simpa using h2 0 x rfl, vs, (rd_iff (n := n)).2 ⟨by omega, fun j w hj => ?_⟩, rfl⟩
        have := h2 (j + 1) w (by simpa using hj)
        rw [← this]; congr 1; omega
theorem LdA_iff {b o n} : LdA n (ptr b o) h K ↔ ∃ vs, rd h b o n = some vs ∧ K (.agg vs.toArray) := by
  constructor
  · rintro ⟨b', o', vs, e, h1, h2, k⟩; cases e; exact ⟨vs, rd_iff.2 ⟨h1, h2⟩, k⟩
  · rintro ⟨vs, h1, k⟩; obtain ⟨h1, h2⟩ := rd_iff.1 h1; exact ⟨b, o, vs, rfl, h1, h2, k⟩
theorem StP_iff {b o v} : StP (ptr b o) v h H ↔ (hget h b o).isSome = true ∧ hfz h b o = false ∧ one' v = true ∧ H (hset h b o v) := by
  constructor
  · rintro ⟨b', o', e, k⟩; cases e; exact k
  · intro k; exact ⟨b, o, rfl, k⟩
theorem StA_iff {b o n} {cs : Array Value} : StA n (ptr b o) (.agg cs) h H ↔ cs.size = n ∧ cs.toList.all one' = true ∧ hthere h b o n ∧ H (hsets h b o cs.toList) := by
  constructor
  · rintro ⟨b', o', cs', e, e2, k⟩; cases e; cases e2; exact k
  · intro k; exact ⟨b, o, cs, rfl, rfl, k⟩
theorem BlP_iff {i parts} : BlP (some i) parts K ↔ ∃ cs, Instr.fill (i.places[·]?) i.zero parts = some cs ∧ K (.agg cs) := by
  constructor
  · rintro ⟨i', cs, e, k⟩; cases e; exact ⟨cs, k⟩
  · rintro ⟨cs, k⟩; exact ⟨i, cs, rfl, k⟩
theorem max_str {a b : Str} {ts t} (r : Q (str (if a < b then b else a)) h) : VH Pg (Builtin.max_ ts t #[str a, str b]) h Q := by
  refine vh_pure (fun w _ => ?_) r
  have := bl_eq (a := a) (b := b)
  unfold Vc.bytesLt at this
  by_cases hab : a < b
  · simp [Builtin.max_, Builtin.max2, str, Op.stringOp, asBool, this, hab]
  · simp [Builtin.max_, Builtin.max2, str, Op.stringOp, asBool, this, hab]
theorem le_str {a b : Str} : (Op.bytesLess a b || a == b) = decide (¬ b < a) := by
  have := bl_eq (a := a) (b := b)
  unfold Vc.bytesLt at this
  rw [this]
  rcases cmp_cases a b with ⟨_, h⟩ | ⟨_, h⟩ | ⟨_, h⟩
  · have : ¬ b < a := List.lt_asymm h
    simp [h, this]
  · subst h; simp [List.lt_irrefl]
  · have h2 : ¬ a < b := List.lt_asymm h
    have h3 : a ≠ b := fun e => by subst e; exact List.lt_irrefl _ h
    simp [h, h2, h3]
theorem min_str {a b : Str} {ts t} (r : Q (str (if b < a then b else a)) h) : VH Pg (Builtin.min_ ts t #[str a, str b]) h Q := by
  refine vh_pure (fun w _ => ?_) r
  have := le_str (a := a) (b := b)
  by_cases hab : b < a
  · simp [Builtin.min_, Builtin.min2, str, Op.stringOp, asBool, this, hab]
  · simp [Builtin.min_, Builtin.min2, str, Op.stringOp, asBool, this, hab]
theorem BiP_sleq {a b : Str} {K : Value → Prop} : BiP .leq (str a) (str b) K ↔ K (.bool (decide (¬ b < a))) := by
  simp only [BiP, binVal, str, toList_str, Option.some.injEq, exists_eq_left', Vc.bytesLt, le_str]
theorem BiP_sgtr {a b : Str} {K : Value → Prop} : BiP .gtr (str a) (str b) K ↔ K (.bool (decide (b < a))) := by
  simp only [BiP, binVal, str, toList_str, Option.some.injEq, exists_eq_left', Vc.bytesLt, le_str]
  have : (!decide (¬ b < a)) = decide (b < a) := by by_cases h : b < a <;> simp only [h, not_true_eq_false, not_false_eq_true, decide_true, decide_false, Bool.not_true, Bool.not_false]
  rw [this]
theorem BiP_sgeq {a b : Str} {K : Value → Prop} : BiP .geq (str a) (str b) K ↔ K (.bool (decide (¬ a < b))) := by
  simp only [BiP, binVal, str, toList_str, Option.some.injEq, exists_eq_left', bl_eq]
  have : (!decide (a < b)) = decide (¬ a < b) := by by_cases h : a < b <;> simp only [h, not_true_eq_false, not_false_eq_true, decide_true, decide_false, Bool.not_true, Bool.not_false]
  rw [this]
theorem sadd {a b : Str} {K : Value → Prop} (hl : a.length + b.length < 2 ^ 62) (r : K (str (a ++ b))) : BiP .add (str a) (str b) K := by
  refine ⟨_, ?_, r⟩
  simp only [binVal, str]
  rw [if_neg]
  · congr 2
  · simp only [ByteArray.size, List.size_toArray, IntKind.max, IntKind.signed, IntKind.bits]
    simp
    omega
/-- A new variable, of a struct. -/
theorem bxa {t} {cs : List Value} (r : ∀ b h', Ext h h' → b = h.size → Blk h' b cs → h'.size = h.size + 1 → Q (ptr b 0) h') : BxP t (.agg cs.toArray) h Q := bx r
theorem ala {t} {cs : List Value} (r : ∀ b h', Ext h h' → b = h.size → Blk h' b cs → h'.size = h.size + 1 → Q (ptr b 0) h') : AlP t (some (.agg cs.toArray)) h Q := al r
theorem bx1 {t} {v : Value} (hv : v.cells = #[v]) (r : ∀ b h', Ext h h' → b = h.size → Blk h' b [v] → h'.size = h.size + 1 → Q (ptr b 0) h') : BxP t v h Q :=
  bx fun b h' e hb k s => r b h' e hb (by rw [hv] at k; exact k) s
theorem LdA_b {b n} {cs : List Value} (k : Blk h b cs) (hn : cs.length = n) : LdA n (ptr b 0) h K ↔ K (.agg cs.toArray) := by
  rw [LdA_iff]
  have : rd h b 0 n = some cs := rd_iff.2 ⟨hn, fun j v hj => by rw [k.get, Nat.zero_add]; exact hj⟩
  simp [this]
/-- A store into a block: what is there then. -/
theorem StP_b {b o v} {cs : List Value} (k : Blk h b cs) (ho : o < cs.length) (hv : one' v = true) (r : ∀ h', h'.size = h.size → Ex (fun x => x = b) h h' → Blk h' b (cs.set o v) → H h') : StP (ptr b o) v h H :=
  StP_blk k ho hv (r _ (size_hset _ _ _ _) (hset_ex rfl) (hset_blk k o v))
theorem StA_b {b n} {vs cs : List Value} (k : Blk h b cs) (hn : cs.length = n) (hl : vs.length = n) (hv : vs.all one' = true) (r : ∀ h', h'.size = h.size → Ex (fun x => x = b) h h' → Blk h' b vs → H h') : StA n (ptr b 0) (.agg vs.toArray) h H :=
  StA_blk k (by omega) hl hv (r _ (size_hsets _ _ _ _) (hsets_ex rfl) (by have := hsets_blk vs 0 k; rwa [over_all _ _ (by omega)] at this))
theorem Fs_b {b o i v} {cs : List Value} (k : Blk h b cs) (ho : o + i < cs.length) (hv : one' v = true) (r : ∀ h', h'.size = h.size → Ex (fun x => x = b) h h' → Blk h' b (cs.set (o + i) v) → H h') : Fs i (ptr b o) v h H := by
  simp only [Fs, NilP_ptr, FaP_ptr]; exact StP_b k ho hv r
theorem Blk.at_ne {h h' : Heap} {b c cs} (k : Blk h c cs) (e : Ex (fun x => x = b) h h') (hc : c ≠ b) : Blk h' c cs := k.ex e hc
end
end Go.Sg
/-! Contracts of lex: spans. -/
namespace Go.Sg
open Go Vc
def Span.empty (s : Span) : Bool := !s.top && decide (¬ s.lo < s.hi)
/-- What two spans have in common. -/
def meet (a b : Span) : Span :=
  ⟨if a.lo < b.lo then b.lo else a.lo, if a.top then (if b.top then [] else b.hi) else if b.top then a.hi else if b.hi < a.hi then b.hi else a.hi, a.top && b.top⟩
def noSpan : Span := ⟨[], [], false⟩
section
variable {h : Heap} {K : Kt}
theorem c_lex_Empty {s : Span} (r : ∀ h', Ext h h' → K (.bool s.empty) h') : Ca f_lex_Empty #[s.v] h K := by
  refine m_lex_Empty_ok ?_
  obtain ⟨lo, hi, top⟩ := s
  refine bxa fun b h1 e1 hb k1 _ => ?_
  have r := r h1 e1
  cases top <;> simpa [m_lex_Empty_j14, k1.get, BiP_sleq, Span.empty] using r
theorem meet_j67 {b4 b6 : Nat} {s : Span} {z : List Value} (k4 : Blk h b4 z) (hz : z.length = 3) (k6 : Blk h b6 s.cs)
    (r : ∀ h', Ex (fun x => x = b4 ∨ x = b6) h h' → K (.tuple #[(if s.empty then noSpan else s).v, .bool !s.empty]) h') : m_lex_Meet_j67 (ptr b4 0) (ptr b6 0) h K := by
  refine (LdA_b k6 rfl).2 ?_
  refine c_lex_Empty (s := s) fun h1 e1 => ?_
  refine cd (fun he => ?_) (fun he => ?_)
  · refine ⟨_, _, rfl, rfl, ?_⟩
    refine StA_b (vs := noSpan.cs) (k4.ext e1) hz rfl rfl fun h2 _ e2 k2 => ?_
    refine (LdA_b k2 rfl).2 ?_
    have := r h2 (e1.toM.trans (e2.mono fun x _ hx => .inl hx))
    rw [he] at this; exact this
  · refine (LdA_b (k6.ext e1) rfl).2 ?_
    refine StA_b (vs := s.cs) (k4.ext e1) hz rfl rfl fun h2 _ e2 k2 => ?_
    refine (LdA_b k2 rfl).2 ?_
    have := r h2 (e1.toM.trans (e2.mono fun x _ hx => .inl hx))
    rw [he] at this; exact this
theorem c_lex_Meet {a b : Span} (r : ∀ h', Ext h h' → K (.tuple #[(if (meet a b).empty then noSpan else meet a b).v, .bool !(meet a b).empty]) h') : Ca f_lex_Meet #[a.v, b.v] h K := by
  refine m_lex_Meet_ok ?_
  obtain ⟨alo, ahi, atop⟩ := a
  obtain ⟨blo, bhi, btop⟩ := b
  refine bxa fun b1 h1 e1 hb1 k1 s1 => ?_
  refine bxa fun b2 h2 e2 hb2 k2 s2 => ?_
  refine ala fun b3 h3 e3 hb3 k3 s3 => ?_
  have k1 := (k1.ext e2).ext e3
  have k2 := k2.ext e3
  simp only [Fv_ptr, k1.get, k2.get, List.getElem?_cons_zero, List.getElem?_cons_succ, Nat.zero_add, Option.some.injEq, exists_eq_left']
  refine max_str ?_
  have fin : ∀ (b4 : Nat) (h4 : Heap) (s : Span), Ext h3 h4 → b4 = h3.size → Blk h4 b4 s.cs → s = meet ⟨alo, ahi, atop⟩ ⟨blo, bhi, btop⟩ → m_lex_Meet_j67 (ptr b3 0) (ptr b4 0) h4 K := by
    intro b4 h4 s e4 hb4 k4 hs
    refine meet_j67 (k3.ext e4) rfl k4 fun h5 e5 => ?_
    subst hs
    exact r h5 ((((e1.trans e2).trans e3).trans e4).andThen e5 (by intro x hx; omega))
  have fin2 : ∀ (b4 : Nat) (h4 : Heap) (hi : Str), Ext h3 h4 → b4 = h3.size → Blk h4 b4 [str (if alo < blo then blo else alo), str [], .bool (atop && btop)] → hi = (meet ⟨alo, ahi, atop⟩ ⟨blo, bhi, btop⟩).hi →
      StP (ptr b4 1) (str hi) h4 fun h5 => m_lex_Meet_j67 (ptr b3 0) (ptr b4 0) h5 K := by
    intro b4 h4 hi e4 hb4 k4 hs
    refine StP_b k4 (by simp) rfl fun h5 s5 e5 k5 => ?_
    refine meet_j67 (s := meet ⟨alo, ahi, atop⟩ ⟨blo, bhi, btop⟩) ((k3.ext e4).ex e5 (by omega)) rfl (by subst hs; exact k5) fun h6 e6 => ?_
    exact r h6 (((((e1.trans e2).trans e3).trans e4).andThen e5 (by intro x hx; omega)).andThen e6 (by intro x hx; omega))
  cases atop <;> cases btop <;> simp only [CdP_true, CdP_false, Fv_ptr, k1.get, k2.get, List.getElem?_cons_zero, List.getElem?_cons_succ, Nat.zero_add, Option.some.injEq, exists_eq_left']
  all_goals refine ⟨_, _, rfl, rfl, ?_⟩
  all_goals refine alst (vs := _) rfl rfl rfl fun b4 h4 e4 hb4 k4 s4 => ?_
  all_goals have k1' := k1.ext e4
  all_goals have k2' := k2.ext e4
  all_goals simp only [m_lex_Meet_j28, m_lex_Meet_j38, m_lex_Meet_j51, CdP_true, CdP_false, UnP_not, Bool.not_true, Bool.not_false, Fv_ptr, FaP_ptr, k1'.get, k2'.get, List.getElem?_cons_zero, List.getElem?_cons_succ, Nat.zero_add, Option.some.injEq, exists_eq_left']
  · refine min_str ?_
    exact fin2 b4 h4 _ e4 hb4 k4 rfl
  · exact fin2 b4 h4 _ e4 hb4 k4 rfl
  · exact fin2 b4 h4 _ e4 hb4 k4 rfl
  · exact fin b4 h4 ⟨_, _, _⟩ e4 hb4 k4 rfl
end
end Go.Sg
/-! Contracts of the library's binary search. -/
namespace Go.Sg
open Go Vc
theorem avg {i j : Nat} {R : Value → Prop} (hr : i + j < 2 ^ 62) (r : R (int (((i + j) / 2 : Nat) : Int))) :
    BiP .add (int i) (int j) fun a => CvP .u64 a fun b => BiP .shr b (.int .u64 1) fun c => CvP .i64 c fun d => R d := by
  refine add64 (by omega) ?_
  have e1 : IntKind.wrap .u64 ((i : Int) + j) = (i : Int) + j := wrapU rfl (by omega) (by simp only [IntKind.bits]; omega)
  have e2 : binVal .shr (.int .u64 ((i : Int) + j)) (.int .u64 1) = some (.int .u64 (((i + j) / 2 : Nat) : Int)) := by
    have : ((i : Int) + j).fdiv (2 ^ (min (Int.toNat 1) 64)) = (((i + j) / 2 : Nat) : Int) := by
      have h2 : (2 : Int) ^ (min (Int.toNat 1) 64) = 2 := by decide
      rw [h2, Int.fdiv_eq_ediv_of_nonneg _ (by decide)]
      omega
    simp only [binVal, IntKind.bits]
    rw [if_neg (by omega), this]
  simp only [CvP_int]
  rw [e1, BiP_some e2, CvP_int, wrap64 (by omega) (by omega)]
  exact r
section
variable {α : Type} {U : Nat → Prop} {h : Heap} {K : Kt} {x tv fv : Value} {l : List α} {c : α → Int}
/-- Where a list parts: ahead of n what is less, from n on what is not. -/
def Parts (l : List α) (c : α → Int) (n : Nat) : Prop := n ≤ l.length ∧ (∀ i a, l[i]? = some a → i < n → c a < 0) ∧ ∀ i a, l[i]? = some a → n ≤ i → 0 ≤ c a
def hit (l : List α) (c : α → Int) (n : Nat) : Bool := match l[n]? with
  | some a => decide (c a = 0)
  | none => false
theorem bsearch_gen [El α] {E : Value → Value → Heap → (Value → Prop) → Prop} {ev : α → Value} {m : Nat}
    (he : ∀ h' (i : Int) a (R : Value → Prop), Sl U h' x l → 0 ≤ i → l[i.toNat]? = some a → R (ev a) → E x (int i) h' R)
    (hc : ∀ a h' (R : Kt), (∀ h'', Ext h' h'' → R (int (c a)) h'') → CvH Pg fv #[ev a, tv] h' R)
    (s : Sl U h x l) (hl : l.length ≤ 2 ^ 40) (hp : Parts l c m) (r : ∀ h', Ext h h' → K (.tuple #[int m, .bool (hit l c m)]) h') :
    LenP (some true) x fun x1 => LoP (fun vs h nx4 =>
      BiP .lss (gv vs 0) (gv vs 1) fun x5 => CdP x5
        (BiP .add (gv vs 0) (gv vs 1) fun x6 => CvP .u64 x6 fun x7 => BiP .shr x7 (.int .u64 1) fun x8 => CvP .i64 x8 fun x9 =>
          E x x9 h fun x11 => CvH Pg fv #[x11, tv] h fun x13 h12 => BiP .lss x13 (.int .i64 0) fun x14 => CdP x14
            (BiP .add x9 (.int .i64 1) fun x15 => nx4 [x15, (gv vs 1)] h12)
            (nx4 [(gv vs 0), x9] h12))
        (BiP .lss (gv vs 0) x1 fun x18 => CdP x18
          (E x (gv vs 0) h fun x20 => CvH Pg fv #[x20, tv] h fun x22 h21 => BiP .eql x22 (.int .i64 0) fun x23 => K (.tuple #[(gv vs 0), x23]) h21)
          (K (.tuple #[(gv vs 0), (.bool false)]) h))) [(.int .i64 0), x1] h := by
  refine s.len ?_
  refine lop (σ := Nat × Nat) (fun p => [int p.1, int p.2]) (fun p h' => Ext h h' ∧ p.1 ≤ m ∧ m ≤ p.2 ∧ p.2 ≤ l.length) (fun p => p.2 - p.1) (0, l.length) rfl ⟨Ex.refl _ _, Nat.zero_le _, hp.1, Nat.le_refl _⟩ ?_
  rintro ⟨i, j⟩ h1 N ⟨e1, h2, h3, h4⟩ hN
  simp only at h2 h3 h4
  simp only [gv_zero, gv_succ]
  rw [BiP_lss]
  refine cdp (fun hlt => ?_) (fun hge => ?_)
  · refine avg (by omega) ?_
    have hk : (i + j) / 2 < l.length := by omega
    refine he _ _ (l[(i + j) / 2]) _ (s.ext e1) (by omega) (by rw [Int.toNat_natCast]; exact List.getElem?_eq_getElem hk) ?_
    refine hc _ _ _ fun h5 e5 => ?_
    rw [BiP_lss]
    refine cdp (fun hneg => ?_) (fun hnn => ?_)
    · refine add64 (by omega) ?_
      have := hN ((i + j) / 2 + 1, j) h5 ⟨e1.trans e5, ?_, h3, h4⟩ (by simp only; omega)
      · simpa using this
      · refine Nat.lt_of_not_le fun hle => ?_
        have := hp.2.2 _ _ (List.getElem?_eq_getElem hk) hle
        omega
    · refine hN (i, (i + j) / 2) h5 ⟨e1.trans e5, h2, ?_, by simp only; omega⟩ (by simp only; omega)
      refine Nat.le_of_not_lt fun hle => ?_
      have := hp.2.1 _ _ (List.getElem?_eq_getElem hk) hle
      omega
  · have him : i = m := by omega
    subst him
    rw [BiP_lss]
    refine cdp (fun hlt => ?_) (fun hge2 => ?_)
    · have hk : i < l.length := by omega
      refine he _ _ (l[i]) _ (s.ext e1) (by omega) (by simp [hk]) ?_
      refine hc _ _ _ fun h5 e5 => ?_
      rw [BiP_eql]
      have := r h5 (e1.trans e5)
      simpa [hit, hk] using this
    · have := r h1 e1
      have hn : l[i]? = none := List.getElem?_eq_none (by omega)
      simpa [hit, hn] using this
end
section
variable {U : Nat → Prop} {h : Heap} {K : Kt} {x fv : Value} {k : Str}
/-- A comparing function, by the key. -/
def Cmp {α : Type} (fv : Value) (ev : α → Value) (key : α → Str) (k : Str) : Prop := ∀ a h' (R : Kt), (∀ h'', Ext h' h'' → R (int (cmp (key a) k)) h'') → CvH Pg fv #[ev a, str k] h' R
def Pair.v (p : Pair) : Value := .agg #[str p.key, str p.val]
def Msg.v (p : Msg) : Value := .agg #[str p.key, .bool p.del, str p.val]
theorem c_BinarySearchFunc_Pair {l : List Pair} {m : Nat} (hc : Cmp fv Pair.v Pair.key k) (s : Sl U h x l) (hl : l.length ≤ 2 ^ 40) (hp : Parts l (fun a => cmp a.key k) m)
    (r : ∀ h', Ext h h' → K (.tuple #[int m, .bool (hit l (fun a => cmp a.key k) m)]) h') : Ca f_slices_BinarySearchFunc_api_Pair #[x, str k, fv] h K :=
  m_slices_BinarySearchFunc_api_Pair_ok (bsearch_gen (E := Ea 2) (ev := Pair.v) (fun h' i a R s h0 ha r => Sl.ea s h0 ha r) hc s hl hp r)
theorem c_BinarySearchFunc_Msg {l : List Msg} {m : Nat} (hc : Cmp fv Msg.v Msg.key k) (s : Sl U h x l) (hl : l.length ≤ 2 ^ 40) (hp : Parts l (fun a => cmp a.key k) m)
    (r : ∀ h', Ext h h' → K (.tuple #[int m, .bool (hit l (fun a => cmp a.key k) m)]) h') : Ca f_slices_BinarySearchFunc_api_Msg #[x, str k, fv] h K :=
  m_slices_BinarySearchFunc_api_Msg_ok (bsearch_gen (E := Ea 3) (ev := Msg.v) (fun h' i a R s h0 ha r => Sl.ea s h0 ha r) hc s hl hp r)
theorem c_BinarySearchFunc_str {l : List Str} {m : Nat} (hc : Cmp fv str id k) (s : Sl U h x l) (hl : l.length ≤ 2 ^ 40) (hp : Parts l (fun a => cmp a k) m)
    (r : ∀ h', Ext h h' → K (.tuple #[int m, .bool (hit l (fun a => cmp a k) m)]) h') : Ca f_slices_BinarySearchFunc_string #[x, str k, fv] h K :=
  m_slices_BinarySearchFunc_string_ok (bsearch_gen (E := Ei 1) (ev := str) (fun h' i a R s h0 ha r => Sl.ei s h0 ha rfl r) hc s hl hp r)
end
end Go.Sg
/-! Copying, clearing, and slices of the call's own whose block is known. -/
namespace Go.Sg
open Go Vc
section
variable {α : Type} [El α] {t t' e ty : TypeId} {by' : Nat} {h : Heap} {K : Kt} {n0 : Nat}
/-- The block g is a row of cap elements, of which the first are l. -/
def Own (g cap : Nat) (e : TypeId) (h : Heap) (l : List α) : Prop :=
  ∃ cur : List Value, h[g]? = some (.cells cur.toArray e (0, 0)) ∧ l.length ≤ cap ∧ cap ≤ maxLen ∧ cur.length = cap * El.z α ∧ cur.take (l.length * El.z α) = cells l
theorem Ow.cases' {e v} {l : List α} (o : Ow n0 e h v l) : (v = .slice none 0 0 ∧ l = []) ∨ ∃ g cap, v = .slice (some ⟨g, 0, none⟩) l.length cap ∧ n0 ≤ g ∧ Own g cap e h l := by
  rcases o with o | ⟨g, cap, cur, h1, h2, h3, h4, h5, h6, h7⟩
  · exact .inl o
  · exact .inr ⟨g, cap, h1, h2, cur.toList, by simpa using h3, h4, h5, by simpa using h6, h7⟩
theorem Own.ow {g cap} {l : List α} (o : Own g cap e h l) (hg : n0 ≤ g) : Ow n0 e h (.slice (some ⟨g, 0, none⟩) l.length cap) l := by
  obtain ⟨cur, h3, h4, h5, h6, h7⟩ := o
  exact .inr ⟨g, cap, cur.toArray, rfl, hg, h3, h4, h5, by simpa using h6, by simpa using h7⟩
theorem Own.ow' {g cap n} {l : List α} (o : Own g cap e h l) (hg : n0 ≤ g) (hn : l.length = n) : Ow n0 e h (.slice (some ⟨g, 0, none⟩) n cap) l := hn ▸ o.ow hg
theorem Own.le {g cap} {l : List α} (o : Own g cap e h l) : l.length ≤ cap := by obtain ⟨cur, h3, h4, h5, h6, h7⟩ := o; exact h4
theorem Own.lt {g cap} {l : List α} (o : Own g cap e h l) : g < h.size := by obtain ⟨cur, h3, _⟩ := o; exact (Array.getElem?_eq_some_iff.1 h3).1
theorem Own.pre {g cap} {l : List α} (o : Own g cap e h l) (n : Nat) : Own g cap e h (l.take n) := by
  obtain ⟨cur, h3, h4, h5, h6, h7⟩ := o
  refine ⟨cur, h3, by simp; omega, h5, h6, ?_⟩
  rw [← cells_take, ← h7, List.take_take, List.length_take]
  congr 1
  rcases Nat.le_total n l.length with h | h
  · rw [Nat.min_eq_left h, Nat.min_eq_left (Nat.mul_le_mul_right _ h)]
  · rw [Nat.min_eq_right h, Nat.min_eq_right (Nat.mul_le_mul_right _ h)]
theorem Own.at {g cap} {l : List α} (o : Own g cap e h l) {j v} (hj : (cells l)[j]? = some v) : hget h g j = some v := by
  obtain ⟨cur, h3, h4, h5, h6, h7⟩ := o
  rw [← h7, List.getElem?_take] at hj
  split at hj
  · simpa [hget, h3] using hj
  · cases hj
/-- Cells written over the row from the k-th element on. -/
theorem Own.write {g cap} {l : List α} (o : Own g cap e h l) (k : Nat) (m : List α) (hk : k ≤ l.length) (hm : k + m.length ≤ cap) : Own g cap e (hsets h g (k * El.z α) (cells m)) (l.take k ++ m ++ l.drop (k + m.length)) := by
  obtain ⟨cur, h3, h4, h5, h6, h7⟩ := o
  have hb : Blk h g cur := ⟨e, h3⟩
  have hz := El.pos (α := α)
  have hle : k * El.z α + (cells m).length ≤ cur.length := by rw [cells_length, ← Nat.add_mul, h6]; exact Nat.mul_le_mul_right _ hm
  have hT : (hsets h g (k * El.z α) (cells m))[g]? = some (.cells (over cur (k * El.z α) (cells m)).toArray e (0, 0)) := by
    have hgen : ∀ (vs : List Value) (h : Heap) (cs : List Value) (o : Nat), h[g]? = some (.cells cs.toArray e (0, 0)) → (hsets h g o vs)[g]? = some (.cells (over cs o vs).toArray e (0, 0)) := by
      intro vs
      induction vs with
      | nil => intro h cs o hh; exact hh
      | cons v vs ih =>
        intro h cs o hh
        rw [hsets, over]
        refine ih _ _ _ ?_
        rw [hset, Array.getElem?_modify, if_pos rfl, hh]
        simp
    exact hgen _ _ _ _ h3
  have hll : (l.take k ++ m ++ l.drop (k + m.length)).length = max l.length (k + m.length) := by simp; omega
  refine ⟨_, hT, by omega, h5, by rw [over_length, h6], ?_⟩
  rw [over_eq _ _ _ hle, hll]
  obtain ⟨rest, hr⟩ : ∃ rest, cur = cells l ++ rest := ⟨_, by rw [← h7]; exact (List.take_append_drop _ cur).symm⟩
  have hlt : cur.take (k * El.z α) = cells (l.take k) := by
    rw [← cells_take, ← h7, List.take_take, Nat.min_eq_left (Nat.mul_le_mul_right _ hk)]
  have fin : ∀ (x : List α) (r : List Value) (N : Nat), N = x.length → (cells x ++ r).take (N * El.z α) = cells x := by
    intro x r N hN
    rw [hN, ← cells_length, List.take_left]
  rw [hlt]
  have hcm : k * El.z α + (cells m).length = (k + m.length) * El.z α := by rw [cells_length, Nat.add_mul]
  rw [hcm, hr]
  by_cases hlm : k + m.length ≤ l.length
  · have : (cells l ++ rest).drop ((k + m.length) * El.z α) = cells (l.drop (k + m.length)) ++ rest := by
      rw [List.drop_append, cells_drop, cells_length, ← Nat.sub_mul]
      congr 1
      rw [Nat.sub_eq_zero_of_le hlm, Nat.zero_mul, List.drop_zero]
    rw [this]
    have := fin (l.take k ++ m ++ l.drop (k + m.length)) rest (max l.length (k + m.length)) hll.symm
    simpa [List.append_assoc] using this
  · have h0 : l.drop (k + m.length) = [] := List.drop_eq_nil_of_le (by omega)
    rw [h0, List.append_nil]
    have := fin (l.take k ++ m) ((cells l ++ rest).drop ((k + m.length) * El.z α)) (max l.length (k + m.length)) (by simp; omega)
    simpa [List.append_assoc] using this
end
end Go.Sg
/-! Copying, clearing and appending to rows of the call's own. -/
namespace Go.Sg
open Go Vc
section
variable {α : Type} [El α] {t t' e ty : TypeId} {by' : Nat} {h : Heap} {K : Kt} {n0 : Nat}
theorem Sl.cells {U v} {l : List α} (s : Sl U h v l) : ∃ a cap, v = .slice a l.length cap ∧ ((a = none ∧ l = []) ∨ ∃ b o, a = some ⟨b, o, none⟩ ∧ ∀ j v, (cells l)[j]? = some v → hget h b (o + j) = some v) := by
  obtain ⟨a, cap, h1, h2, h3, h4⟩ := s.out
  refine ⟨a, cap, h1, ?_⟩
  cases a with
  | none => exact .inl ⟨rfl, List.eq_nil_of_length_eq_zero (by have := h3 rfl; omega)⟩
  | some a =>
    obtain ⟨b, o, sp⟩ := a
    obtain ⟨k1, k2⟩ := h4 _ rfl
    simp only at k1
    subst k1
    refine .inr ⟨b, o, rfl, ?_⟩
    by_cases hl : l = []
    · subst hl; intro j v hj; simp at hj
    · exact (k2 hl).2.2
theorem run_first (w : World) {U v} {l : List α} (s : Sl U w.heap v l) (n : Nat) (hn : n ≤ l.length) : (Builtin.firstCells (El.z α) n v).run Pg w = .ok (cells (l.take n)).toArray w := by
  obtain ⟨a, cap, rfl, ⟨rfl, rfl⟩ | ⟨b, o, rfl, hc⟩⟩ := s.cells
  · simp [Builtin.firstCells]
  · simp only [Builtin.firstCells]
    have hl : (Sg.cells (l.take n)).length = n * El.z α := by rw [cells_length, List.length_take, Nat.min_eq_left hn]
    rw [← hl]
    refine run_loadCells_list (P := Pg) w ⟨b, o, none⟩ _ fun j v hj => ?_
    rw [Addr.add_lit, cell_hget]
    refine hc j v ?_
    rw [← cells_take, List.getElem?_take] at hj
    split at hj
    · exact hj
    · cases hj
theorem copy_own {U} (T : SlT α t e by') {g k dl dc cap : Nat} {src : Value} {l m : List α} (o : Own g cap e h l) (s : Sl U h src m) (hk : k ≤ l.length) (hm : k + min m.length dl ≤ cap)
    (r : ∀ h', Own g cap e h' (l.take k ++ m.take dl ++ l.drop (k + min m.length dl)) → Ex (fun x => x = g) h h' → K (int (min m.length dl : Nat)) h') :
    VH Pg (Builtin.copy_ #[t, t'] ty #[.slice (some ⟨g, k * El.z α, none⟩) dl dc, src]) h K := by
  obtain ⟨i, z, hi, hz, hs, hb, hzs⟩ := T.info
  intro w hw
  subst hw
  have hml : (m.take dl).length = min m.length dl := by simp; omega
  have hf := run_first w s (min m.length dl) (Nat.min_le_left _ _)
  have hmt : m.take (min m.length dl) = m.take dl := by
    rcases Nat.le_total m.length dl with h | h
    · rw [Nat.min_eq_left h, List.take_length, List.take_of_length_le h]
    · rw [Nat.min_eq_right h]
  rw [hmt] at hf
  have hlen : (Builtin.lenOf src).run Pg w = .ok m.length w := by
    obtain ⟨a, cap, rfl, _⟩ := s.cells; simp [Builtin.lenOf]
  have ow := o.write k (m.take dl) hk (by omega)
  rw [hml] at ow
  obtain ⟨cur, c1, c2, c3, c4, c5⟩ := o
  have hb' : Blk w.heap g cur := ⟨e, c1⟩
  have hst := run_storeCells_cells (P := Pg) g (k * El.z α) (cells (m.take dl)) 0 w (fun j hj => by
      rw [cell_hget, hb'.get, Nat.add_zero, List.getElem?_eq_getElem (by
        rw [cells_length, hml] at hj
        have : (k + min m.length dl) * El.z α ≤ cap * El.z α := Nat.mul_le_mul_right _ hm
        rw [Nat.add_mul] at this
        omega)]; rfl)
    (fun j _ => by rw [frozen_hfz]; exact hb'.fz _) (cells_one _)
  simp only [Nat.add_zero] at hst
  refine ⟨int (min m.length dl : Nat), w.setCells g (k * El.z α) (cells (m.take dl)), ?_, kin_sets _ _ _ _, ?_⟩
  rotate_left
  · rw [sets_hsets]
    exact r _ ow (hsets_ex rfl)
  · have hmin : m.length.min dl = min m.length dl := rfl
    simp [Builtin.copy_, run_underlying T.und, hlen, sizeOf, typeInfo, hi, hs, hmin, hf, hst, goInt]
theorem Own.ex {g cap} {h' : Heap} {M : Nat → Prop} {l : List α} (o : Own g cap e h l) (k : Ex M h h') (hm : ¬ M g) : Own g cap e h' l := by
  obtain ⟨cur, c1, c2⟩ := o; exact ⟨cur, k.get c1 hm, c2⟩
theorem Own.ext {g cap} {h' : Heap} {l : List α} (o : Own g cap e h l) (k : Ext h h') : Own g cap e h' l := o.ex k fun x => x
theorem Own.sl {U : Nat → Prop} {g cap} {l : List α} (o : Own g cap e h l) (hg : ¬ U g) : Sl U h (.slice (some ⟨g, 0, none⟩) l.length cap) l :=
  ⟨_, cap, rfl, o.le, (fun x => nomatch x), fun x hx => by
    cases hx
    exact ⟨rfl, fun _ => ⟨o.lt, hg, fun j v hj => by rw [Nat.zero_add]; exact o.at hj⟩⟩⟩
/-- append where there is room. -/
theorem app_room {U} (T : SlT α t e by') {g cap : Nat} {x : Value} {l m : List α} (o : Own g cap e h l) (s : Sl U h x m) (hm : l.length + m.length ≤ cap)
    (r : ∀ h', Own g cap e h' (l ++ m) → Ex (fun x => x = g) h h' → K (.slice (some ⟨g, 0, none⟩) (l.length + m.length) cap) h') :
    VH Pg (Builtin.append_ #[t, t] ty #[.slice (some ⟨g, 0, none⟩) l.length cap, x]) h K := by
  obtain ⟨i, z, hi, hz, hs, hb, hzs⟩ := T.info
  intro w hw
  subst hw
  have hf := run_first w s m.length (Nat.le_refl _)
  rw [List.take_length] at hf
  have hlen : (Builtin.lenOf x).run Pg w = .ok m.length w := by
    obtain ⟨a, cap, rfl, _⟩ := s.cells; simp [Builtin.lenOf]
  have ow := o.write l.length m (Nat.le_refl _) hm
  rw [List.take_length, List.drop_eq_nil_of_le (by omega), List.append_nil] at ow
  obtain ⟨cur, c1, c2, c3, c4, c5⟩ := o
  have hb' : Blk w.heap g cur := ⟨e, c1⟩
  have hst := run_storeCells_cells (P := Pg) g (l.length * El.z α) (cells m) 0 w (fun j hj => by
      rw [cell_hget, hb'.get, Nat.add_zero, List.getElem?_eq_getElem (by
        rw [cells_length] at hj
        have : (l.length + m.length) * El.z α ≤ cap * El.z α := Nat.mul_le_mul_right _ hm
        rw [Nat.add_mul] at this
        omega)]; rfl)
    (fun j _ => by rw [frozen_hfz]; exact hb'.fz _) (cells_one _)
  simp only [Nat.add_zero] at hst
  refine ⟨.slice (some ⟨g, 0, none⟩) (l.length + m.length) cap, w.setCells g (l.length * El.z α) (cells m), ?_, kin_sets _ _ _ _, ?_⟩
  rotate_left
  · rw [sets_hsets]
    exact r _ ow (hsets_ex rfl)
  · have hui : ∀ k, ¬ (TypeDesc.slice e = TypeDesc.int k) := fun k h => by cases h
    simp [Builtin.append_, run_underlying T.und, hlen, sizeOf, typeInfo, hi, hs, hf, Addr.add_lit, hst, hm]
/-- clear of what lies behind the list. -/
theorem clear_own (T : SlT α t e by') (hone : ∀ i z, Pg.info? e = some i → i.zero = some z → ∀ v ∈ z.cells.toList, v.oneCell' = true) {g k n c cap : Nat} {l : List α} (o : Own g cap e h l) (hk : l.length ≤ k) (hn : k + n ≤ cap)
    (r : ∀ h', Own g cap e h' l → Ex (fun x => x = g) h h' → K (.tuple #[]) h') :
    VH Pg (Builtin.clear_ #[t] ty #[.slice (some ⟨g, k * El.z α, none⟩) n c]) h K := by
  obtain ⟨i, z, hi, hz, hs, hb, hzs⟩ := T.info
  intro w hw
  subst hw
  cases n with
  | zero => exact ⟨_, w, by simp [Builtin.clear_, run_underlying T.und], Kin.refl _, r _ o (Ex.refl _ _)⟩
  | succ n =>
    have hzl : (Builtin.zeroCells z.cells (n + 1)).toList.length = (n + 1) * El.z α := by simp [Builtin.zeroCells, hzs]
    have hz1 : ∀ v ∈ (Builtin.zeroCells z.cells (n + 1)).toList, v.oneCell' = true := by
      intro v hv
      simp only [Builtin.zeroCells, Array.toList_map, List.mem_map, Array.toList_range, List.mem_range] at hv
      obtain ⟨j, hj, rfl⟩ := hv
      have hp : 0 < z.cells.size := by rw [hzs]; exact El.pos
      have hlt : j % z.cells.size < z.cells.size := Nat.mod_lt _ hp
      rw [getElem!_pos z.cells _ hlt]
      exact hone i z hi hz _ (by simp)
    obtain ⟨cur, c1, c2, c3, c4, c5⟩ := o
    have hb' : Blk w.heap g cur := ⟨e, c1⟩
    have hle : k * El.z α + (Builtin.zeroCells z.cells (n + 1)).toList.length ≤ cur.length := by
      rw [hzl, ← Nat.add_mul, c4]; exact Nat.mul_le_mul_right _ hn
    have hst := run_storeCells_cells (P := Pg) g (k * El.z α) (Builtin.zeroCells z.cells (n + 1)).toList 0 w (fun j hj => by
        rw [cell_hget, hb'.get, Nat.add_zero, List.getElem?_eq_getElem (by omega)]; rfl)
      (fun j _ => by rw [frozen_hfz]; exact hb'.fz _) hz1
    simp only [Nat.add_zero] at hst
    refine ⟨.tuple #[], w.setCells g (k * El.z α) (Builtin.zeroCells z.cells (n + 1)).toList, ?_, kin_sets _ _ _ _, ?_⟩
    · simp [Builtin.clear_, run_underlying T.und, zeroValue, typeInfo, hi, hz, hst]
    · rw [sets_hsets]
      refine r _ ?_ (hsets_ex rfl)
      have hgen : ∀ (vs : List Value) (h : Heap) (cs : List Value) (o : Nat), h[g]? = some (.cells cs.toArray e (0, 0)) → (hsets h g o vs)[g]? = some (.cells (over cs o vs).toArray e (0, 0)) := by
        intro vs
        induction vs with
        | nil => intro h cs o hh; exact hh
        | cons v vs ih =>
          intro h cs o hh
          rw [hsets, over]
          refine ih _ _ _ ?_
          rw [hset, Array.getElem?_modify, if_pos rfl, hh]
          simp
      refine ⟨_, hgen _ _ _ _ c1, c2, c3, by rw [over_length, c4], ?_⟩
      rw [over_eq _ _ _ hle, List.append_assoc, List.take_append_of_le_length (by rw [List.length_take]; have := Nat.mul_le_mul_right (El.z α) hk; have := Nat.mul_le_mul_right (El.z α) hn; rw [Nat.add_mul] at this; omega), List.take_take, Nat.min_eq_left (Nat.mul_le_mul_right _ hk), c5]
/-- append of n zeros, where there is no room: a new block. -/
theorem app_zeros {U} (T : SlT α t e by') (htn : Pg.underlying t' = some (.int .i64)) {x : Value} {l : List α} {cap n : Nat} {a : Option Addr} (hx : x = .slice a l.length cap) (s : Sl U h x l) (zs : List α)
    (hzs' : ∀ i z, Pg.info? e = some i → i.zero = some z → (Builtin.zeroCells z.cells n).toList = cells zs) (hn : zs.length = n) (h0 : 0 < n) (hg : cap < l.length + n) (hl : l.length + n ≤ 2 ^ 40) (hby : by' ≤ 64)
    (r : ∀ g c h', Own g c e h' (l ++ zs) → g = h.size → Ext h h' → K (.slice (some ⟨g, 0, none⟩) (l.length + n) c) h') :
    VH Pg (Builtin.append_ #[t, t'] ty #[x, .int .i64 n]) h K := by
  obtain ⟨i, z, hi, hz, hs, hb, hzs⟩ := T.info
  intro w hw
  subst hw
  have hf := run_first w.drew (l := l) (U := U) (v := x) s l.length (Nat.le_refl _)
  rw [List.take_length, hx, ← hs] at hf
  have h48 : n * i.bytes ≤ 281474976710656 := by
    have : n * i.bytes ≤ 2 ^ 40 * 64 := Nat.mul_le_mul (by omega) (by omega)
    omega
  have hr := Lib.run_append_grow_zeros (P := Pg) w t t' ty e i z .i64 .i64 T.und htn hi hz a l.length cap (cells l) hf n h0 (by rw [hs]; exact El.pos) hg (by omega) h48
    (growslice_fits hg (by
      have : (l.length + n) * i.bytes ≤ 2 ^ 40 * 64 := Nat.mul_le_mul hl (by omega)
      omega))
  have hml : l.length + n ≤ maxLen := by simp only [maxLen]; omega
  have hge := grownCap_ge w (l.length + n) cap e
  have hcm := grownCap_le_maxLen w (l.length + n) cap e hml
  rw [hx]
  refine ⟨_, _, hr, ⟨rfl, rfl, rfl⟩, r _ _ _ ?_ rfl ⟨by simp [World.alloc], fun b hb _ => heap_alloc_old w.drew _ hb⟩⟩
  refine ⟨cells l ++ cells zs ++ (Builtin.zeroCells z.cells (grownCap w (l.length + n) cap e - (l.length + n))).toList, ?_, ?_, hcm, ?_, ?_⟩
  · refine (heap_alloc_new w.drew _).trans ?_
    have he : ∀ A B : Array Value, A = B → some (Obj.cells A e (0, 0)) = some (Obj.cells B e (0, 0)) := fun A B h => by rw [h]
    refine he _ _ ?_
    apply Array.toList_inj.1
    simp [hzs' i z hi hz]
  · rw [List.length_append, hn]; exact hge
  · have hc2 : ∀ c, l.length + n ≤ c → l.length + n + (c - (l.length + n)) = c := fun c h => by omega
    simp only [List.length_append, cells_length, Array.length_toList, size_zeroCells, hzs, hn, ← Nat.add_mul]
    rw [hc2 _ hge]
  · rw [List.length_append, ← cells_append, ← List.length_append, ← cells_length, List.take_left]
end
end Go.Sg
/-! Contracts of the library's Insert and Delete. -/
namespace Go.Sg
open Go Vc
section
variable {α : Type} [El α] {t e ty ty' : TypeId} {by' : Nat} {h : Heap} {K : Kt} {n0 : Nat}
theorem bnd_nat {i d : Nat} : bnd (some (int i)) d = some i := by simp [bnd]
theorem slice3 (T : SlT α t e by') {a : Option Addr} {n cap i j k : Nat} (hij : i ≤ j) (hjn : j ≤ k) (hk : k ≤ cap) (r : ∀ v, K v h) :
    VH Pg (Instr.sliceAt t (.slice a n cap) (some (int i)) (some (int j)) (some (int k))) h K := by
  obtain ⟨inf, z, hi, hz, hs, hb, hzs⟩ := T.info
  refine vh_pure (v := .slice (if k = i then a else a.map (·.add (i * El.z α))) (j - i) (k - i)) (fun w _ => ?_) (r _)
  have b1 := bnd_ok (P := Pg) (v := int k) (y := cap) (l := k) (code := .slice3Acap) (d := 0) bnd_nat hk w
  have b2 := bnd_ok (P := Pg) (v := int j) (y := k) (l := j) (code := .slice3B) (d := 0) bnd_nat hjn w
  have b3 := bnd_ok (P := Pg) (v := int i) (y := j) (l := i) (code := .slice3C) (d := 0) bnd_nat hij w
  simp [Instr.sliceAt, run_underlying T.und, Instr.slice, Instr.sliceBounds, b1, b2, b3, sizeOf, typeInfo, hi, hs]
/-- The head of a row of the call's own. -/
theorem sl_own {g n cap i : Nat} {R : Value → Prop} {z : Nat} (hin : i ≤ cap) (hc : 0 < cap) (r : R (.slice (some ⟨g, 0, none⟩) i cap)) (hn : n ≤ cap) : SlP z (.slice (some ⟨g, 0, none⟩) n cap) none (some (int i)) R := by
  refine ⟨_, _, _, 0, i, rfl, rfl, bnd_nat, Nat.zero_le _, hin, fun _ => hn, .inr ⟨_, _, rfl⟩, ?_⟩
  rw [if_neg (by omega)]
  simpa [Addr.add_lit] using r
/-- What lies behind in a row of the call's own. -/
theorem sl_behind {g o n cap i j : Nat} {R : Value → Prop} {z : Nat} {hi : Option Value} (hb : bnd hi n = some j) (hij : i ≤ j) (hj : j ≤ cap) (hn : n ≤ cap)
    (r : ∀ c, (i < cap → R (.slice (some ⟨g, o + i * z, none⟩) (j - i) c)) ∧ (cap = i → R (.slice (some ⟨g, o, none⟩) 0 c)) → R (.slice (if cap = i then some ⟨g, o, none⟩ else some ⟨g, o + i * z, none⟩) (j - i) (cap - i))) : True := trivial
theorem sl_mid {g n cap i j : Nat} {R : Value → Prop} {z : Nat} {hi : Option Value} (hb : bnd hi n = some j) (hij : i ≤ j) (hj : j ≤ cap) (hn : n ≤ cap)
    (r : ∀ o, (i < cap → o = i * z) → R (.slice (some ⟨g, o, none⟩) (j - i) (cap - i))) : SlP z (.slice (some ⟨g, 0, none⟩) n cap) (some (int i)) hi R := by
  refine ⟨_, _, _, i, j, rfl, bnd_nat, hb, hij, hj, fun _ => hn, .inr ⟨_, _, rfl⟩, ?_⟩
  by_cases hc : cap = i
  · rw [if_pos hc]; exact r 0 (fun h => by omega)
  · rw [if_neg hc]; simpa [Addr.add_lit] using r (i * z) (fun _ => rfl)
theorem clear_none (T : SlT α t e by') {a : Option Addr} {c : Nat} (r : K (.tuple #[]) h) : VH Pg (Builtin.clear_ #[t] ty #[.slice a 0 c]) h K :=
  vh_pure (v := .tuple #[]) (fun w _ => by cases a <;> simp [Builtin.clear_, run_underlying T.und]) r
theorem delete_gen (T : SlT α t e by') (hone : ∀ i z, Pg.info? e = some i → i.zero = some z → ∀ v ∈ z.cells.toList, v.oneCell' = true) {x : Value} {l : List α} (o : Ow n0 e h x l) (hlen : l.length ≤ 2 ^ 40) {i : Nat} (hi : i < l.length)
    (r : ∀ v' h', Ow n0 e h' v' (l.take i ++ l.drop (i + 1)) → Ex (fun b => n0 ≤ b) h h' → K v' h') :
    LenP (some true) x fun x1 => VH Pg (Instr.sliceAt t x (some (int i)) (some (int (i + 1 : Nat))) (some x1)) h fun x3 h2 =>
      BiP .eql (int i) (int (i + 1 : Nat)) fun x4 => CdP x4 (K x h2)
        (LenP (some true) x fun x5 => SlP (El.z α) x none (some (int i)) fun x6 => SlP (El.z α) x (some (int (i + 1 : Nat))) none fun x7 =>
          VH Pg (Builtin.append_ #[t, t] t #[x6, x7]) h2 fun x9 h8 =>
          True ∧ (LenP (some true) x9 fun x10 => SlP (El.z α) x9 (some x10) (some x5) fun x11 => VH Pg (Builtin.clear_ #[t] ty' #[x11]) h8 fun x13 h12 => K x9 h12)) := by
  rcases o.cases' with ⟨rfl, rfl⟩ | ⟨g, cap, rfl, hg, ow⟩
  · simp at hi
  · have hle := ow.le
    rw [LenP_slice]
    refine slice3 T (by omega) (by omega) hle fun _ => ?_
    rw [BiP_eql]
    refine cdp (fun h => absurd h (by omega)) fun _ => ?_
    rw [LenP_slice]
    refine sl_own (by omega) (by omega) ?_ hle
    have s : Sl No h (.slice (some ⟨g, 0, none⟩) l.length cap) l := ow.sl (fun h => h)
    refine s.part (a := i + 1) (b := l.length) bnd_nat rfl (by omega) (Nat.le_refl _) fun v7 s7 => ?_
    rw [List.take_length] at s7
    have hl1 : (l.take i).length = i := by rw [List.length_take]; omega
    have ap := fun (r : _) => app_room (t := t) (ty := t) (K := fun x9 h8 => True ∧ (LenP (some true) x9 fun x10 => SlP (El.z α) x9 (some x10) (some (int l.length)) fun x11 => VH Pg (Builtin.clear_ #[t] ty' #[x11]) h8 fun x13 h12 => K x9 h12)) T (ow.pre i) s7 (by rw [hl1, List.length_drop]; omega) r
    rw [hl1] at ap
    refine ap fun h8 o8 e8 => ⟨trivial, ?_⟩
    rw [LenP_slice]
    have hn8 : i + (l.drop (i + 1)).length = l.length - 1 := by rw [List.length_drop]; omega
    rw [hn8]
    refine sl_mid (bnd_nat) (by omega) hle (by omega) fun o ho => ?_
    have ho := ho (by omega)
    subst ho
    have hfl : (l.take i ++ l.drop (i + 1)).length = l.length - 1 := by rw [List.length_append, hl1, hn8]
    refine clear_own T hone o8 (by omega) (by omega) fun h12 o12 e12 => ?_
    exact r _ _ (o12.ow' hg hfl) ((e8.trans e12).mono fun x _ hx => by omega)
theorem T_zero_Pair : ∀ i z, Pg.info? t_api_Pair = some i → i.zero = some z → ∀ v ∈ z.cells.toList, v.oneCell' = true := by
  have h : (Pg.info? t_api_Pair).bind (fun i => i.zero.map fun z => z.cells.toList.all Value.oneCell') = some true := by kernel_rfl
  intro i z hi hz v hv
  rw [hi] at h
  simp only [Option.bind_some, hz, Option.map_some, Option.some.injEq, List.all_eq_true] at h
  exact h v hv
end
section
variable {h : Heap} {K : Kt} {n0 : Nat}
theorem zero_one {e : TypeId} (h : (Pg.info? e).bind (fun i => i.zero.map fun z => z.cells.toList.all Value.oneCell') = some true) : ∀ i z, Pg.info? e = some i → i.zero = some z → ∀ v ∈ z.cells.toList, v.oneCell' = true := by
  intro i z hi hz v hv
  rw [hi] at h
  simp only [Option.bind_some, hz, Option.map_some, Option.some.injEq, List.all_eq_true] at h
  exact h v hv
theorem c_Delete_Pair {x : Value} {l : List Pair} (o : Ow n0 t_api_Pair h x l) (hlen : l.length ≤ 2 ^ 40) {i : Nat} (hi : i < l.length)
    (r : ∀ v' h', Ow n0 t_api_Pair h' v' (l.take i ++ l.drop (i + 1)) → Ex (fun b => n0 ≤ b) h h' → K v' h') : Ca f_slices_Delete_api_Pair #[x, int i, int (i + 1 : Nat)] h K :=
  m_slices_Delete_api_Pair_ok (delete_gen T_Pair (zero_one (by kernel_rfl)) o hlen hi r)
theorem c_Delete_u32 {x : Value} {l : List U32} (o : Ow n0 t_uint32 h x l) (hlen : l.length ≤ 2 ^ 40) {i : Nat} (hi : i < l.length)
    (r : ∀ v' h', Ow n0 t_uint32 h' v' (l.take i ++ l.drop (i + 1)) → Ex (fun b => n0 ≤ b) h h' → K v' h') : Ca f_slices_Delete_uint32 #[x, int i, int (i + 1 : Nat)] h K :=
  m_slices_Delete_uint32_ok (delete_gen T_u32 (zero_one (by kernel_rfl)) o hlen hi r)
theorem c_Delete_str {x : Value} {l : List Str} (o : Ow n0 t_string h x l) (hlen : l.length ≤ 2 ^ 40) {i : Nat} (hi : i < l.length)
    (r : ∀ v' h', Ow n0 t_string h' v' (l.take i ++ l.drop (i + 1)) → Ex (fun b => n0 ≤ b) h h' → K v' h') : Ca f_slices_Delete_string #[x, int i, int (i + 1 : Nat)] h K :=
  m_slices_Delete_string_ok (delete_gen T_str (zero_one (by kernel_rfl)) o hlen hi r)
end
end Go.Sg
