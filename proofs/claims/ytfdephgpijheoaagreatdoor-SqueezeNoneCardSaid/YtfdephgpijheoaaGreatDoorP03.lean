/-
  Part 3 of a proof: own texts, merged by program.
-/
import Derived.Maps.AppendAt
import Derived.Laws.OwnMore
import Derived.Laws.CopyRow
import Derived.Lib.AppendStr
import Derived.Test.YtfdephgpijheoaaGreatDoorP02
set_option linter.unusedVariables false
set_option linter.unusedSimpArgs false
namespace Go.Sg
open Go Vc
abbrev Str := List UInt8
def str (s : Str) : Value := .string ⟨s.toArray⟩
abbrev ptr (b o : Nat) : Value := .pointer (some ⟨b, o, none⟩)
abbrev int (n : Int) : Value := .int .i64 n
structure Ex (M : Nat → Prop) (h h' : Heap) : Prop where
  le : h.size ≤ h'.size
  eq : ∀ b, b < h.size → ¬ M b → h'[b]? = h[b]?
abbrev No : Nat → Prop := fun _ => False
abbrev Ext (h h' : Heap) : Prop := Ex No h h'
theorem Ex.refl (M) (h : Heap) : Ex M h h := ⟨Nat.le_refl _, fun _ _ _ => rfl⟩
theorem Ex.trans {M} {a b c : Heap} (h : Ex M a b) (k : Ex M b c) : Ex M a c :=
  ⟨Nat.le_trans h.le k.le, fun x hx hm => (k.eq x (Nat.lt_of_lt_of_le hx h.le) hm).trans (h.eq x hx hm)⟩
theorem Ex.mono {M N : Nat → Prop} {a b : Heap} (h : Ex M a b) (k : ∀ x, x < a.size → M x → N x) : Ex N a b :=
  ⟨h.le, fun x hx hm => h.eq x hx fun e => hm (k x hx e)⟩
theorem Ex.get {M} {a b : Heap} (h : Ex M a b) {x : Nat} {o : Obj} (k : a[x]? = some o) (hm : ¬ M x) : b[x]? = some o := by
  rw [h.eq x (Array.getElem?_eq_some_iff.1 k).1 hm, k]
theorem Ex.toM {M} {a b : Heap} (h : Ext a b) : Ex M a b := Ex.mono h fun _ _ e => e.elim
theorem Ext.get {a b : Heap} (h : Ext a b) {x : Nat} {o : Obj} (k : a[x]? = some o) : b[x]? = some o := Ex.get h k (fun e => e)
theorem Ex.andThen {M} {a b c : Heap} (h : Ext a b) (k : Ex M b c) (hm : ∀ x, x < a.size → ¬ M x) : Ext a c :=
  ⟨Nat.le_trans h.le k.le, fun x hx _ => (k.eq x (Nat.lt_of_lt_of_le hx h.le) (hm x hx)).trans (h.eq x hx (fun e => e))⟩
theorem Ex.own {n0} {a b c : Heap} (h : Ext a b) (k : Ex (fun x => n0 ≤ x) b c) (hn : a.size ≤ n0) : Ext a c := h.andThen k fun x hx => by omega
def Blk (h : Heap) (b : Nat) (cs : List Value) : Prop := ∃ T, h[b]? = some (.cells cs.toArray T (0, 0))
theorem Blk.lt {h : Heap} {b cs} (k : Blk h b cs) : b < h.size := by
  obtain ⟨T, k⟩ := k; exact (Array.getElem?_eq_some_iff.1 k).1
theorem Blk.ex {M} {h h' : Heap} {b cs} (k : Blk h b cs) (e : Ex M h h') (hm : ¬ M b) : Blk h' b cs := by
  obtain ⟨T, k⟩ := k; exact ⟨T, e.get k hm⟩
theorem Blk.ext {h h' : Heap} {b cs} (k : Blk h b cs) (e : Ext h h') : Blk h' b cs := k.ex e fun x => x
theorem Blk.get {h : Heap} {b cs} (k : Blk h b cs) (o : Nat) : hget h b o = cs[o]? := by
  obtain ⟨T, k⟩ := k; simp [hget, k]
theorem Blk.fz {h : Heap} {b cs} (k : Blk h b cs) (o : Nat) : hfz h b o = false := by
  obtain ⟨T, k⟩ := k; simp [hfz, k]
theorem Blk.uniq {h : Heap} {b cs ds} (k : Blk h b cs) (l : Blk h b ds) : cs = ds := by
  obtain ⟨T, k⟩ := k; obtain ⟨S, l⟩ := l
  rw [k] at l
  injection l with l; injection l with l
  simpa using l
theorem push_ext (h : Heap) (o : Obj) : Ext h (h.push o) :=
  ⟨by simp, fun b hb _ => by rw [Array.getElem?_push]; rw [if_neg (by omega)]⟩
theorem push_blk (h : Heap) (cs : Array Value) (T) : Blk (h.push (.cells cs T (0, 0))) h.size cs.toList :=
  ⟨T, by rw [Array.getElem?_push, if_pos rfl]⟩
theorem size_hset (h : Heap) (b o v) : (hset h b o v).size = h.size := by simp [hset]
theorem hset_ne {h : Heap} {b o v c} (hc : c ≠ b) : (hset h b o v)[c]? = h[c]? := by
  rw [hset, Array.getElem?_modify, if_neg (Ne.symm hc)]
theorem hset_blk {h : Heap} {b cs} (k : Blk h b cs) (o v) : Blk (hset h b o v) b (cs.set o v) := by
  obtain ⟨T, k⟩ := k
  refine ⟨T, ?_⟩
  rw [hset, Array.getElem?_modify, if_pos rfl, k]
  simp
theorem hset_ex {h : Heap} {b o v} {M : Nat → Prop} (hm : M b) : Ex M h (hset h b o v) :=
  ⟨by rw [size_hset]; exact Nat.le_refl _, fun c _ hc => hset_ne (fun e => hc (by rw [e]; exact hm))⟩
theorem size_hsets (b : Nat) : ∀ (vs : List Value) (h : Heap) (o : Nat), (hsets h b o vs).size = h.size
  | [], _, _ => rfl
  | v :: vs, h, o => by rw [hsets, size_hsets b vs, size_hset]
def over (cs : List Value) (o : Nat) : List Value → List Value
  | [] => cs
  | v :: vs => over (cs.set o v) (o + 1) vs
theorem hsets_blk {b : Nat} : ∀ (vs : List Value) {h : Heap} {cs : List Value} (o : Nat), Blk h b cs → Blk (hsets h b o vs) b (over cs o vs)
  | [], _, _, _, k => k
  | v :: vs, _, _, o, k => by rw [hsets, over]; exact hsets_blk vs (o + 1) (hset_blk k o v)
theorem hsets_ne {b c : Nat} (hc : c ≠ b) : ∀ (vs : List Value) (h : Heap) (o : Nat), (hsets h b o vs)[c]? = h[c]?
  | [], _, _ => rfl
  | v :: vs, h, o => by rw [hsets, hsets_ne hc vs, hset_ne hc]
theorem hsets_ex {h : Heap} {b o vs} {M : Nat → Prop} (hm : M b) : Ex M h (hsets h b o vs) :=
  ⟨by rw [size_hsets]; exact Nat.le_refl _, fun c _ hc => hsets_ne (fun e => hc (by rw [e]; exact hm)) _ _ _⟩
theorem over_length (vs : List Value) : ∀ (cs : List Value) (o : Nat), (over cs o vs).length = cs.length := by
  induction vs with
  | nil => intro cs o; rfl
  | cons v vs ih => intro cs o; rw [over, ih, List.length_set]
theorem over_get (vs : List Value) : ∀ (cs : List Value) (o j : Nat), o + vs.length ≤ cs.length →
    (over cs o vs)[j]? = if o ≤ j ∧ j < o + vs.length then vs[j - o]? else cs[j]? := by
  induction vs with
  | nil => intro cs o j _; simp [over]; omega
  | cons v vs ih =>
    intro cs o j hl
    simp only [List.length_cons] at hl
    rw [over, ih _ _ _ (by rw [List.length_set]; omega)]
    by_cases h1 : j = o
    · subst h1
      rw [if_neg (by omega), if_pos (by simp), List.getElem?_set_self (by omega)]
      simp
    · by_cases h2 : o + 1 ≤ j ∧ j < o + 1 + vs.length
      · rw [if_pos h2, if_pos (by simp; omega)]
        obtain ⟨k, hk⟩ : ∃ k, j - o = k + 1 := ⟨j - o - 1, by omega⟩
        rw [hk, List.getElem?_cons_succ]
        congr 1; omega
      · rw [if_neg h2, if_neg (by simp; omega), List.getElem?_set_ne (by omega)]
theorem over_eq (vs cs : List Value) (o : Nat) (hl : o + vs.length ≤ cs.length) : over cs o vs = cs.take o ++ vs ++ cs.drop (o + vs.length) := by
  apply List.ext_getElem?
  intro j
  rw [over_get vs cs o j hl]
  simp only [List.append_assoc, List.getElem?_append, List.length_take, List.getElem?_take, List.getElem?_drop]
  rw [Nat.min_eq_left (by omega)]
  split
  · rename_i h; rw [if_neg (by omega), if_pos (by omega)]
  · rename_i h
    by_cases h1 : j < o
    · rw [if_pos h1, if_pos h1]
    · rw [if_neg h1, if_neg (by omega)]; congr 1; omega
theorem over_all (vs cs : List Value) (hl : vs.length = cs.length) : over cs 0 vs = vs := by
  rw [over_eq _ _ _ (by omega)]; simp [hl]
section
variable {h : Heap} {K : Value → Prop} {H : Heap → Prop} {Q : Value → Heap → Prop} {A B : Prop}
@[simp] theorem gv_zero (a : Value) (l) : gv (a :: l) 0 = a := rfl
@[simp] theorem gv_succ (a : Value) (l n) : gv (a :: l) (n + 1) = gv l n := rfl
@[simp] theorem CdP_true : CdP (.bool true) A B ↔ A := Iff.rfl
@[simp] theorem CdP_false : CdP (.bool false) A B ↔ B := Iff.rfl
theorem CdP_bool {b : Bool} : CdP (.bool b) A B ↔ (b = true → A) ∧ (b = false → B) := by cases b <;> simp
theorem cd {b : Bool} (t : b = true → A) (f : b = false → B) : CdP (.bool b) A B := CdP_bool.2 ⟨t, f⟩
theorem cdp {p : Prop} [Decidable p] (t : p → A) (f : ¬ p → B) : CdP (.bool (decide p)) A B := cd (fun e => t (of_decide_eq_true e)) (fun e => f (of_decide_eq_false e))
@[simp] theorem PickP_true {a b} : PickP (.bool true) a b K ↔ K a := Iff.rfl
@[simp] theorem PickP_false {a b} : PickP (.bool false) a b K ↔ K b := Iff.rfl
@[simp] theorem NilP_ptr {b o} : NilP (ptr b o) K ↔ K (ptr b o) := by simp [NilP, nilOk]
@[simp] theorem FaP_ptr {k b o} : FaP (some k) (ptr b o) K ↔ K (ptr b (o + k)) := by
  constructor
  · rintro ⟨b', o', e, k⟩; cases e; exact k
  · intro k; exact ⟨b, o, rfl, k⟩
@[simp] theorem LdP_ptr {b o} : LdP (ptr b o) h K ↔ ∃ v, hget h b o = some v ∧ K v := by
  constructor
  · rintro ⟨b', o', v, e, k⟩; cases e; exact ⟨v, k⟩
  · rintro ⟨v, k⟩; exact ⟨b, o, v, rfl, k⟩
@[simp] theorem Fl_ptr {k b o} : Fl k (ptr b o) h K ↔ ∃ v, hget h b (o + k) = some v ∧ K v := by simp [Fl]
@[simp] theorem Fv_ptr {k b o} : Fv k (ptr b o) h K ↔ ∃ v, hget h b (o + k) = some v ∧ K v := by simp [Fv]
@[simp] theorem LenP_slice {a n c} : LenP (some true) (.slice a n c) K ↔ K (int n) := by
  constructor
  · rintro ⟨a', n', c', e, k⟩; cases e; exact k
  · intro k; exact ⟨a, n, c, rfl, k⟩
@[simp] theorem LenP_str {s : Str} : LenP (some false) (str s) K ↔ K (int s.length) := by
  constructor
  · rintro ⟨a', e, k⟩; cases e; exact k
  · intro k; exact ⟨_, rfl, k⟩
@[simp] theorem ExP_tuple {vs : Array Value} {i} : ExP (.tuple vs) i K ↔ ∃ v, vs[i]? = some v ∧ K v := by
  constructor
  · rintro ⟨vs', v, e, k⟩; cases e; exact ⟨v, k⟩
  · rintro ⟨v, k⟩; exact ⟨vs, v, rfl, k⟩
@[simp] theorem UnP_not {b} : UnP .not (.bool b) K ↔ K (.bool !b) := by simp [UnP, unVal]
theorem ld {b o v} (e : hget h b o = some v) (k : K v) : LdP (ptr b o) h K := LdP_ptr.2 ⟨v, e, k⟩
theorem fl {k b o v} (e : hget h b (o + k) = some v) (r : K v) : Fl k (ptr b o) h K := Fl_ptr.2 ⟨v, e, r⟩
theorem fv {k b o v} (e : hget h b (o + k) = some v) (r : K v) : Fv k (ptr b o) h K := Fv_ptr.2 ⟨v, e, r⟩
theorem LdA_blk {b n cs} (k : Blk h b cs) (hn : cs.length = n) (r : K (.agg cs.toArray)) : LdA n (ptr b 0) h K :=
  ⟨b, 0, cs, rfl, hn, fun j v e => by rw [k.get]; simpa using e, r⟩
theorem LdA_at {b o n} {cs : List Value} (k : ∀ j v, cs[j]? = some v → hget h b (o + j) = some v) (hn : cs.length = n) (r : K (.agg cs.toArray)) : LdA n (ptr b o) h K :=
  ⟨b, o, cs, rfl, hn, k, r⟩
theorem StP_blk {b o v cs} (k : Blk h b cs) (ho : o < cs.length) (hv : one' v = true) (r : H (hset h b o v)) : StP (ptr b o) v h H :=
  ⟨b, o, rfl, by rw [k.get, List.getElem?_eq_getElem ho]; rfl, k.fz o, hv, r⟩
theorem StA_blk {b o n vs cs} (k : Blk h b cs) (ho : o + n ≤ cs.length) (hn : vs.length = n) (hv : vs.all one' = true) (r : H (hsets h b o vs)) : StA n (ptr b o) (.agg vs.toArray) h H :=
  ⟨b, o, vs.toArray, rfl, rfl, by simpa using hn, by simpa using hv, fun j hj => ⟨by rw [k.get, List.getElem?_eq_getElem (by omega)]; rfl, k.fz _⟩, by simpa using r⟩
theorem bx {t v} (r : ∀ b h', Ext h h' → b = h.size → Blk h' b v.cells.toList → h'.size = h.size + 1 → Q (ptr b 0) h') : BxP t v h Q :=
  r _ _ (push_ext _ _) rfl (push_blk _ _ _) (by simp)
theorem al {t v} (r : ∀ b h', Ext h h' → b = h.size → Blk h' b v.cells.toList → h'.size = h.size + 1 → Q (ptr b 0) h') : AlP t (some v) h Q :=
  ⟨v, rfl, bx r⟩
theorem alst {t n vs} {zs : Array Value} {R : Value → Heap → Prop} (hz : zs.size = n) (hn : vs.length = n) (hv : vs.all one' = true)
    (r : ∀ b h', Ext h h' → b = h.size → Blk h' b vs → h'.size = h.size + 1 → R (ptr b 0) h') : AlP t (some (.agg zs)) h fun x h' => StA n x (.agg vs.toArray) h' fun h'' => R x h'' := by
  refine ⟨_, rfl, ?_⟩
  have k : Blk (h.push (.cells zs t (0, 0))) h.size zs.toList := push_blk _ _ _
  refine StA_blk k (by simp; omega) hn hv ?_
  have k2 := hsets_blk vs 0 k
  rw [over_all _ _ (by simp; omega)] at k2
  refine r _ _ ⟨by rw [size_hsets]; simp, fun b hb _ => ?_⟩ rfl k2 (by rw [size_hsets]; simp)
  rw [hsets_ne (by omega)]
  exact (push_ext h _).eq b hb (fun e => e)
theorem wrap64 {n : Int} (h1 : -9223372036854775808 ≤ n) (h2 : n < 9223372036854775808) : IntKind.wrap .i64 n = n := by
  have : IntKind.bits .i64 = 64 := rfl
  simp only [IntKind.wrap, this, IntKind.signed]
  simp only [Bool.true_and, decide_eq_true_eq]
  omega
theorem wrapU {k : IntKind} {n : Int} (hs : k.signed = false) (h1 : 0 ≤ n) (h2 : n < 2 ^ k.bits) : k.wrap n = n := by
  simp only [IntKind.wrap, hs, Bool.false_and]
  simp only [Bool.false_eq_true, if_false]
  exact Int.emod_eq_of_lt h1 h2
theorem BiP_some {op x y v} (e : binVal op x y = some v) : BiP op x y K ↔ K v := by simp [BiP, e]
theorem add64 {a b : Int} (hr : -9223372036854775808 ≤ a + b ∧ a + b < 9223372036854775808) (r : K (int (a + b))) : BiP .add (int a) (int b) K :=
  ⟨_, by simp [binVal]; rfl, by rw [wrap64 hr.1 hr.2]; exact r⟩
theorem sub64 {a b : Int} (hr : -9223372036854775808 ≤ a - b ∧ a - b < 9223372036854775808) (r : K (int (a - b))) : BiP .sub (int a) (int b) K :=
  ⟨_, by simp [binVal]; rfl, by rw [wrap64 hr.1 hr.2]; exact r⟩
theorem mul64 {a b : Int} (hr : -9223372036854775808 ≤ a * b ∧ a * b < 9223372036854775808) (r : K (int (a * b))) : BiP .mul (int a) (int b) K :=
  ⟨_, by simp [binVal]; rfl, by rw [wrap64 hr.1 hr.2]; exact r⟩
theorem quo64 {a b : Int} (hb : b ≠ 0) (hr : -9223372036854775808 ≤ a.tdiv b ∧ a.tdiv b < 9223372036854775808) (r : K (int (a.tdiv b))) : BiP .quo (int a) (int b) K :=
  ⟨_, by simp [binVal, hb]; rfl, by rw [wrap64 hr.1 hr.2]; exact r⟩
theorem rem64 {a b : Int} (hb : b ≠ 0) (r : K (int (a.tmod b))) : BiP .rem (int a) (int b) K :=
  ⟨_, by simp [binVal, hb], r⟩
@[simp] theorem BiP_lss {k a b} : BiP .lss (.int k a) (.int k b) K ↔ K (.bool (decide (a < b))) := by simp [BiP, binVal]
@[simp] theorem BiP_leq {k a b} : BiP .leq (.int k a) (.int k b) K ↔ K (.bool (decide (a ≤ b))) := by simp [BiP, binVal]
@[simp] theorem BiP_gtr {k a b} : BiP .gtr (.int k a) (.int k b) K ↔ K (.bool (decide (b < a))) := by simp [BiP, binVal]
@[simp] theorem BiP_geq {k a b} : BiP .geq (.int k a) (.int k b) K ↔ K (.bool (decide (b ≤ a))) := by simp [BiP, binVal]
@[simp] theorem BiP_eql {k a b} : BiP .eql (.int k a) (.int k b) K ↔ K (.bool (decide (a = b))) := by
  have : (a == b) = decide (a = b) := rfl
  simp [BiP, binVal, this]
@[simp] theorem BiP_neq {k a b} : BiP .neq (.int k a) (.int k b) K ↔ K (.bool (decide (a ≠ b))) := by
  have : (a != b) = decide (a ≠ b) := by by_cases h : a = b <;> simp [h]
  simp [BiP, binVal, this]
@[simp] theorem CvP_int {k k' n} : CvP k (.int k' n) K ↔ K (.int k (k.wrap n)) := by
  constructor
  · rintro ⟨a, b, e, r⟩; cases e; exact r
  · intro r; exact ⟨_, _, rfl, r⟩
theorem toList_str (s : Str) : (ByteArray.mk s.toArray).toList = s := by rw [Go.ByteArray.toList_eq]
theorem bytesLess_iff : ∀ (a b : Str), Op.bytesLess a b = true ↔ a < b
  | [], [] => by simp [Op.bytesLess]
  | [], _ :: _ => by simp [Op.bytesLess]
  | _ :: _, [] => by simp [Op.bytesLess]
  | x :: a, y :: b => by
    rw [Op.bytesLess]
    rw [List.cons_lt_cons_iff]
    have := bytesLess_iff a b
    by_cases h1 : x < y
    · simp [h1]
    · by_cases h2 : x = y
      · subst h2; simp [this]
      · have : y < x := by
          rcases UInt8.lt_or_le y x with h | h
          · exact h
          · exact absurd (UInt8.lt_of_le_of_ne (UInt8.not_lt.1 h1) (Ne.symm h2)) (UInt8.not_lt.2 h)
        simp [h1, h2]
@[simp] theorem BiP_seql {a b : Str} : BiP .eql (str a) (str b) K ↔ K (.bool (decide (a = b))) := by
  have : (a == b) = decide (a = b) := by by_cases h : a = b <;> simp [h]
  simp only [BiP, binVal, str, toList_str, Option.some.injEq, exists_eq_left', this]
@[simp] theorem BiP_sneq {a b : Str} : BiP .neq (str a) (str b) K ↔ K (.bool (decide (a ≠ b))) := by
  simp only [BiP, binVal, str, toList_str, Option.some.injEq, exists_eq_left']
  have : (!(a == b)) = decide (a ≠ b) := by
    by_cases h : a = b <;> simp [h]
  rw [this]
theorem bl_eq {a b : Str} : Vc.bytesLt a b = decide (a < b) := by
  by_cases h : a < b
  · simp [h, Vc.bytesLt, (bytesLess_iff a b).2 h]
  · have : ¬ (Op.bytesLess a b = true) := fun e => h ((bytesLess_iff a b).1 e)
    simp [h, Vc.bytesLt, this]
@[simp] theorem BiP_slss {a b : Str} : BiP .lss (str a) (str b) K ↔ K (.bool (decide (a < b))) := by
  simp only [BiP, binVal, str, toList_str, Option.some.injEq, exists_eq_left', bl_eq]
end
end Go.Sg
namespace Go.Sg
open Go Vc
section
variable {t e : TypeId} {xo yo : Operand} {h : Heap} {K : Kt}
theorem vh_pure {m : Sem Value} {v : Value} (hm : ∀ w : World, w.heap = h → m.run Pg w = .ok v w) (r : K v h) : VH Pg m h K :=
  fun w hw => ⟨v, w, hm w hw, Kin.refl w, by rw [hw]; exact r⟩
theorem eqp {op : BinOp} {x y v : Value} (hx : ∀ w, (eqGuard op t xo yo x y).run Pg w = .ok () w) (hb : ∀ w, (binOp op t x y).run Pg w = .ok v w) (r : K v h) : EqP op t xo yo x y h K :=
  vh_pure (v := v) (fun w _ => by simp [hx, hb]) r
theorem eq_ptr_nil {a : Option Addr} (ht : Pg.underlying t = some (.pointer (Pg.pointee t))) (r : K (.bool a.isNone) h) : EqP .eql t xo yo (.pointer a) (.pointer none) h K :=
  eqp (fun w => by simp [eqGuard]) (fun w => run_eql_pointer_nil w t a ht) r
theorem neq_ptr_nil {a : Option Addr} (ht : Pg.underlying t = some (.pointer (Pg.pointee t))) (r : K (.bool !a.isNone) h) : EqP .neq t xo yo (.pointer a) (.pointer none) h K :=
  eqp (fun w => by simp [eqGuard]) (fun w => run_neq_pointer_nil w t a ht) r
theorem run_equalIn_slice_nil' (w : World) (d : Nat) (t e : TypeId) (a : Option Addr) (l c : Nat) (h : Pg.underlying t = some (.slice e)) : (Op.equalIn (d + 1) t (.slice a l c) (.slice none 0 0)).run Pg w = .ok a.isNone w := by
  cases a <;> simp [Op.equalIn, run_underlying h]
theorem run_equal_slice_nil' (w : World) (t e : TypeId) (a : Option Addr) (l c : Nat) (h : Pg.underlying t = some (.slice e)) : (Op.equal t (.slice a l c) (.slice none 0 0)).run Pg w = .ok a.isNone w := run_equalIn_slice_nil' w 9999 t e a l c h
theorem eq_slice_nil {a : Option Addr} {n c : Nat} (ht : Pg.underlying t = some (.slice e)) (r : K (.bool a.isNone) h) : EqP .eql t xo yo (.slice a n c) (.slice none 0 0) h K :=
  eqp (fun w => by simp [eqGuard]) (fun w => by simp only [binOp]; simp [run_equal_slice_nil' w t e a n c ht]) r
end
class El (α : Type) where
  z : Nat
  enc : α → List Value
  len : ∀ a, (enc a).length = z
  pos : 0 < z
  one : ∀ a, ∀ v ∈ enc a, v.oneCell' = true
def cells {α : Type} [El α] (l : List α) : List Value := l.flatMap El.enc
section
variable {α : Type} [El α]
@[simp] theorem cells_nil : cells ([] : List α) = [] := rfl
@[simp] theorem cells_cons (a : α) (l : List α) : cells (a :: l) = El.enc a ++ cells l := rfl
@[simp] theorem cells_append (l m : List α) : cells (l ++ m) = cells l ++ cells m := by simp [cells]
theorem cells_length (l : List α) : (cells l).length = l.length * El.z α := by
  induction l with
  | nil => simp
  | cons a l ih => simp [ih, El.len, Nat.add_mul, Nat.add_comm]
theorem cells_one (l : List α) : ∀ v ∈ cells l, v.oneCell' = true := by
  intro v hv
  obtain ⟨a, _, h⟩ := List.mem_flatMap.1 hv
  exact El.one a v h
theorem one_eq (v : Value) : one' v = v.oneCell' := by cases v <;> rfl
theorem cells_get {l : List α} {i : Nat} {a : α} (hi : l[i]? = some a) (j : Nat) (hj : j < El.z α) : (cells l)[i * El.z α + j]? = (El.enc a)[j]? := by
  induction l generalizing i with
  | nil => simp at hi
  | cons b l ih =>
    cases i with
    | zero =>
      simp only [List.getElem?_cons_zero, Option.some.injEq] at hi
      subst hi
      simp only [cells_cons, Nat.zero_mul, Nat.zero_add]
      rw [List.getElem?_append_left (by rw [El.len]; exact hj)]
    | succ i =>
      simp only [List.getElem?_cons_succ] at hi
      rw [cells_cons, List.getElem?_append_right (by rw [El.len, Nat.add_mul]; omega), El.len, ← ih hi]
      congr 1
      rw [Nat.add_mul]; omega
theorem cells_take (l : List α) (n : Nat) : (cells l).take (n * El.z α) = cells (l.take n) := by
  induction l generalizing n with
  | nil => simp
  | cons a l ih =>
    cases n with
    | zero => simp
    | succ n =>
      rw [cells_cons, List.take_succ_cons, cells_cons, Nat.add_mul, Nat.one_mul, Nat.add_comm, List.take_append, El.len, ← ih]
      simp
      rw [List.take_of_length_le (by rw [El.len]; omega)]
theorem cells_drop (l : List α) (n : Nat) : (cells l).drop (n * El.z α) = cells (l.drop n) := by
  induction l generalizing n with
  | nil => simp
  | cons a l ih =>
    cases n with
    | zero => simp
    | succ n =>
      rw [cells_cons, List.drop_succ_cons, Nat.add_mul, Nat.one_mul, Nat.add_comm, ← ih, List.drop_append, El.len]
      simp [El.len]
structure Sl (U : Nat → Prop) (h : Heap) (v : Value) (l : List α) : Prop where
  out : ∃ a cap, v = .slice a l.length cap ∧ l.length ≤ cap ∧ (a = none → cap = 0) ∧ (∀ x, a = some x → x.spot = none ∧
    (l ≠ [] → x.block < h.size ∧ ¬ U x.block ∧ ∀ j v, (cells l)[j]? = some v → hget h x.block (x.off + j) = some v))
theorem Sl.nil (U h) : Sl U h (.slice none 0 0) ([] : List α) := ⟨none, 0, rfl, by simp, fun _ => rfl, fun x h => by cases h⟩
theorem hget_eq {h h' : Heap} {b : Nat} (e : h'[b]? = h[b]?) (o) : hget h' b o = hget h b o := by simp [hget, e]
theorem Sl.ex {U V M : Nat → Prop} {h h' : Heap} {v : Value} {l : List α} (s : Sl U h v l) (e : Ex M h h') (hm : ∀ b, b < h.size → M b → U b) (hv : ∀ b, b < h.size → V b → U b) : Sl V h' v l := by
  obtain ⟨a, cap, e1, e2, e3, e4⟩ := s.out
  refine ⟨a, cap, e1, e2, e3, fun x hx => ⟨(e4 x hx).1, fun hl => ?_⟩⟩
  obtain ⟨k1, k2, k3⟩ := (e4 x hx).2 hl
  refine ⟨Nat.lt_of_lt_of_le k1 e.le, fun hu => k2 (hv _ k1 hu), fun j v hj => ?_⟩
  rw [hget_eq (e.eq _ k1 fun hm' => k2 (hm _ k1 hm'))]
  exact k3 j v hj
theorem Sl.ext {U : Nat → Prop} {h h' : Heap} {v : Value} {l : List α} (s : Sl U h v l) (e : Ext h h') : Sl U h' v l := s.ex e (fun _ _ x => x.elim) (fun _ _ x => x)
theorem Sl.keep {U M : Nat → Prop} {h h' : Heap} {v : Value} {l : List α} (s : Sl U h v l) (e : Ex M h h') (hm : ∀ b, M b → U b) : Sl U h' v l := s.ex e (fun b _ => hm b) (fun _ _ x => x)
theorem Sl.len {U h v} {l : List α} (s : Sl U h v l) {K : Value → Prop} (r : K (int l.length)) : LenP (some true) v K := by
  obtain ⟨a, cap, rfl, _⟩ := s.out; simpa using r
theorem Sl.ix {U h v} {l : List α} (s : Sl U h v l) {K : Value → Prop} {k} {i : Int} {x : α} (hi : 0 ≤ i) (hx : l[i.toNat]? = some x)
    (r : ∀ b o, b < h.size → ¬ U b → (∀ j w, (El.enc x)[j]? = some w → hget h b (o + j) = some w) → K (ptr b o)) : IxP (El.z α) v (.int k i) K := by
  obtain ⟨a, cap, rfl, h1, h2, h3⟩ := s.out
  have hlt := (List.getElem?_eq_some_iff.1 hx).1
  cases a with
  | none => have := h2 rfl; omega
  | some a =>
    obtain ⟨b, o, sp⟩ := a
    obtain ⟨hs, h4⟩ := h3 _ rfl
    simp only at hs
    subst hs
    obtain ⟨k1, k2, k3⟩ := h4 (by rintro rfl; simp at hlt)
    refine ⟨b, o, l.length, cap, k, i, rfl, rfl, hi, by omega, r b _ k1 k2 fun j w hj => ?_⟩
    have hj' : j < El.z α := by have := (List.getElem?_eq_some_iff.1 hj).1; rwa [El.len] at this
    rw [Nat.add_assoc]
    exact k3 _ _ ((cells_get hx j hj').trans hj)
theorem Sl.ea {U h v} {l : List α} (s : Sl U h v l) {K : Value → Prop} {k} {i : Int} {x : α} (hi : 0 ≤ i) (hx : l[i.toNat]? = some x)
    (r : K (.agg (El.enc x).toArray)) : Ea (El.z α) v (.int k i) h K :=
  s.ix hi hx fun _ _ _ _ hc => LdA_at hc (El.len x) r
theorem Sl.ei {U h v} {l : List α} (s : Sl U h v l) {K : Value → Prop} {k} {i : Int} {x : α} {w : Value} (hi : 0 ≤ i) (hx : l[i.toNat]? = some x) (he : El.enc x = [w])
    (r : K w) : Ei (El.z α) v (.int k i) h K :=
  s.ix hi hx fun _ _ _ _ hc => ld (by simpa using hc 0 w (by rw [he]; rfl)) r
theorem Sl.ef {U h v} {l : List α} (s : Sl U h v l) {K : Value → Prop} {k} {i : Int} {x : α} {f : Nat} {w : Value} (hi : 0 ≤ i) (hx : l[i.toNat]? = some x) (he : (El.enc x)[f]? = some w)
    (r : K w) : Ef (El.z α) f v (.int k i) h K :=
  s.ix hi hx fun _ _ _ _ hc => by
    simp only [FaP_ptr]; exact ld (hc f w he) r
theorem Sl.part {U h v} {l : List α} (s : Sl U h v l) {K : Value → Prop} {lo hi : Option Value} {a b : Nat} (ha : bnd lo 0 = some a) (hb : bnd hi l.length = some b) (hab : a ≤ b) (hbl : b ≤ l.length)
    (r : ∀ v', Sl U h v' ((l.take b).drop a) → K v') : SlP (El.z α) v lo hi K := by
  obtain ⟨p, cap, rfl, h1, h2, h3⟩ := s.out
  have hl : ((l.take b).drop a).length = b - a := by simp; omega
  refine ⟨p, l.length, cap, a, b, rfl, ha, hb, hab, by omega, fun _ => h1, ?_, r _ ?_⟩
  · cases p with
    | none => exact .inl rfl
    | some x => obtain ⟨c, o, sp⟩ := x; have := (h3 _ rfl).1; simp only at this; subst this; exact .inr ⟨c, o, rfl⟩
  · refine ⟨_, _, by rw [hl], by omega, ?_, ?_⟩
    · intro hn
      by_cases hc : cap = a
      · omega
      · rw [if_neg hc] at hn
        cases p with
        | none => have := h2 rfl; omega
        | some x => simp at hn
    · intro x hx
      by_cases hc : cap = a
      · rw [if_pos hc] at hx
        refine ⟨(h3 x hx).1, fun hne => ?_⟩
        exfalso; apply hne; apply List.eq_nil_of_length_eq_zero; omega
      · rw [if_neg hc] at hx
        cases p with
        | none => simp at hx
        | some y =>
          simp only [Option.map_some, Option.some.injEq] at hx
          obtain ⟨yb, yo, ys⟩ := y
          obtain ⟨k1, k2⟩ := h3 _ rfl
          simp only at k1
          subst k1
          rw [Addr.add_lit] at hx
          subst hx
          refine ⟨rfl, fun hne => ?_⟩
          have hlne : l ≠ [] := by rintro rfl; simp at hne
          obtain ⟨m1, m2, m3⟩ := k2 hlne
          refine ⟨m1, m2, fun j w hj => ?_⟩
          have : (cells l)[a * El.z α + j]? = some w := by
            rw [← cells_drop, ← cells_take, List.getElem?_drop, List.getElem?_take] at hj
            split at hj
            · exact hj
            · cases hj
          have := m3 _ _ this
          rw [Nat.add_assoc]; exact this
end
end Go.Sg
namespace Go.Sg
open Go Vc
structure SlT (α : Type) [El α] (t e : TypeId) (by' : Nat) : Prop where
  und : Pg.underlying t = some (.slice e)
  inf : (Pg.info? e).map (fun i => (i.size, i.bytes, i.zero.map (·.cells.size))) = some (El.z α, by', some (El.z α))
theorem SlT.info {α : Type} [El α] {t e by'} (s : SlT α t e by') : ∃ i z, Pg.info? e = some i ∧ i.zero = some z ∧ i.size = El.z α ∧ i.bytes = by' ∧ z.cells.size = El.z α := by
  have h := s.inf
  cases hi : Pg.info? e with
  | none => rw [hi] at h; cases h
  | some i =>
    rw [hi] at h
    simp only [Option.map_some, Option.some.injEq, Prod.mk.injEq] at h
    cases hz : i.zero with
    | none => rw [hz] at h; simp at h
    | some z => rw [hz] at h; simp only [Option.map_some, Option.some.injEq] at h; exact ⟨i, z, rfl, hz, h.1, h.2.1, h.2.2⟩
section
variable {α : Type} [El α]
def Ow (n0 : Nat) (e : TypeId) (h : Heap) (v : Value) (l : List α) : Prop :=
  (v = .slice none 0 0 ∧ l = []) ∨ ∃ g cap, ∃ cur : Array Value, v = .slice (some ⟨g, 0, none⟩) l.length cap ∧ n0 ≤ g ∧ h[g]? = some (.cells cur e (0, 0)) ∧ l.length ≤ cap ∧ cap ≤ maxLen ∧
    cur.size = cap * El.z α ∧ cur.toList.take (l.length * El.z α) = cells l
theorem Ow.owns {n0 e h v} {l : List α} (o : Ow n0 e h v l) (w : World) (hw : w.heap = h) : w.ownsRow n0 e (El.z α) v l.length (cells l) := by
  subst hw
  refine ⟨cells_length l, ?_⟩
  rcases o with ⟨rfl, rfl⟩ | ⟨g, cap, cur, h1⟩
  · exact .inl ⟨rfl, rfl⟩
  · exact .inr ⟨g, cap, cur, h1⟩
theorem Ow.of {n0 e} {w : World} {v n} {l : List α} (o : w.ownsRow n0 e (El.z α) v n (cells l)) : Ow n0 e w.heap v l := by
  have hn : n = l.length := by
    have := o.1; rw [cells_length] at this
    exact (Nat.eq_of_mul_eq_mul_right (El.pos (α := α)) this).symm
  subst hn
  rcases o.2 with ⟨rfl, h⟩ | ⟨g, cap, cur, h1⟩
  · exact .inl ⟨rfl, List.eq_nil_of_length_eq_zero h⟩
  · exact .inr ⟨g, cap, cur, h1⟩
theorem Ow.nil (n0 e h) : Ow n0 e h (.slice none 0 0) ([] : List α) := .inl ⟨rfl, rfl⟩
theorem Ow.ex {n0 e h h' v} {l : List α} {M : Nat → Prop} (o : Ow n0 e h v l) (k : Ex M h h') (hm : ∀ b, n0 ≤ b → b < h.size → ¬ M b) : Ow n0 e h' v l := by
  rcases o with o | ⟨g, cap, cur, h1, h2, h3, h4⟩
  · exact .inl o
  · exact .inr ⟨g, cap, cur, h1, h2, k.get h3 (hm g h2 (Array.getElem?_eq_some_iff.1 h3).1), h4⟩
theorem Ow.ext {n0 e h h' v} {l : List α} (o : Ow n0 e h v l) (k : Ext h h') : Ow n0 e h' v l := o.ex k fun _ _ _ x => x
theorem Ow.low {n0 n1 e h v} {l : List α} (o : Ow n0 e h v l) (k : n1 ≤ n0) : Ow n1 e h v l := by
  rcases o with o | ⟨g, cap, cur, h1, h2, h3⟩
  · exact .inl o
  · exact .inr ⟨g, cap, cur, h1, Nat.le_trans k h2, h3⟩
theorem Ow.sl {n0 e h v} {l : List α} {U : Nat → Prop} (o : Ow n0 e h v l) (hU : ∀ b, n0 ≤ b → ¬ U b) : Sl U h v l := by
  rcases o with ⟨rfl, rfl⟩ | ⟨g, cap, cur, rfl, h2, h3, h4, h5, h6, h7⟩
  · exact Sl.nil U h
  · refine ⟨⟨some ⟨g, 0, none⟩, cap, rfl, h4, (fun x => nomatch x), fun x hx => ?_⟩⟩
    cases hx
    refine ⟨rfl, fun _ => ⟨(Array.getElem?_eq_some_iff.1 h3).1, hU g h2, fun j v hj => ?_⟩⟩
    rw [← h7, List.getElem?_take] at hj
    split at hj
    · simp only [hget, h3, Nat.zero_add]; simpa using hj
    · cases hj
theorem grown_ex {w w' : World} {row : Option Nat} {n0 : Nat} (g : w.grownBy w' row) (hr : ∀ b, row = some b → n0 ≤ b) : Ex (fun b => n0 ≤ b) w.heap w'.heap :=
  ⟨g.size, fun b hb hm => g.block b hb (by rcases row with _ | r; · simp
                                           · simp only [Option.some.injEq, ne_eq]; exact fun e => hm (e ▸ hr r rfl))⟩
theorem grown_kin {w w' : World} {row : Option Nat} (g : w.grownBy w' row) : Kin w w' := ⟨g.os, g.tape, g.output⟩
theorem Ow.block {n0 e h v} {l : List α} (o : Ow n0 e h v l) : ∀ b, v.ownBlock = some b → n0 ≤ b := by
  rcases o with ⟨rfl, rfl⟩ | ⟨g, cap, cur, rfl, h2, _⟩
  · intro b h; simp [Value.ownBlock] at h
  · intro b h; simp [Value.ownBlock] at h; omega
variable {t e ty : TypeId} {by' : Nat} {h : Heap} {K : Kt} {n0 : Nat}
theorem run_append_src_nil (T : SlT α t e by') (w : World) (v : Value) (l : List α) (o : Ow n0 e w.heap v l) (a : Option Addr) (c : Nat) :
    ∃ w', (Builtin.append_ #[t, t] ty #[v, .slice a 0 c]).run Pg w = .ok v w' ∧ w' = w := by
  obtain ⟨i, z, hi, hz, hs, hb, hzs⟩ := T.info
  refine ⟨w, ?_, rfl⟩
  have hfc : ∀ a : Option Addr, (Builtin.firstCells i.size 0 (.slice a 0 c)).run Pg w = .ok #[] w := by
    intro a; cases a <;> simp [Builtin.firstCells, loadCells, loadCellsFrom]
  rcases o with ⟨rfl, rfl⟩ | ⟨g, cap, cur, rfl, h2, h3, h4, h5, h6, h7⟩
  · simp [Builtin.append_, run_underlying T.und, sizeOf, typeInfo, hi, Builtin.lenOf, hfc]
  · simp [Builtin.append_, run_underlying T.und, sizeOf, typeInfo, hi, Builtin.lenOf, hfc, h4, storeCells]
theorem app {U} (T : SlT α t e by') {v x : Value} {l m : List α} (o : Ow n0 e h v l) (s : Sl U h x m) (hn : n0 ≤ h.size) (hl : l.length + m.length ≤ 2 ^ 40) (hby : by' ≤ 64)
    (r : ∀ v' h', Ow n0 e h' v' (l ++ m) → Ex (fun b => n0 ≤ b) h h' → (v.ownBlock = none → Ext h h') → K v' h') :
    VH Pg (Builtin.append_ #[t, t] ty #[v, x]) h K := by
  obtain ⟨i, z, hi, hz, hs, hb, hzs⟩ := T.info
  intro w hw
  subst hw
  obtain ⟨a, cap, rfl, c1, c2, c3⟩ := s.out
  by_cases hm : m = []
  · subst hm
    obtain ⟨w', h1, rfl⟩ := run_append_src_nil (ty := ty) T w v l o a cap
    exact ⟨v, w', h1, Kin.refl _, r _ _ (by simpa using o) (Ex.refl _ _) fun _ => Ex.refl _ _⟩
  · cases a with
    | none => exact absurd (List.eq_nil_of_length_eq_zero (by have := c2 rfl; omega)) hm
    | some a =>
      obtain ⟨ab, ao, asp⟩ := a
      obtain ⟨k1, k2⟩ := c3 _ rfl
      simp only at k1
      subst k1
      obtain ⟨k2, k3, k4⟩ := k2 hm
      obtain ⟨v', w', h1, h2, h3, h4, h5⟩ := run_append_own_at (P := Pg) w n0 t ty e i z (El.z α) by' T.und hi hz hs hb hzs El.pos v l.length (cells l) (o.owns w rfl)
        ⟨ab, ao, none⟩ m.length cap (cells m) (cells_length m) (fun j u hj => by rw [Addr.add_lit, cell_hget]; exact k4 j u hj) (cells_one m)
        (by simp only [maxLen]; omega) (by have : (l.length + m.length) * by' ≤ 2 ^ 40 * 64 := Nat.mul_le_mul hl hby
                                           omega) hn
      rw [← cells_append] at h2
      refine ⟨v', w', h1, grown_kin h3, r _ _ (Ow.of h2) (grown_ex h3 o.block) fun hv => ?_⟩
      rw [hv] at h3
      exact ⟨h3.size, fun b hb _ => h3.block b hb (by simp)⟩
theorem bs {si : Option (Array Value × Nat × TypeId)} {n : Nat} {parts} {zs : Array Value} {cs : Array Value} (l : List α) (hsi : si = some (zs, El.z α, e)) (hn : n0 ≤ h.size) (hl : l.length = n) (hsz : n * El.z α ≤ 2 ^ 24)
    (hf : Instr.fill (fun i => some (i * El.z α, El.z α)) ((Array.range (n * El.z α)).map ((if n * El.z α = 0 then #[] else zs)[· % (if n * El.z α = 0 then #[] else zs).size]!)) parts = some cs) (hc : cs.toList = cells l)
    (r : ∀ v' h', Ow n0 e h' v' l → Ext h h' → K v' h') : BsP si n parts h K := by
  refine ⟨zs, El.z α, e, cs, hsi, hsz, hf, r _ _ (.inr ⟨h.size, n, cs, by rw [hl], hn, by rw [Array.getElem?_push, if_pos rfl], by omega, ?_, ?_, ?_⟩) (push_ext _ _)⟩
  · simp only [maxLen]; have := Nat.le_mul_of_pos_right n (El.pos (α := α)); omega
  · have := congrArg List.length hc; rw [cells_length, hl] at this; simpa using this
  · rw [hc, ← cells_length, List.take_length]
end
end Go.Sg
namespace Go.Sg
open Go Vc
structure Pair where
  key : Str
  val : Str
deriving DecidableEq
structure Msg where
  key : Str
  del : Bool
  val : Str
deriving DecidableEq
structure U32 where
  n : Nat
deriving DecidableEq
@[simp] theorem str_one (s : Str) : (str s).oneCell' = true := rfl
instance : El UInt8 := ⟨1, fun b => [.int .u8 b.toNat], fun _ => rfl, by decide, fun _ v h => by simp at h; subst h; rfl⟩
instance : El Str := ⟨1, fun s => [str s], fun _ => rfl, by decide, fun _ v h => by simp at h; subst h; rfl⟩
instance : El U32 := ⟨1, fun s => [.int .u32 s.n], fun _ => rfl, by decide, fun _ v h => by simp at h; subst h; rfl⟩
instance : El Int := ⟨1, fun s => [.int .i64 s], fun _ => rfl, by decide, fun _ v h => by simp at h; subst h; rfl⟩
instance : El Pair := ⟨2, fun p => [str p.key, str p.val], fun _ => rfl, by decide, fun _ v h => by simp at h; rcases h with rfl | rfl <;> rfl⟩
instance : El Msg := ⟨3, fun p => [str p.key, .bool p.del, str p.val], fun _ => rfl, by decide, fun _ v h => by simp at h; rcases h with rfl | rfl | rfl <;> rfl⟩
theorem T_byte : SlT UInt8 t_S_uint8 t_uint8 1 := ⟨by kernel_rfl, by kernel_rfl⟩
theorem T_str : SlT Str t_S_string t_string 16 := ⟨by kernel_rfl, by kernel_rfl⟩
theorem T_u32 : SlT U32 t_S_uint32 t_uint32 4 := ⟨by kernel_rfl, by kernel_rfl⟩
theorem T_int : SlT Int t_S_int t_int 8 := ⟨by kernel_rfl, by kernel_rfl⟩
theorem T_Pair : SlT Pair t_S_api_Pair t_api_Pair 32 := ⟨by kernel_rfl, by kernel_rfl⟩
theorem T_Msg : SlT Msg t_S_api_Msg t_api_Msg 40 := ⟨by kernel_rfl, by kernel_rfl⟩
end Go.Sg
namespace Go.Sg
open Go Vc
theorem least {σ : Type} (P : σ → Prop) (μ : σ → Nat) : ∀ n, (∃ s, P s ∧ μ s ≤ n) → ∃ s, P s ∧ ∀ s', P s' → μ s ≤ μ s' := by
  intro n
  induction n with
  | zero => rintro ⟨s, h, k⟩; exact ⟨s, h, fun _ _ => by omega⟩
  | succ n ih =>
    rintro ⟨s, h, k⟩
    by_cases hx : ∃ s, P s ∧ μ s ≤ n
    · exact ih hx
    · exact ⟨s, h, fun s' h' => by
        by_cases hq : μ s' ≤ n
        · exact absurd ⟨s', h', hq⟩ hx
        · omega⟩
theorem lop {σ : Type} {body : List Value → Heap → (List Value → Heap → Prop) → Prop} {vs : List Value} {h : Heap} (st : σ → List Value) (I : σ → Heap → Prop) (μ : σ → Nat) (s0 : σ) (hvs : vs = st s0) (h0 : I s0 h)
    (step : ∀ s h (N : Nt), I s h → (∀ s' h', I s' h' → μ s' < μ s → N (st s') h') → body (st s) h N) : LoP body vs h := by
  classical
  let Q := fun (vs : List Value) (h : Heap) (s : σ) => vs = st s ∧ I s h
  have hmin : ∀ vs h, (∃ s, Q vs h s) → ∃ s, Q vs h s ∧ ∀ s', Q vs h s' → μ s ≤ μ s' := fun vs h ⟨s, hs⟩ => least (Q vs h) μ (μ s) ⟨s, hs, Nat.le_refl _⟩
  let m := fun (vs : List Value) (h : Heap) => if hx : ∃ s, Q vs h s then μ (Classical.choose (hmin vs h hx)) else 0
  have hm : ∀ vs h s, Q vs h s → m vs h ≤ μ s := by
    intro vs h s hs
    have hx : ∃ s, Q vs h s := ⟨s, hs⟩
    simp only [m, dif_pos hx]
    exact (Classical.choose_spec (hmin vs h hx)).2 s hs
  refine ⟨fun vs h => ∃ s, Q vs h s, m, ⟨s0, hvs, h0⟩, ?_⟩
  intro vs h hx
  have hc := Classical.choose_spec (hmin vs h hx)
  have hmu : m vs h = μ (Classical.choose (hmin vs h hx)) := by simp only [m, dif_pos hx]
  generalize Classical.choose (hmin vs h hx) = s at hc hmu
  obtain ⟨⟨h1, h2⟩, h3⟩ := hc
  subst h1
  refine step s h _ h2 fun s' h' hi hlt => ⟨⟨s', rfl, hi⟩, ?_⟩
  rw [hmu]
  exact Nat.lt_of_le_of_lt (hm _ _ s' ⟨rfl, hi⟩) hlt
end Go.Sg
set_option maxRecDepth 100000
namespace Go.Sg
open Go Vc Go.Proofs
def m_slices_Clone_api_Msg (x0_ : Value) (h : Heap) (K : Kt) : Prop :=
 EqP .eql t_S_api_Msg (.tmp 3) (.const (.slice none 0 0)) x0_ (.slice none 0 0) h fun x2 h1 =>
 CdP x2
 (K (.slice none 0 0) h1)
 (BsP st_S_api_Msg 0 [] h1 fun x4 h3 =>
 VH Pg (Builtin.append_ #[t_S_api_Msg, t_S_api_Msg] t_S_api_Msg #[x4, x0_]) h3 fun x6 h5 =>
 K x6 h5)
theorem m_slices_Clone_api_Msg_ok {x0_ : Value} {h : Heap} {K : Kt} (hh : m_slices_Clone_api_Msg x0_ h K) : Ca f_slices_Clone_api_Msg #[x0_] h K := cv Tryz.func44 (by kernel_rfl) hh
def m_slices_Clone_byte (x0_ : Value) (h : Heap) (K : Kt) : Prop :=
 EqP .eql t_S_uint8 (.tmp 3) (.const (.slice none 0 0)) x0_ (.slice none 0 0) h fun x2 h1 =>
 CdP x2
 (K (.slice none 0 0) h1)
 (BsP st_S_uint8 0 [] h1 fun x4 h3 =>
 VH Pg (Builtin.append_ #[t_S_uint8, t_S_uint8] t_S_uint8 #[x4, x0_]) h3 fun x6 h5 =>
 K x6 h5)
theorem m_slices_Clone_byte_ok {x0_ : Value} {h : Heap} {K : Kt} (hh : m_slices_Clone_byte x0_ h K) : Ca f_slices_Clone_byte #[x0_] h K := cv Tryz.func85 (by kernel_rfl) hh
def m_slices_Equal_byte_j16 (h : Heap) (K : Kt) : Prop :=
 K (.bool true) h
def m_slices_Equal_byte_l6 (vs : List Value) (x0_ x1_ x12_ : Value) (h : Heap) (nx7 : Nt) (K : Kt) : Prop :=
 BiP .lss (gv vs 1) x12_ fun x8 =>
 CdP x8
 (Ei 1 x0_ (gv vs 1) h fun x11 =>
 Ei 1 x1_ (gv vs 1) h fun x13 =>
 BiP .neq x11 x13 fun x14 =>
 CdP x14
 (K (.bool false) h)
 (BiP .add (gv vs 1) (.int .i64 1) fun x15 =>
 nx7 [(gv vs 0), x15] h))
 (m_slices_Equal_byte_j16 h K)
def m_slices_Equal_byte (x0_ x1_ : Value) (h : Heap) (K : Kt) : Prop :=
 LenP (some true) x0_ fun x1 =>
 LenP (some true) x1_ fun x2 =>
 BiP .neq x1 x2 fun x3 =>
 CdP x3
 (K (.bool false) h)
 (LenP (some true) x0_ fun x5 =>
 LoP (fun vt h nx7 => m_slices_Equal_byte_l6 vt x0_ x1_ x5 h nx7 K) [(.bool false), (.int .i64 0)] h)
theorem m_slices_Equal_byte_ok {x0_ x1_ : Value} {h : Heap} {K : Kt} (hh : m_slices_Equal_byte x0_ x1_ h K) : Ca f_slices_Equal_byte #[x0_, x1_] h K := cv Tryz.func179 (by kernel_rfl) hh
def m_slices_ContainsFunc_api_Pair (x0_ x1_ : Value) (h : Heap) (K : Kt) : Prop :=
 Ca f_slices_IndexFunc_api_Pair #[x0_, x1_] h fun x2 h1 =>
 BiP .geq x2 (.int .i64 0) fun x3 =>
 K x3 h1
theorem m_slices_ContainsFunc_api_Pair_ok {x0_ x1_ : Value} {h : Heap} {K : Kt} (hh : m_slices_ContainsFunc_api_Pair x0_ x1_ h K) : Ca f_slices_ContainsFunc_api_Pair #[x0_, x1_] h K := cv Tryz.func186 (by kernel_rfl) hh
def m_slices_Clone_api_Pair (x0_ : Value) (h : Heap) (K : Kt) : Prop :=
 EqP .eql t_S_api_Pair (.tmp 3) (.const (.slice none 0 0)) x0_ (.slice none 0 0) h fun x2 h1 =>
 CdP x2
 (K (.slice none 0 0) h1)
 (BsP st_S_api_Pair 0 [] h1 fun x4 h3 =>
 VH Pg (Builtin.append_ #[t_S_api_Pair, t_S_api_Pair] t_S_api_Pair #[x4, x0_]) h3 fun x6 h5 =>
 K x6 h5)
theorem m_slices_Clone_api_Pair_ok {x0_ : Value} {h : Heap} {K : Kt} (hh : m_slices_Clone_api_Pair x0_ h K) : Ca f_slices_Clone_api_Pair #[x0_] h K := cv Tryz.func204 (by kernel_rfl) hh
def m_slices_BinarySearchFunc_api_Pair_j26 (x6_ x7_ : Value) (h : Heap) (K : Kt) : Prop :=
 K (.tuple #[x6_, x7_]) h
def m_slices_BinarySearchFunc_api_Pair_j16 (x0_ x1_ x2_ x8_ x9_ : Value) (h : Heap) (K : Kt) : Prop :=
 BiP .lss x9_ x8_ fun x18 =>
 CdP x18
 (Ea 2 x0_ x9_ h fun x20 =>
 CvH Pg x2_ #[x20, x1_] h fun x22 h21 =>
 BiP .eql x22 (.int .i64 0) fun x23 =>
 m_slices_BinarySearchFunc_api_Pair_j26 x9_ x23 h21 K)
 (m_slices_BinarySearchFunc_api_Pair_j26 x9_ (.bool false) h K)
def m_slices_BinarySearchFunc_api_Pair_l3 (vs : List Value) (x0_ x1_ x2_ x8_ : Value) (h : Heap) (nx4 : Nt) (K : Kt) : Prop :=
 BiP .lss (gv vs 0) (gv vs 1) fun x5 =>
 CdP x5
 (BiP .add (gv vs 0) (gv vs 1) fun x6 =>
 CvP .u64 x6 fun x7 =>
 BiP .shr x7 (.int .u64 1) fun x8 =>
 CvP .i64 x8 fun x9 =>
 Ea 2 x0_ x9 h fun x11 =>
 CvH Pg x2_ #[x11, x1_] h fun x13 h12 =>
 BiP .lss x13 (.int .i64 0) fun x14 =>
 CdP x14
 (BiP .add x9 (.int .i64 1) fun x15 =>
 nx4 [x15, (gv vs 1)] h12)
 (nx4 [(gv vs 0), x9] h12))
 (m_slices_BinarySearchFunc_api_Pair_j16 x0_ x1_ x2_ x8_ (gv vs 0) h K)
def m_slices_BinarySearchFunc_api_Pair (x0_ x1_ x2_ : Value) (h : Heap) (K : Kt) : Prop :=
 LenP (some true) x0_ fun x1 =>
 LoP (fun vt h nx4 => m_slices_BinarySearchFunc_api_Pair_l3 vt x0_ x1_ x2_ x1 h nx4 K) [(.int .i64 0), x1] h
theorem m_slices_BinarySearchFunc_api_Pair_ok {x0_ x1_ x2_ : Value} {h : Heap} {K : Kt} (hh : m_slices_BinarySearchFunc_api_Pair x0_ x1_ x2_ h K) : Ca f_slices_BinarySearchFunc_api_Pair #[x0_, x1_, x2_] h K := cv Tryz.func205 (by kernel_rfl) hh
def m_slices_Delete_api_Pair (x0_ x1_ x2_ : Value) (h : Heap) (K : Kt) : Prop :=
 LenP (some true) x0_ fun x1 =>
 VH Pg (Instr.sliceAt t_S_api_Pair x0_ (some x1_) (some x2_) (some x1)) h fun x3 h2 =>
 BiP .eql x1_ x2_ fun x4 =>
 CdP x4
 (K x0_ h2)
 (LenP (some true) x0_ fun x5 =>
 SlP 2 x0_ none (some x1_) fun x6 =>
 SlP 2 x0_ (some x2_) none fun x7 =>
 VH Pg (Builtin.append_ #[t_S_api_Pair, t_S_api_Pair] t_S_api_Pair #[x6, x7]) h2 fun x9 h8 =>
 True ∧ (LenP (some true) x9 fun x10 =>
 SlP 2 x9 (some x10) (some x5) fun x11 =>
 VH Pg (Builtin.clear_ #[t_S_api_Pair] t_tuple_2e38e7 #[x11]) h8 fun x13 h12 =>
 K x9 h12))
theorem m_slices_Delete_api_Pair_ok {x0_ x1_ x2_ : Value} {h : Heap} {K : Kt} (hh : m_slices_Delete_api_Pair x0_ x1_ x2_ h K) : Ca f_slices_Delete_api_Pair #[x0_, x1_, x2_] h K := cv Tryz.func207 (by kernel_rfl) hh
def m_slices_Insert_api_Pair (x0_ x1_ x2_ : Value) (h : Heap) (K : Kt) : Prop :=
 SlP 2 x0_ (some x1_) none fun x1 =>
 LenP (some true) x2_ fun x2 =>
 BiP .eql x2 (.int .i64 0) fun x3 =>
 CdP x3
 (K x0_ h)
 (LenP (some true) x0_ fun x4 =>
 BiP .eql x1_ x4 fun x5 =>
 CdP x5
 (VH Pg (Builtin.append_ #[t_S_api_Pair, t_S_api_Pair] t_S_api_Pair #[x0_, x2_]) h fun x7 h6 =>
 K x7 h6)
 (BiP .add x4 x2 fun x8 =>
 VH Pg (Builtin.cap_ #[t_S_api_Pair] t_int #[x0_]) h fun x10 h9 =>
 BiP .gtr x8 x10 fun x11 =>
 CdP x11
 (SlP 2 x0_ none (some x1_) fun x12 =>
 BiP .add x4 x2 fun x13 =>
 BiP .sub x13 x1_ fun x14 =>
 VH Pg (Builtin.append_ #[t_S_api_Pair, t_int] t_S_api_Pair #[x12, x14]) h9 fun x16 h15 =>
 SlP 2 x16 (some x1_) none fun x17 =>
 VH Pg (Builtin.copy_ #[t_S_api_Pair, t_S_api_Pair] t_int #[x17, x2_]) h15 fun x19 h18 =>
 BiP .add x1_ x2 fun x20 =>
 SlP 2 x16 (some x20) none fun x21 =>
 SlP 2 x0_ (some x1_) none fun x22 =>
 VH Pg (Builtin.copy_ #[t_S_api_Pair, t_S_api_Pair] t_int #[x21, x22]) h18 fun x24 h23 =>
 True ∧ (K x16 h23))
 (BiP .add x4 x2 fun x25 =>
 SlP 2 x0_ none (some x25) fun x26 =>
 BiP .add x1_ x2 fun x27 =>
 SlP 2 x26 (some x27) none fun x28 =>
 Cx f_slices_overlaps_api_Pair #[x2_, x28] h9 fun x30 h29 =>
 UnP .not x30 fun x31 =>
 CdP x31
 (BiP .add x1_ x2 fun x32 =>
 SlP 2 x26 (some x32) none fun x33 =>
 SlP 2 x26 (some x1_) none fun x34 =>
 VH Pg (Builtin.copy_ #[t_S_api_Pair, t_S_api_Pair] t_int #[x33, x34]) h29 fun x36 h35 =>
 True ∧ (SlP 2 x26 (some x1_) none fun x37 =>
 VH Pg (Builtin.copy_ #[t_S_api_Pair, t_S_api_Pair] t_int #[x37, x2_]) h35 fun x39 h38 =>
 K x26 h38))
 (SlP 2 x26 (some x4) none fun x40 =>
 VH Pg (Builtin.copy_ #[t_S_api_Pair, t_S_api_Pair] t_int #[x40, x2_]) h29 fun x42 h41 =>
 SlP 2 x26 (some x1_) none fun x43 =>
 Ca f_slices_rotateRight_api_Pair #[x43, x2] h41 fun x45 h44 =>
 K x26 h44))))
theorem m_slices_Insert_api_Pair_ok {x0_ x1_ x2_ : Value} {h : Heap} {K : Kt} (hh : m_slices_Insert_api_Pair x0_ x1_ x2_ h K) : Ca f_slices_Insert_api_Pair #[x0_, x1_, x2_] h K := cv Tryz.func208 (by kernel_rfl) hh
def m_slices_Sorted_uint32 (x0_ : Value) (h : Heap) (K : Kt) : Prop :=
 Ca f_slices_Collect_uint32 #[x0_] h fun x2 h1 =>
 Ca f_slices_Sort_uint32 #[x2] h1 fun x4 h3 =>
 K x2 h3
theorem m_slices_Sorted_uint32_ok {x0_ : Value} {h : Heap} {K : Kt} (hh : m_slices_Sorted_uint32 x0_ h K) : Ca f_slices_Sorted_uint32 #[x0_] h K := cv Tryz.func227 (by kernel_rfl) hh
def m_maps_Keys_map (x0_ : Value) (h : Heap) (K : Kt) : Prop :=
 BxP t_M_uint32_int x0_ h fun x2 h1 =>
 K (.func (.func f_maps_Keys_map_1) #[] #[x2]) h1
theorem m_maps_Keys_map_ok {x0_ : Value} {h : Heap} {K : Kt} (hh : m_maps_Keys_map x0_ h K) : Ca f_maps_Keys_map #[x0_] h K := cv Tryz.func228 (by kernel_rfl) hh
def m_slices_Sort_uint32 (x0_ : Value) (h : Heap) (K : Kt) : Prop :=
 LenP (some true) x0_ fun x1 =>
 CvP .u64 x1 fun x2 =>
 Ca f_bits_Len #[x2] h fun x4 h3 =>
 Ca f_slices_pdqsortOrdered_uint32 #[x0_, (.int .i64 0), x1, x4] h3 fun x6 h5 =>
 K (.tuple #[]) h5
theorem m_slices_Sort_uint32_ok {x0_ : Value} {h : Heap} {K : Kt} (hh : m_slices_Sort_uint32 x0_ h K) : Ca f_slices_Sort_uint32 #[x0_] h K := cv Tryz.func233 (by kernel_rfl) hh
def m_slices_IndexFunc_api_Pair_j12 (h : Heap) (K : Kt) : Prop :=
 K (.int .i64 (-1)) h
def m_slices_IndexFunc_api_Pair_l3 (vs : List Value) (x0_ x1_ x7_ : Value) (h : Heap) (nx4 : Nt) (K : Kt) : Prop :=
 BiP .lss (gv vs 1) x7_ fun x5 =>
 CdP x5
 (Ea 2 x0_ (gv vs 1) h fun x8 =>
 CvH Pg x1_ #[x8] h fun x10 h9 =>
 CdP x10
 (K (gv vs 1) h9)
 (BiP .add (gv vs 1) (.int .i64 1) fun x11 =>
 nx4 [(gv vs 0), x11] h9))
 (m_slices_IndexFunc_api_Pair_j12 h K)
def m_slices_IndexFunc_api_Pair (x0_ x1_ : Value) (h : Heap) (K : Kt) : Prop :=
 LenP (some true) x0_ fun x2 =>
 LoP (fun vt h nx4 => m_slices_IndexFunc_api_Pair_l3 vt x0_ x1_ x2 h nx4 K) [(.int .i64 0), (.int .i64 0)] h
theorem m_slices_IndexFunc_api_Pair_ok {x0_ x1_ : Value} {h : Heap} {K : Kt} (hh : m_slices_IndexFunc_api_Pair x0_ x1_ h K) : Ca f_slices_IndexFunc_api_Pair #[x0_, x1_] h K := cv Tryz.func236 (by kernel_rfl) hh
def m_slices_Collect_uint32 (x0_ : Value) (h : Heap) (K : Kt) : Prop :=
 Ca f_slices_AppendSeq_uint32 #[(.slice none 0 0), x0_] h fun x2 h1 =>
 K x2 h1
theorem m_slices_Collect_uint32_ok {x0_ : Value} {h : Heap} {K : Kt} (hh : m_slices_Collect_uint32 x0_ h K) : Ca f_slices_Collect_uint32 #[x0_] h K := cv Tryz.func268 (by kernel_rfl) hh
def m_slices_pdqsortOrdered_uint32_j56 (x0_ x1_ x2_ x3_ x10_ x11_ : Value) (h : Heap) (nx2 : Nt) (K : Kt) : Prop :=
 Ca f_slices_partitionOrdered_uint32 #[x0_, x1_, x2_, x11_] h fun x58 h57 =>
 ExP x58 0 fun x59 =>
 ExP x58 1 fun x60 =>
 BiP .sub x59 x1_ fun x61 =>
 BiP .sub x2_ x59 fun x62 =>
 BiP .quo x10_ (.int .i64 8) fun x63 =>
 BiP .lss x61 x62 fun x64 =>
 CdP x64
 (BiP .geq x61 x63 fun x65 =>
 Ca f_slices_pdqsortOrdered_uint32 #[x0_, x1_, x59, x3_] h57 fun x67 h66 =>
 BiP .add x59 (.int .i64 1) fun x68 =>
 nx2 [x68, x2_, x3_, x65, x60] h66)
 (BiP .geq x62 x63 fun x69 =>
 BiP .add x59 (.int .i64 1) fun x70 =>
 Ca f_slices_pdqsortOrdered_uint32 #[x0_, x70, x2_, x3_] h57 fun x72 h71 =>
 nx2 [x1_, x59, x3_, x69, x60] h71)
def m_slices_pdqsortOrdered_uint32_j53 (x0_ x1_ x2_ x3_ x8_ x9_ x10_ x11_ x87_ : Value) (h : Heap) (nx2 : Nt) (K : Kt) : Prop :=
 CdP x87_
 (Ca f_slices_partitionEqualOrdered_uint32 #[x0_, x1_, x2_, x11_] h fun x55 h54 =>
 nx2 [x55, x2_, x3_, x8_, x9_] h54)
 (m_slices_pdqsortOrdered_uint32_j56 x0_ x1_ x2_ x3_ x10_ x11_ h nx2 K)
def m_slices_pdqsortOrdered_uint32_j39 (x0_ x1_ x2_ x3_ x8_ x9_ x10_ x11_ : Value) (h : Heap) (nx2 : Nt) (K : Kt) : Prop :=
 BiP .gtr x1_ (.int .i64 0) fun x42 =>
 CdP x42
 (BiP .sub x1_ (.int .i64 1) fun x43 =>
 Ei 1 x0_ x43 h fun x45 =>
 Ei 1 x0_ x11_ h fun x47 =>
 Ca f_cmp_Less_uint32 #[x45, x47] h fun x49 h48 =>
 True ∧ (UnP .not x49 fun x50 =>
 m_slices_pdqsortOrdered_uint32_j53 x0_ x1_ x2_ x3_ x8_ x9_ x10_ x11_ x50 h48 nx2 K))
 (m_slices_pdqsortOrdered_uint32_j53 x0_ x1_ x2_ x3_ x8_ x9_ x10_ x11_ (.bool false) h nx2 K)
def m_slices_pdqsortOrdered_uint32_j36 (x0_ x1_ x2_ x3_ x8_ x9_ x10_ x11_ x68_ : Value) (h : Heap) (nx2 : Nt) (K : Kt) : Prop :=
 CdP x68_
 (Ca f_slices_partialInsertionSortOrdered_uint32 #[x0_, x1_, x2_] h fun x38 h37 =>
 CdP x38
 (K (.tuple #[]) h37)
 (m_slices_pdqsortOrdered_uint32_j39 x0_ x1_ x2_ x3_ x8_ x9_ x10_ x11_ h37 nx2 K))
 (m_slices_pdqsortOrdered_uint32_j39 x0_ x1_ x2_ x3_ x8_ x9_ x10_ x11_ h nx2 K)
def m_slices_pdqsortOrdered_uint32_j27 (x0_ x1_ x2_ x3_ x8_ x9_ x10_ x11_ x12_ : Value) (h : Heap) (nx2 : Nt) (K : Kt) : Prop :=
 CdP x8_
 (CdP x9_
 (BiP .eql x12_ (.int .i64 1) fun x31 =>
 m_slices_pdqsortOrdered_uint32_j36 x0_ x1_ x2_ x3_ x8_ x9_ x10_ x11_ x31 h nx2 K)
 (m_slices_pdqsortOrdered_uint32_j36 x0_ x1_ x2_ x3_ x8_ x9_ x10_ x11_ (.bool false) h nx2 K))
 (m_slices_pdqsortOrdered_uint32_j36 x0_ x1_ x2_ x3_ x8_ x9_ x10_ x11_ (.bool false) h nx2 K)
def m_slices_pdqsortOrdered_uint32_j15 (x0_ x1_ x2_ x3_ x8_ x9_ x10_ : Value) (h : Heap) (nx2 : Nt) (K : Kt) : Prop :=
 Ca f_slices_choosePivotOrdered_uint32 #[x0_, x1_, x2_] h fun x17 h16 =>
 ExP x17 0 fun x18 =>
 ExP x17 1 fun x19 =>
 BiP .eql x19 (.int .i64 2) fun x21 =>
 CdP x21
 (Ca f_slices_reverseRangeOrdered_uint32 #[x0_, x1_, x2_] h16 fun x23 h22 =>
 BiP .sub x2_ (.int .i64 1) fun x24 =>
 BiP .sub x18 x1_ fun x25 =>
 BiP .sub x24 x25 fun x26 =>
 m_slices_pdqsortOrdered_uint32_j27 x0_ x1_ x2_ x3_ x8_ x9_ x10_ x26 (.int .i64 1) h22 nx2 K)
 (m_slices_pdqsortOrdered_uint32_j27 x0_ x1_ x2_ x3_ x8_ x9_ x10_ x18 x19 h16 nx2 K)
def m_slices_pdqsortOrdered_uint32_l1 (vs : List Value) (x0_ : Value) (h : Heap) (nx2 : Nt) (K : Kt) : Prop :=
 BiP .sub (gv vs 1) (gv vs 0) fun x3 =>
 BiP .leq x3 (.int .i64 12) fun x4 =>
 CdP x4
 (Ca f_slices_insertionSortOrdered_uint32 #[x0_, (gv vs 0), (gv vs 1)] h fun x6 h5 =>
 K (.tuple #[]) h5)
 (BiP .eql (gv vs 2) (.int .i64 0) fun x7 =>
 CdP x7
 (Ca f_slices_heapSortOrdered_uint32 #[x0_, (gv vs 0), (gv vs 1)] h fun x9 h8 =>
 K (.tuple #[]) h8)
 (UnP .not (gv vs 3) fun x11 =>
 CdP x11
 (Ca f_slices_breakPatternsOrdered_uint32 #[x0_, (gv vs 0), (gv vs 1)] h fun x13 h12 =>
 BiP .sub (gv vs 2) (.int .i64 1) fun x14 =>
 m_slices_pdqsortOrdered_uint32_j15 x0_ (gv vs 0) (gv vs 1) x14 (gv vs 3) (gv vs 4) x3 h12 nx2 K)
 (m_slices_pdqsortOrdered_uint32_j15 x0_ (gv vs 0) (gv vs 1) (gv vs 2) (gv vs 3) (gv vs 4) x3 h nx2 K)))
def m_slices_pdqsortOrdered_uint32 (x0_ x1_ x2_ x3_ : Value) (h : Heap) (K : Kt) : Prop :=
 LoP (fun vt h nx2 => m_slices_pdqsortOrdered_uint32_l1 vt x0_ h nx2 K) [x1_, x2_, x3_, (.bool true), (.bool true)] h
theorem m_slices_pdqsortOrdered_uint32_ok {x0_ x1_ x2_ x3_ : Value} {h : Heap} {K : Kt} (hh : m_slices_pdqsortOrdered_uint32 x0_ x1_ x2_ x3_ h K) : Ca f_slices_pdqsortOrdered_uint32 #[x0_, x1_, x2_, x3_] h K := cv Tryz.func272 (by kernel_rfl) hh
def m_bits_Len (x0_ : Value) (h : Heap) (K : Kt) : Prop :=
 Ca f_bits_Len64 #[x0_] h fun x2 h1 =>
 K x2 h1
theorem m_bits_Len_ok {x0_ : Value} {h : Heap} {K : Kt} (hh : m_bits_Len x0_ h K) : Ca f_bits_Len #[x0_] h K := cv Tryz.func273 (by kernel_rfl) hh
def m_slices_ContainsFunc_byte (x0_ x1_ : Value) (h : Heap) (K : Kt) : Prop :=
 Ca f_slices_IndexFunc_byte #[x0_, x1_] h fun x2 h1 =>
 BiP .geq x2 (.int .i64 0) fun x3 =>
 K x3 h1
theorem m_slices_ContainsFunc_byte_ok {x0_ x1_ : Value} {h : Heap} {K : Kt} (hh : m_slices_ContainsFunc_byte x0_ x1_ h K) : Ca f_slices_ContainsFunc_byte #[x0_, x1_] h K := cv Tryz.func280 (by kernel_rfl) hh
def m_slices_insertionSortOrdered_uint32_j21 (x0_ x1_ x2_ x6_ x7_ : Value) (h : Heap) (nx3 : Nt) (nx7 : Nt) (K : Kt) : Prop :=
 BiP .sub x7_ (.int .i64 1) fun x23 =>
 BiP .sub x7_ (.int .i64 1) fun x24 =>
 Ei 1 x0_ x24 h fun x26 =>
 Ei 1 x0_ x7_ h fun x28 =>
 IxP 1 x0_ x7_ fun x29 =>
 StP x29 x26 h fun h30 =>
 True ∧ (IxP 1 x0_ x23 fun x31 =>
 StP x31 x28 h30 fun h32 =>
 True ∧ (BiP .sub x7_ (.int .i64 1) fun x33 =>
 nx7 [x33] h32))
def m_slices_insertionSortOrdered_uint32_j34 (x0_ x1_ x2_ x6_ : Value) (h : Heap) (nx3 : Nt) (K : Kt) : Prop :=
 BiP .add x6_ (.int .i64 1) fun x35 =>
 nx3 [x35] h
def m_slices_insertionSortOrdered_uint32_j20 (x0_ x1_ x2_ x6_ x7_ x30_ : Value) (h : Heap) (nx3 : Nt) (nx7 : Nt) (K : Kt) : Prop :=
 CdP x30_
 (m_slices_insertionSortOrdered_uint32_j21 x0_ x1_ x2_ x6_ x7_ h nx3 nx7 K)
 (m_slices_insertionSortOrdered_uint32_j34 x0_ x1_ x2_ x6_ h nx3 K)
def m_slices_insertionSortOrdered_uint32_l6 (vs : List Value) (x0_ x1_ x2_ x6_ : Value) (h : Heap) (nx3 : Nt) (nx7 : Nt) (K : Kt) : Prop :=
 BiP .gtr (gv vs 0) x1_ fun x10 =>
 CdP x10
 (Ei 1 x0_ (gv vs 0) h fun x12 =>
 BiP .sub (gv vs 0) (.int .i64 1) fun x13 =>
 Ei 1 x0_ x13 h fun x15 =>
 Ca f_cmp_Less_uint32 #[x12, x15] h fun x17 h16 =>
 True ∧ (m_slices_insertionSortOrdered_uint32_j20 x0_ x1_ x2_ x6_ (gv vs 0) x17 h16 nx3 nx7 K))
 (m_slices_insertionSortOrdered_uint32_j20 x0_ x1_ x2_ x6_ (gv vs 0) (.bool false) h nx3 nx7 K)
def m_slices_insertionSortOrdered_uint32_l2 (vs : List Value) (x0_ x1_ x2_ : Value) (h : Heap) (nx3 : Nt) (K : Kt) : Prop :=
 BiP .lss (gv vs 0) x2_ fun x4 =>
 CdP x4
 (LoP (fun vt h nx7 => m_slices_insertionSortOrdered_uint32_l6 vt x0_ x1_ x2_ (gv vs 0) h nx3 nx7 K) [(gv vs 0)] h)
 (K (.tuple #[]) h)
def m_slices_insertionSortOrdered_uint32 (x0_ x1_ x2_ : Value) (h : Heap) (K : Kt) : Prop :=
 BiP .add x1_ (.int .i64 1) fun x1 =>
 LoP (fun vt h nx3 => m_slices_insertionSortOrdered_uint32_l2 vt x0_ x1_ x2_ h nx3 K) [x1] h
theorem m_slices_insertionSortOrdered_uint32_ok {x0_ x1_ x2_ : Value} {h : Heap} {K : Kt} (hh : m_slices_insertionSortOrdered_uint32 x0_ x1_ x2_ h K) : Ca f_slices_insertionSortOrdered_uint32 #[x0_, x1_, x2_] h K := cv Tryz.func300 (by kernel_rfl) hh
def m_cmp_Less_uint32_j14 (x4_ : Value) (h : Heap) (K : Kt) : Prop :=
 K x4_ h
def m_cmp_Less_uint32 (x0_ x1_ : Value) (h : Heap) (K : Kt) : Prop :=
 Ca f_cmp_isNaN_uint32 #[x0_] h fun x3 h2 =>
 CdP x3
 (Ca f_cmp_isNaN_uint32 #[x1_] h2 fun x5 h4 =>
 UnP .not x5 fun x6 =>
 CdP x6
 (m_cmp_Less_uint32_j14 (.bool true) h4 K)
 (BiP .lss x0_ x1_ fun x9 =>
 m_cmp_Less_uint32_j14 x9 h4 K))
 (BiP .lss x0_ x1_ fun x12 =>
 m_cmp_Less_uint32_j14 x12 h2 K)
theorem m_cmp_Less_uint32_ok {x0_ x1_ : Value} {h : Heap} {K : Kt} (hh : m_cmp_Less_uint32 x0_ x1_ h K) : Ca f_cmp_Less_uint32 #[x0_, x1_] h K := cv Tryz.func306 (by kernel_rfl) hh
def m_bits_Len64_j14 (x0_ x2_ : Value) (h : Heap) (K : Kt) : Prop :=
 CvP .u8 x0_ fun x15 =>
 IsP (.string { data := (List.toArray (List.append (List.append [0, 1, 2, 2, 3, 3, 3, 3, 4, 4, 4, 4, 4, 4, 4, 4, 5, 5, 5, 5, 5, 5, 5, 5, 5, 5, 5, 5, 5, 5, 5, 5, 6, 6, 6, 6, 6, 6, 6, 6, 6, 6, 6, 6, 6, 6, 6, 6, 6, 6, 6, 6, 6, 6, 6, 6, 6, 6, 6, 6, 6, 6, 6, 6] [7, 7, 7, 7, 7, 7, 7, 7, 7, 7, 7, 7, 7, 7, 7, 7, 7, 7, 7, 7, 7, 7, 7, 7, 7, 7, 7, 7, 7, 7, 7, 7, 7, 7, 7, 7, 7, 7, 7, 7, 7, 7, 7, 7, 7, 7, 7, 7, 7, 7, 7, 7, 7, 7, 7, 7, 7, 7, 7, 7, 7, 7, 7, 7]) (List.append [8, 8, 8, 8, 8, 8, 8, 8, 8, 8, 8, 8, 8, 8, 8, 8, 8, 8, 8, 8, 8, 8, 8, 8, 8, 8, 8, 8, 8, 8, 8, 8, 8, 8, 8, 8, 8, 8, 8, 8, 8, 8, 8, 8, 8, 8, 8, 8, 8, 8, 8, 8, 8, 8, 8, 8, 8, 8, 8, 8, 8, 8, 8, 8] [8, 8, 8, 8, 8, 8, 8, 8, 8, 8, 8, 8, 8, 8, 8, 8, 8, 8, 8, 8, 8, 8, 8, 8, 8, 8, 8, 8, 8, 8, 8, 8, 8, 8, 8, 8, 8, 8, 8, 8, 8, 8, 8, 8, 8, 8, 8, 8, 8, 8, 8, 8, 8, 8, 8, 8, 8, 8, 8, 8, 8, 8, 8, 8]))) }) x15 fun x16 =>
 CvP .i64 x16 fun x17 =>
 BiP .add x2_ x17 fun x18 =>
 K x18 h
def m_bits_Len64_j9 (x0_ x2_ : Value) (h : Heap) (K : Kt) : Prop :=
 BiP .geq x0_ (.int .u64 256) fun x11 =>
 CdP x11
 (BiP .shr x0_ (.int .u64 8) fun x12 =>
 BiP .add x2_ (.int .i64 8) fun x13 =>
 m_bits_Len64_j14 x12 x13 h K)
 (m_bits_Len64_j14 x0_ x2_ h K)
def m_bits_Len64_j4 (x0_ x2_ : Value) (h : Heap) (K : Kt) : Prop :=
 BiP .geq x0_ (.int .u64 65536) fun x6 =>
 CdP x6
 (BiP .shr x0_ (.int .u64 16) fun x7 =>
 BiP .add x2_ (.int .i64 16) fun x8 =>
 m_bits_Len64_j9 x7 x8 h K)
 (m_bits_Len64_j9 x0_ x2_ h K)
def m_bits_Len64 (x0_ : Value) (h : Heap) (K : Kt) : Prop :=
 BiP .geq x0_ (.int .u64 4294967296) fun x2 =>
 CdP x2
 (BiP .shr x0_ (.int .u64 32) fun x3 =>
 m_bits_Len64_j4 x3 (.int .i64 32) h K)
 (m_bits_Len64_j4 x0_ (.int .i64 0) h K)
theorem m_bits_Len64_ok {x0_ : Value} {h : Heap} {K : Kt} (hh : m_bits_Len64 x0_ h K) : Ca f_bits_Len64 #[x0_] h K := cv Tryz.func310 (by kernel_rfl) hh
def m_slices_IndexFunc_byte_j12 (h : Heap) (K : Kt) : Prop :=
 K (.int .i64 (-1)) h
def m_slices_IndexFunc_byte_l3 (vs : List Value) (x0_ x1_ x7_ : Value) (h : Heap) (nx4 : Nt) (K : Kt) : Prop :=
 BiP .lss (gv vs 1) x7_ fun x5 =>
 CdP x5
 (Ei 1 x0_ (gv vs 1) h fun x8 =>
 CvH Pg x1_ #[x8] h fun x10 h9 =>
 CdP x10
 (K (gv vs 1) h9)
 (BiP .add (gv vs 1) (.int .i64 1) fun x11 =>
 nx4 [(gv vs 0), x11] h9))
 (m_slices_IndexFunc_byte_j12 h K)
def m_slices_IndexFunc_byte (x0_ x1_ : Value) (h : Heap) (K : Kt) : Prop :=
 LenP (some true) x0_ fun x2 =>
 LoP (fun vt h nx4 => m_slices_IndexFunc_byte_l3 vt x0_ x1_ x2 h nx4 K) [(.int .i64 0), (.int .i64 0)] h
theorem m_slices_IndexFunc_byte_ok {x0_ x1_ : Value} {h : Heap} {K : Kt} (hh : m_slices_IndexFunc_byte x0_ x1_ h K) : Ca f_slices_IndexFunc_byte #[x0_, x1_] h K := cv Tryz.func312 (by kernel_rfl) hh
def m_slices_Clone_uint32 (x0_ : Value) (h : Heap) (K : Kt) : Prop :=
 EqP .eql t_S_uint32 (.tmp 3) (.const (.slice none 0 0)) x0_ (.slice none 0 0) h fun x2 h1 =>
 CdP x2
 (K (.slice none 0 0) h1)
 (BsP st_S_uint32 0 [] h1 fun x4 h3 =>
 VH Pg (Builtin.append_ #[t_S_uint32, t_S_uint32] t_S_uint32 #[x4, x0_]) h3 fun x6 h5 =>
 K x6 h5)
theorem m_slices_Clone_uint32_ok {x0_ : Value} {h : Heap} {K : Kt} (hh : m_slices_Clone_uint32 x0_ h K) : Ca f_slices_Clone_uint32 #[x0_] h K := cv Tryz.func327 (by kernel_rfl) hh
def m_slices_Clone_string (x0_ : Value) (h : Heap) (K : Kt) : Prop :=
 EqP .eql t_S_string (.tmp 3) (.const (.slice none 0 0)) x0_ (.slice none 0 0) h fun x2 h1 =>
 CdP x2
 (K (.slice none 0 0) h1)
 (BsP st_S_string 0 [] h1 fun x4 h3 =>
 VH Pg (Builtin.append_ #[t_S_string, t_S_string] t_S_string #[x4, x0_]) h3 fun x6 h5 =>
 K x6 h5)
theorem m_slices_Clone_string_ok {x0_ : Value} {h : Heap} {K : Kt} (hh : m_slices_Clone_string x0_ h K) : Ca f_slices_Clone_string #[x0_] h K := cv Tryz.func328 (by kernel_rfl) hh
def m_cmp_isNaN_uint32 (x0_ : Value) (h : Heap) (K : Kt) : Prop :=
 BiP .neq x0_ x0_ fun x1 =>
 K x1 h
theorem m_cmp_isNaN_uint32_ok {x0_ : Value} {h : Heap} {K : Kt} (hh : m_cmp_isNaN_uint32 x0_ h K) : Ca f_cmp_isNaN_uint32 #[x0_] h K := cv Tryz.func338 (by kernel_rfl) hh
end Go.Sg
namespace Go.Sg
open Go Vc
section
variable {α : Type} [El α] {t e : TypeId} {by' : Nat} {U : Nat → Prop} {h : Heap} {K : Kt} {x : Value} {l m : List α}
theorem clone_gen {xo yo : Operand} {zs : Array Value} (T : SlT α t e by') (hb : by' ≤ 64) (s : Sl U h x l) (hl : l.length ≤ 2 ^ 40)
    (r : ∀ v' h', Ow h.size e h' v' l → Ext h h' → K v' h') :
    EqP .eql t xo yo x (.slice none 0 0) h fun x2 h1 => CdP x2 (K (.slice none 0 0) h1)
      (BsP (some (zs, El.z α, e)) 0 [] h1 fun x4 h3 => VH Pg (Builtin.append_ #[t, t] t #[x4, x]) h3 fun x6 h5 => K x6 h5) := by
  obtain ⟨a, cap, rfl, k1, k2, k3⟩ := s.out
  refine eq_slice_nil T.und ?_
  refine cd (fun ha => ?_) (fun ha => ?_)
  · have : l = [] := by
      apply List.eq_nil_of_length_eq_zero
      have := k2 (by simpa using ha); omega
    subst this
    exact r _ _ (Ow.nil _ _ _) (Ex.refl _ _)
  · refine bs (n0 := h.size) (e := e) (cs := #[]) (zs := zs) ([] : List α) rfl (Nat.le_refl _) rfl (by simp) (by simp [Instr.fill]) rfl fun v1 h1 o1 e1 => ?_
    refine app T o1 (s.ext e1) (by exact e1.le) (by simpa using hl) hb fun v2 h2 o2 e2 _ => ?_
    exact r _ _ (by simpa using o2) (e1.own e2 (Nat.le_refl _))
end
section
variable {U : Nat → Prop} {h : Heap} {K : Kt} {x : Value}
theorem c_Clone_byte {l : List UInt8} (s : Sl U h x l) (hl : l.length ≤ 2 ^ 40) (r : ∀ v' h', Ow h.size t_uint8 h' v' l → Ext h h' → K v' h') : Ca f_slices_Clone_byte #[x] h K :=
  m_slices_Clone_byte_ok (clone_gen T_byte (by decide) s hl r)
theorem c_Clone_Pair {l : List Pair} (s : Sl U h x l) (hl : l.length ≤ 2 ^ 40) (r : ∀ v' h', Ow h.size t_api_Pair h' v' l → Ext h h' → K v' h') : Ca f_slices_Clone_api_Pair #[x] h K :=
  m_slices_Clone_api_Pair_ok (clone_gen T_Pair (by decide) s hl r)
theorem c_Clone_Msg {l : List Msg} (s : Sl U h x l) (hl : l.length ≤ 2 ^ 40) (r : ∀ v' h', Ow h.size t_api_Msg h' v' l → Ext h h' → K v' h') : Ca f_slices_Clone_api_Msg #[x] h K :=
  m_slices_Clone_api_Msg_ok (clone_gen T_Msg (by decide) s hl r)
theorem c_Clone_str {l : List Str} (s : Sl U h x l) (hl : l.length ≤ 2 ^ 40) (r : ∀ v' h', Ow h.size t_string h' v' l → Ext h h' → K v' h') : Ca f_slices_Clone_string #[x] h K :=
  m_slices_Clone_string_ok (clone_gen T_str (by decide) s hl r)
theorem c_Clone_u32 {l : List U32} (s : Sl U h x l) (hl : l.length ≤ 2 ^ 40) (r : ∀ v' h', Ow h.size t_uint32 h' v' l → Ext h h' → K v' h') : Ca f_slices_Clone_uint32 #[x] h K :=
  m_slices_Clone_uint32_ok (clone_gen T_u32 (by decide) s hl r)
end
end Go.Sg
namespace Go.Sg
open Go Vc Go.Proofs
noncomputable abbrev b_bytealg_abigen_runtime_cmpstring : Func := Tryz.f198
theorem b_bytealg_abigen_runtime_cmpstring_at : Pg.funcs[f_bytealg_abigen_runtime_cmpstring]? = some b_bytealg_abigen_runtime_cmpstring := Tryz.func198
noncomputable abbrev b_slices_overlaps_api_Pair : Func := Tryz.f251
theorem b_slices_overlaps_api_Pair_at : Pg.funcs[f_slices_overlaps_api_Pair]? = some b_slices_overlaps_api_Pair := Tryz.func251
noncomputable abbrev b_maps_Keys_map_1 : Func := Tryz.f269
theorem b_maps_Keys_map_1_at : Pg.funcs[f_maps_Keys_map_1]? = some b_maps_Keys_map_1 := Tryz.func269
theorem b_maps_Keys_map_1_nt : Func.ntmps b_maps_Keys_map_1 = 14 := Tryz.ntmps269
noncomputable abbrev b_slices_AppendSeq_uint32 : Func := Tryz.f298
theorem b_slices_AppendSeq_uint32_at : Pg.funcs[f_slices_AppendSeq_uint32]? = some b_slices_AppendSeq_uint32 := Tryz.func298
theorem b_slices_AppendSeq_uint32_nt : Func.ntmps b_slices_AppendSeq_uint32 = 13 := Tryz.ntmps298
end Go.Sg
