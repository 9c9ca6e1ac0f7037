/-
  Part 7 of a proof: own texts, merged by program.
-/
import Derived.Laws.BytesArg
import Derived.MapKept
import Derived.Maps.Keyed
import Derived.Test.YtfdephgpijheoaaGreatDoorP06
set_option linter.unusedVariables false
set_option linter.unusedSimpArgs false
namespace Go.Sg
open Go Vc
def bytesOf : Nat → Nat → List UInt8
  | 0, _ => []
  | w + 1, v => UInt8.ofNat (v / 256 ^ w) :: bytesOf w v
theorem bytesOf_length (w v : Nat) : (bytesOf w v).length = w := by induction w with
  | zero => rfl
  | succ w ih => simp [bytesOf, ih]
section
variable {h : Heap} {K : Kt} {U : Nat → Prop}
theorem c_word_Put {x : Value} {l : List UInt8} {w v : Nat} (s : Sl U h x l) (hw : w = 1 ∨ w = 2 ∨ w = 4 ∨ w = 8) (hv : v < 2 ^ 64) (hl : l.length ≤ 2 ^ 39) (r : ∀ y h', Ow h.size t_uint8 h' y (l ++ bytesOf w v) → Ext h h' → K y h') :
    Ca f_word_Put #[x, int w, .int .u64 v] h K := by
  refine m_word_Put_ok (c_Clone_byte s (by omega) fun y1 h1 o1 e1 => ?_)
  refine c_word_right ?_
  rw [decide_eq_true (by omega), UnP_not, Bool.not_true, CdP_false]
  refine sub64 (by omega) ?_
  refine lop (σ := Nat × Value × List UInt8) (fun p => [p.2.1, int ((p.1 : Int) - 1)]) (fun p h' => Ext h h' ∧ p.1 ≤ 8 ∧ Ow h.size t_uint8 h' p.2.1 p.2.2 ∧ p.2.2 ++ bytesOf p.1 v = l ++ bytesOf w v ∧ p.2.2.length + p.1 ≤ l.length + 8) (fun p => p.1) (w, y1, l) rfl ⟨e1, by show w ≤ 8; omega, o1, rfl, by show l.length + w ≤ l.length + 8; omega⟩ ?_
  rintro ⟨n, y, q⟩ h2 N ⟨e2, hn, o2, hq, hlen⟩ hN
  simp only at e2 hn o2 hq hlen
  simp only [m_word_Put_l8, gv_zero, gv_succ]
  rw [BiP_geq]
  refine cdp (fun hpos => ?_) (fun hz => ?_)
  · obtain ⟨i, rfl⟩ : ∃ i, n = i + 1 := ⟨n - 1, by omega⟩
    have hi : (((i + 1 : Nat) : Int) - 1) = (i : Int) := by omega
    rw [hi]
    refine mul64 (by omega) ?_
    have e3 : binVal .shr (.int .u64 (v : Int)) (int (8 * (i : Int))) = some (.int .u64 ((v / 256 ^ i : Nat) : Int)) := by
      have h1 : (2 : Int) ^ (min (8 * (i : Int)).toNat (IntKind.bits .u64)) = ((256 ^ i : Nat) : Int) := by
        have : min (8 * (i : Int)).toNat (IntKind.bits .u64) = 8 * i := by simp only [IntKind.bits]; omega
        rw [this, Int.pow_mul]
        norm_cast
      simp only [binVal]
      rw [if_neg (by omega), h1, Int.fdiv_eq_ediv_of_nonneg _ (Int.natCast_nonneg _)]
      norm_cast
    rw [BiP_some e3, CvP_int]
    have e4 : IntKind.wrap .u8 ((v / 256 ^ i : Nat) : Int) = ((UInt8.ofNat (v / 256 ^ i)).toNat : Int) := by
      simp only [IntKind.wrap, IntKind.signed, IntKind.bits, Bool.false_and, Bool.false_eq_true, if_false]
      rw [UInt8.toNat_ofNat']
      omega
    rw [e4]
    refine bs (n0 := h2.size) (e := t_uint8) [UInt8.ofNat (v / 256 ^ i)] rfl (Nat.le_refl _) rfl (by decide) (by kernel_rfl) rfl fun y3 h3 o3 e3 => ?_
    refine app T_byte (o2.ext e3) (o3.sl (U := No) fun _ _ h => h) (Nat.le_trans e2.le e3.le) (by simp; omega) (by decide) fun y4 h4 o4 e4 _ => ?_
    refine sub64 (by omega) ?_
    refine hN (i, y4, q ++ [UInt8.ofNat (v / 256 ^ i)]) h4 ⟨(e2.trans e3).own e4 (Nat.le_refl _), by omega, o4, ?_, by simp; omega⟩ (by omega)
    simp only
    rw [← hq, bytesOf]; simp
  · have : n = 0 := by omega
    subst this
    unfold m_word_Put_j20
    rw [bytesOf, List.append_nil] at hq
    rw [hq] at o2
    exact r _ _ o2 e2
end
section
variable {h : Heap} {K : Kt} {U : Nat → Prop} {x fv : Value}
def Tst {α : Type} (h0 : Heap) (fv : Value) (ev : α → Value) (p : α → Bool) : Prop := ∀ a h' (R : Kt), Ext h0 h' → (∀ h'', Ext h' h'' → R (.bool (p a)) h'') → CvH Pg fv #[ev a] h' R
theorem index_gen {α : Type} [El α] {E : Value → Value → Heap → (Value → Prop) → Prop} {ev : α → Value} {p : α → Bool} {l : List α}
    (he : ∀ h' (i : Int) a (R : Value → Prop), Sl U h' x l → 0 ≤ i → l[i.toNat]? = some a → R (ev a) → E x (int i) h' R) (hc : Tst h fv ev p)
    (s : Sl U h x l) (hl : l.length ≤ 2 ^ 40) (r : ∀ i h', Ext h h' → (0 ≤ i ↔ l.any p = true) → K (int i) h') :
    LenP (some true) x fun x2 => LoP (fun vs h nx4 => BiP .lss (gv vs 1) x2 fun x5 => CdP x5
      (E x (gv vs 1) h fun x8 => CvH Pg fv #[x8] h fun x10 h9 => CdP x10 (K (gv vs 1) h9)
        (BiP .add (gv vs 1) (.int .i64 1) fun x11 => nx4 [(gv vs 0), x11] h9)) (K (.int .i64 (-1)) h)) [(.int .i64 0), (.int .i64 0)] h := by
  refine s.len ?_
  refine lop (σ := Nat) (fun i => [int 0, int i]) (fun i h' => Ext h h' ∧ i ≤ l.length ∧ (l.take i).any p = false) (fun i => l.length - i) 0 rfl ⟨Ex.refl _ _, Nat.zero_le _, by simp⟩ ?_
  rintro i h1 N ⟨e1, hi, hn⟩ hN
  simp only [gv_zero, gv_succ]
  rw [BiP_lss]
  refine cdp (fun hlt => ?_) (fun hge => ?_)
  · have g1 : l[i]? = some l[i] := List.getElem?_eq_getElem (by omega)
    refine he _ _ l[i] _ (s.ext e1) (by omega) (by rw [Int.toNat_natCast]; exact g1) ?_
    refine hc _ _ _ e1 fun h2 e2 => ?_
    refine cd (fun hp => ?_) (fun hp => ?_)
    · exact r i h2 (e1.trans e2) ⟨fun _ => List.any_eq_true.2 ⟨l[i], List.getElem_mem _, hp⟩, fun _ => by omega⟩
    · refine add64 (by omega) ?_
      refine hN (i + 1) h2 ⟨e1.trans e2, by omega, ?_⟩ (by omega)
      rw [List.take_add_one, g1, List.any_append, hn]; simpa using hp
  · have : i = l.length := by omega
    subst this
    rw [List.take_length] at hn
    exact r (-1) h1 e1 ⟨fun h => by omega, fun h => by rw [hn] at h; cases h⟩
def byteV (b : UInt8) : Value := .int .u8 b.toNat
theorem c_ContainsFunc_byte {l : List UInt8} {p : UInt8 → Bool} (hc : Tst h fv byteV p) (s : Sl U h x l) (hl : l.length ≤ 2 ^ 40) (r : ∀ h', Ext h h' → K (.bool (l.any p)) h') : Ca f_slices_ContainsFunc_byte #[x, fv] h K :=
  m_slices_ContainsFunc_byte_ok (m_slices_IndexFunc_byte_ok (index_gen (K := fun x2 h1 => BiP .geq x2 (.int .i64 0) fun x3 => K x3 h1) (E := Ei 1) (ev := byteV) (p := p) (l := l) (fun h' i a R s h0 ha r => Sl.ei s h0 ha rfl r) hc s hl fun i h' e hi => by
    rw [BiP_geq]
    have : decide (0 ≤ i) = l.any p := by
      by_cases h0 : 0 ≤ i
      · rw [decide_eq_true h0, hi.1 h0]
      · rw [decide_eq_false h0]; cases hq : l.any p with
        | false => rfl
        | true => exact absurd (hi.2 hq) h0
    rw [this]; exact r h' e))
theorem tst_nonzero1 {h0 : Heap} : Tst h0 (.func (.func f_word_Reader_Zeros_1) #[] #[]) byteV (fun c => decide (c ≠ 0)) := by
  intro a h R _ r
  refine cvh (by kernel_rfl) (m_word_Reader_Zeros_1_ok ?_)
  unfold m_word_Reader_Zeros_1 byteV
  rw [BiP_neq]
  have r := r h (Ex.refl _ _)
  have : decide ((a.toNat : Int) ≠ 0) = decide (a ≠ 0) := by
    by_cases h0 : a = 0
    · subst h0; rfl
    · have : a.toNat ≠ 0 := fun e => h0 (UInt8.toNat_inj.1 (by simpa using e))
      simp [h0, this]
  rw [this]; exact r
theorem tst_nonzero2 {h0 : Heap} : Tst h0 (.func (.func f_word_Reader_Text_1) #[] #[]) byteV (fun c => decide (c ≠ 0)) := by
  intro a h R _ r
  refine cvh (by kernel_rfl) (m_word_Reader_Text_1_ok ?_)
  unfold m_word_Reader_Text_1 byteV
  rw [BiP_neq]
  have r := r h (Ex.refl _ _)
  have : decide ((a.toNat : Int) ≠ 0) = decide (a ≠ 0) := by
    by_cases h0 : a = 0
    · subst h0; rfl
    · have : a.toNat ≠ 0 := fun e => h0 (UInt8.toNat_inj.1 (by simpa using e))
      simp [h0, this]
  rw [this]; exact r
end
end Go.Sg
namespace Go.Sg
open Go Vc
section
variable {h : Heap} {K : Kt} {U : Nat → Prop} {x : Value} {rb : Nat} {l : List UInt8} {er : Int}
theorem cv_str (s : Sl U h x l) (r : K (str l) h) : VH Pg (convert t_S_uint8 t_string x) h K := by
  refine vh_pure (v := str l) (fun w hw => ?_) r
  subst hw
  obtain ⟨a, cap, rfl, ⟨rfl, rfl⟩ | ⟨b, o, rfl, hc⟩⟩ := s.cells
  · exact run_convert_bytes_nil w t_S_uint8 t_uint8 T_byte.und (by kernel_rfl) _ _ t_string (by kernel_rfl)
  · have := run_convert_bytes_arg (P := Pg) w t_S_uint8 t_uint8 T_byte.und (by kernel_rfl) b o l.length cap (l.map fun c => (c.toNat : Int)) (by simp) (fun i hi => by
      rw [cell_hget]
      have g := hc i (.int .u8 (l[i].toNat : Int)) (by
        have := cells_get (List.getElem?_eq_getElem hi) 0 (El.pos (α := UInt8))
        have hz : El.z UInt8 = 1 := rfl
        rw [hz, Nat.mul_one, Nat.add_zero] at this
        rw [this]; rfl)
      rw [g]
      simp [List.getD_eq_getElem?_getD, hi]) t_string (by kernel_rfl)
    rw [this]
    have e : strOfNums (l.map fun c => (c.toNat : Int)) = ⟨l.toArray⟩ := by
      unfold strOfNums
      rw [List.map_map]
      have : ((fun n : Int => UInt8.ofNat n.toNat) ∘ fun c : UInt8 => (c.toNat : Int)) = id := by
        funext c; simp
      rw [this, List.map_id]
    rw [e]; rfl
def spoilOf (l : List UInt8) (er n : Int) : List UInt8 × Int := ([], if er = 0 then n else er)
def zerosOf (l : List UInt8) (er : Int) (n : Nat) : List UInt8 × Int :=
  if (rawOf l er n).1.any (fun c => decide (c ≠ 0)) then spoilOf (rawOf l er n).2.1 (rawOf l er n).2.2 3 else ((rawOf l er n).2.1, (rawOf l er n).2.2)
theorem c_word_Zeros {n : Nat} (rd : Rd rb h l er) (hn : n ≤ 2 ^ 24) (r : ∀ h', Rd rb h' (zerosOf l er n).1 (zerosOf l er n).2 → Ex (only rb) h h' → K (.tuple #[]) h') : Ca f_word_Reader_Zeros #[ptr rb 0, int n] h K := by
  refine m_word_Reader_Zeros_ok (c_Raw rd hn fun v h1 o1 rd1 e1 => ?_)
  have hlen : (rawOf l er n).1.length ≤ n := by
    unfold rawOf; split
    · simp
    · split
      · simp; omega
      · simp
  unfold zerosOf at r
  refine c_ContainsFunc_byte tst_nonzero1 (o1.sl (U := No) fun _ _ h => h) (by omega) fun h2 e2 => ?_
  have rd2 := rd1.ext e2
  have e12 : Ex (only rb) h h2 := e1.trans e2.toM
  refine cd (fun hp => ?_) (fun hp => ?_)
  · rw [if_pos hp] at r
    exact c_word_spoil rd2 fun h3 rd3 e3 => r h3 rd3 (e12.trans e3)
  · rw [if_neg (by rw [hp]; simp)] at r
    exact r h2 rd2 e12
def textOf (l : List UInt8) (er : Int) (n m : Nat) : Str × List UInt8 × Int :=
  if m < n then ([], spoilOf l er 2)
  else if (rawOf l er m).1.length < m then ([], (rawOf l er m).2)
  else if ((rawOf l er m).1.drop n).any (fun c => decide (c ≠ 0)) then ([], spoilOf (rawOf l er m).2.1 (rawOf l er m).2.2 3)
  else ((rawOf l er m).1.take n, (rawOf l er m).2)
theorem c_word_Text {n m : Nat} (rd : Rd rb h l er) (hm : m ≤ 2 ^ 24) (hn : n < 2 ^ 62) (r : ∀ h', Rd rb h' (textOf l er n m).2.1 (textOf l er n m).2.2 → Ex (only rb) h h' → K (str (textOf l er n m).1) h') : Ca f_word_Reader_Text #[ptr rb 0, int n, int m] h K := by
  refine m_word_Reader_Text_ok (eq_ptr_nil (by kernel_rfl) ?_)
  show CdP (.bool false) _ _
  rw [CdP_false, BiP_lss]
  unfold textOf at r
  refine cdp (fun h => absurd h (by omega)) fun _ => ?_
  rw [BiP_gtr]
  unfold m_word_Reader_Text_j9
  refine cdp (fun hmn => ?_) (fun hmn => ?_)
  · rw [if_pos (by omega)] at r
    exact c_word_spoil rd fun h1 rd1 e1 => r h1 rd1 e1
  · rw [if_neg (by omega)] at r
    unfold m_word_Reader_Text_j12
    refine c_Raw rd hm fun v h1 o1 rd1 e1 => ?_
    have s1 : Sl No h1 v (rawOf l er m).1 := o1.sl fun _ _ h => h
    have hlen : (rawOf l er m).1.length ≤ m := by
      unfold rawOf; split
      · simp
      · split
        · simp; omega
        · simp
    refine s1.len ?_
    rw [BiP_lss]
    refine cdp (fun hlt => ?_) (fun hge => ?_)
    · rw [if_pos (by omega)] at r
      exact r h1 rd1 e1
    · rw [if_neg (by omega)] at r
      refine s1.part (a := n) (b := (rawOf l er m).1.length) bnd_nat rfl (by omega) (Nat.le_refl _) fun v2 s2 => ?_
      rw [List.take_length] at s2
      refine c_ContainsFunc_byte tst_nonzero2 s2 (by simp; omega) fun h2 e2 => ?_
      have rd2 := rd1.ext e2
      have e12 : Ex (only rb) h h2 := e1.trans e2.toM
      refine cd (fun hp => ?_) (fun hp => ?_)
      · rw [if_pos hp] at r
        exact c_word_spoil rd2 fun h3 rd3 e3 => r h3 rd3 (e12.trans e3)
      · rw [if_neg (by rw [hp]; simp)] at r
        refine s1.part (a := 0) (b := n) rfl bnd_nat (Nat.zero_le _) (by omega) fun v3 s3 => ?_
        rw [List.drop_zero] at s3
        exact cv_str (s3.ext e2) (r h2 rd2 e12)
end
end Go.Sg
namespace Go.Sg
open Go Vc
structure Config where
  blocks : Int
  bytes : Int
  frames : Int
  fan : Int
  buffer : Int
  leaf : Int
  key : Int
  val : Int
deriving DecidableEq
def Config.cs (c : Config) : List Value := [int c.blocks, int c.bytes, int c.frames, int c.fan, int c.buffer, int c.leaf, int c.key, int c.val]
def Config.v (c : Config) : Value := .agg c.cs.toArray
def Config.Sized (c : Config) : Prop := 8 ≤ c.fan ∧ c.fan ≤ 64 ∧ 2 * c.fan ≤ c.buffer ∧ c.buffer ≤ 512 ∧ c.buffer ≤ c.leaf ∧ c.leaf ≤ 1024 ∧ 1 ≤ c.key ∧ c.key ≤ 64 ∧ 0 ≤ c.val ∧ c.val ≤ 256
instance (c : Config) : Decidable c.Sized := by unfold Config.Sized; infer_instance
section
variable {h : Heap} {K : Kt} {c : Config}
theorem c_conf_sized (r : ∀ h', Ext h h' → K (.bool (decide c.Sized)) h') : Ca f_conf_sized #[c.v] h K := by
  refine m_conf_sized_ok (bxa (cs := c.cs) fun b h1 e1 hb k _ => ?_)
  have r := r h1 e1
  have no : ¬ c.Sized → m_conf_sized_j59 h1 K := fun hn => by rw [decide_eq_false hn] at r; exact r
  have L : ∀ {i : Nat} {v : Value} {R : Value → Prop}, c.cs[i]? = some v → R v → Fv i (ptr b 0) h1 R := fun hi hr => fv (by rw [k.get, Nat.zero_add]; exact hi) hr
  have two : ∀ {A B : Prop} {x : Prop} [Decidable x] (J : Value → Prop), (A → B) → True := fun _ _ => trivial
  refine L rfl ?_
  rw [BiP_lss]
  have j13 : ∀ (x : Bool), (x = true → ¬ c.Sized) → (x = false → 8 ≤ c.fan ∧ c.fan ≤ 64) → m_conf_sized_j13 (ptr b 0) (.bool x) h1 K := by
    intro x hx1 hx2
    unfold m_conf_sized_j13
    refine cd (fun h => no (hx1 h)) fun h => ?_
    obtain ⟨q1, q2⟩ := hx2 h
    refine L rfl (L rfl ?_)
    refine mul64 (by omega) ?_
    rw [BiP_lss]
    have j26 : ∀ (x : Bool), (x = true → ¬ c.Sized) → (x = false → 2 * c.fan ≤ c.buffer ∧ c.buffer ≤ 512) → m_conf_sized_j26 (ptr b 0) (.bool x) h1 K := by
      intro x hx1 hx2
      unfold m_conf_sized_j26
      refine cd (fun h => no (hx1 h)) fun h => ?_
      obtain ⟨q3, q4⟩ := hx2 h
      refine L rfl (L rfl ?_)
      rw [BiP_lss]
      have j38 : ∀ (x : Bool), (x = true → ¬ c.Sized) → (x = false → c.buffer ≤ c.leaf ∧ c.leaf ≤ 1024) → m_conf_sized_j38 (ptr b 0) (.bool x) h1 K := by
        intro x hx1 hx2
        unfold m_conf_sized_j38
        refine cd (fun h => no (hx1 h)) fun h => ?_
        obtain ⟨q5, q6⟩ := hx2 h
        refine L rfl ?_
        rw [BiP_lss]
        have j48 : ∀ (x : Bool), (x = true → ¬ c.Sized) → (x = false → 1 ≤ c.key ∧ c.key ≤ 64) → m_conf_sized_j48 (ptr b 0) (.bool x) h1 K := by
          intro x hx1 hx2
          unfold m_conf_sized_j48
          refine cd (fun h => no (hx1 h)) fun h => ?_
          obtain ⟨q7, q8⟩ := hx2 h
          refine L rfl ?_
          rw [BiP_lss]
          have j58 : ∀ (x : Bool), (x = true → ¬ c.Sized) → (x = false → c.Sized) → m_conf_sized_j58 (.bool x) h1 K := by
            intro x hx1 hx2
            unfold m_conf_sized_j58
            refine cd (fun h => no (hx1 h)) fun h => ?_
            rw [decide_eq_true (hx2 h)] at r; exact r
          refine cdp (fun h => j58 true (fun _ s => by unfold Config.Sized at s; omega) (fun h => by cases h)) fun h => L rfl ?_
          rw [BiP_gtr]
          exact j58 _ (fun h s => by have := of_decide_eq_true h; unfold Config.Sized at s; omega) (fun h => by have := of_decide_eq_false h; unfold Config.Sized; omega)
        refine cdp (fun h => j48 true (fun _ s => by unfold Config.Sized at s; omega) (fun h => by cases h)) fun h => L rfl ?_
        rw [BiP_gtr]
        exact j48 _ (fun h s => by have := of_decide_eq_true h; unfold Config.Sized at s; omega) (fun h => by have := of_decide_eq_false h; omega)
      refine cdp (fun h => j38 true (fun _ s => by unfold Config.Sized at s; omega) (fun h => by cases h)) fun h => L rfl ?_
      rw [BiP_gtr]
      exact j38 _ (fun h s => by have := of_decide_eq_true h; unfold Config.Sized at s; omega) (fun h => by have := of_decide_eq_false h; omega)
    refine cdp (fun h => j26 true (fun _ s => by unfold Config.Sized at s; omega) (fun h => by cases h)) fun h => L rfl ?_
    rw [BiP_gtr]
    exact j26 _ (fun h s => by have := of_decide_eq_true h; unfold Config.Sized at s; omega) (fun h => by have := of_decide_eq_false h; omega)
  refine cdp (fun h => j13 true (fun _ s => by unfold Config.Sized at s; omega) (fun h => by cases h)) fun h => L rfl ?_
  rw [BiP_gtr]
  exact j13 _ (fun h s => by have := of_decide_eq_true h; unfold Config.Sized at s; omega) (fun h => by have := of_decide_eq_false h; omega)
def Config.inner (c : Config) : Int := if c.Sized then 8 + 4 * c.fan + (c.fan - 1) * (1 + c.key) + c.buffer * (4 + c.key + c.val) else 0
def Config.outer (c : Config) : Int := if c.Sized then 8 + c.leaf * (3 + c.key + c.val) else 0
def Config.move (c : Config) : Int := if c.Sized then (c.buffer + 2 * c.fan - 1) / (2 * c.fan) else 0
theorem mul_bd {a b m n : Int} (ha : 0 ≤ a ∧ a ≤ m) (hb : 0 ≤ b ∧ b ≤ n) : 0 ≤ a * b ∧ a * b ≤ m * n :=
  ⟨Int.mul_nonneg ha.1 hb.1, Int.mul_le_mul ha.2 hb.2 hb.1 (by omega)⟩
theorem c_conf_Inner (r : ∀ h', Ext h h' → K (int c.inner) h') : Ca f_conf_Inner #[c.v] h K := by
  refine m_conf_Inner_ok (bxa (cs := c.cs) fun b h1 e1 hb k _ => ?_)
  refine (LdA_b k rfl).2 (c_conf_sized (c := c) fun h2 e2 => ?_)
  have k2 := k.ext e2
  have r := r h2 (e1.trans e2)
  have L : ∀ {i : Nat} {v : Value} {R : Value → Prop}, c.cs[i]? = some v → R v → Fv i (ptr b 0) h2 R := fun hi hr => fv (by rw [k2.get, Nat.zero_add]; exact hi) hr
  unfold Config.inner at r
  rw [UnP_not]
  refine cd (fun hs => ?_) (fun hs => ?_)
  · rw [if_neg (by simpa using hs)] at r; exact r
  · have hs : c.Sized := by simpa using hs
    rw [if_pos hs] at r
    unfold Config.Sized at hs
    have m1 := mul_bd (a := c.fan - 1) (b := 1 + c.key) (m := 63) (n := 65) (by omega) (by omega)
    have m2 := mul_bd (a := c.buffer) (b := 4 + c.key + c.val) (m := 512) (n := 324) (by omega) (by omega)
    refine L rfl (mul64 (by omega) (add64 (by omega) (L rfl (sub64 (by omega) (L rfl (add64 (by omega) (mul64 (by omega) (add64 (by omega) ?_))))))))
    refine L rfl (L rfl (add64 (by omega) (L rfl (add64 (by omega) (mul64 (by omega) (add64 (by omega) ?_))))))
    exact r
theorem c_conf_Outer (r : ∀ h', Ext h h' → K (int c.outer) h') : Ca f_conf_Outer #[c.v] h K := by
  refine m_conf_Outer_ok (bxa (cs := c.cs) fun b h1 e1 hb k _ => ?_)
  refine (LdA_b k rfl).2 (c_conf_sized (c := c) fun h2 e2 => ?_)
  have k2 := k.ext e2
  have r := r h2 (e1.trans e2)
  have L : ∀ {i : Nat} {v : Value} {R : Value → Prop}, c.cs[i]? = some v → R v → Fv i (ptr b 0) h2 R := fun hi hr => fv (by rw [k2.get, Nat.zero_add]; exact hi) hr
  unfold Config.outer at r
  rw [UnP_not]
  refine cd (fun hs => ?_) (fun hs => ?_)
  · rw [if_neg (by simpa using hs)] at r; exact r
  · have hs : c.Sized := by simpa using hs
    rw [if_pos hs] at r
    unfold Config.Sized at hs
    have m1 := mul_bd (a := c.leaf) (b := 3 + c.key + c.val) (m := 1024) (n := 323) (by omega) (by omega)
    exact L rfl (L rfl (add64 (by omega) (L rfl (add64 (by omega) (mul64 (by omega) (add64 (by omega) r))))))
end
end Go.Sg
namespace Go.Sg
open Go Vc
section
variable {h : Heap} {K : Value → Prop} {X : XS} {b : Nat} {cs : List Value}
theorem LaX_b {n : Nat} (k : Blk h b cs) (hn : cs.length = n) (hX : ∀ o, X b o) (r : K (.agg cs.toArray)) : LaX X n (ptr b 0) h K :=
  ⟨b, 0, cs, rfl, hn, fun j v e => ⟨hX _, by rw [k.get]; simpa using e⟩, r⟩
theorem LdX_b {o : Nat} {v : Value} (k : Blk h b cs) (hv : cs[o]? = some v) (hX : ∀ o, X b o) (r : K v) : LdX X (ptr b o) h K :=
  ⟨b, o, v, rfl, hX _, by rw [k.get]; exact hv, r⟩
theorem agr_b {M : Nat → Prop} {h' : Heap} (e : Ex M h h') (hb : b < h.size) (hm : ¬ M b) : Agr (fun b' _ => b' = b) h h' := by
  rintro x o rfl
  exact hget_eq (e.eq _ hb hm) o
end
section
variable {h : Heap} {K : Kt} {c : Config} {ts : Array TypeId} {t : TypeId}
theorem max_int3 {k} {a b d : Int} (r : K (.int k (max (max a b) d)) h) : VH Pg (Builtin.max_ ts t #[.int k a, .int k b, .int k d]) h K := by
  refine vh_pure (fun w _ => ?_) r
  have e1 : (if b > a then b else a) = max a b := by omega
  have e2 : (if d > max a b then d else max a b) = max (max a b) d := by omega
  simp [Builtin.max_, Builtin.max2, e1, e2]
def Config.leastBytes (c : Config) : Int := max (max 64 c.inner) c.outer
def Config.least (c : Config) : Config := if c.Sized then { c with bytes := c.leastBytes } else c
theorem c_conf_Least (r : ∀ h', Ext h h' → K c.least.v h') : Ca f_conf_Least #[c.v] h K := by
  refine m_conf_Least_ok (bxa (cs := c.cs) fun b h1 e1 hb k _ => ?_)
  refine ala fun b2 h2 e2 hb2 k2 _ => ?_
  have k := k.ext e2
  have e12 := e1.trans e2
  refine (LdA_b k rfl).2 (c_conf_sized (c := c) fun h3 e3 => ?_)
  have k := k.ext e3
  have k2 := k2.ext e3
  have e13 := e12.trans e3
  have fin : ∀ (h5 : Heap) (d : Config), d = c.least → Blk h5 b d.cs → (∃ z, Blk h5 b2 z ∧ z.length = 8) → Ext h h5 → m_conf_Least_j20 (ptr b 0) (ptr b2 0) h5 K := by
    intro h5 d hd kd ⟨z, kz, hz⟩ e5
    unfold m_conf_Least_j20
    refine (LdA_b kd rfl).2 ?_
    refine StA_b (vs := d.cs) kz hz rfl rfl fun h6 _ e6 k6 => ?_
    refine (LdA_b k6 rfl).2 ?_
    subst hd
    exact r h6 (e5.andThen e6 fun x hx => by have := e1.le; omega)
  refine cdp (fun hs => ?_) (fun hs => ?_)
  · refine ⟨fun b' _ => b' = b, ?_⟩
    refine LaX_b k rfl (fun _ => rfl) (LaX_b k rfl (fun _ => rfl) ?_)
    refine c_conf_Inner (c := c) fun h4 e4 => ⟨agr_b e4 k.lt (fun x => x), ?_⟩
    refine c_conf_Outer (c := c) fun h5 e5 => ⟨trivial, ?_⟩
    refine max_int3 ⟨trivial, ?_⟩
    rw [FaP_ptr]
    have e35 := e4.trans e5
    refine StP_b (k.ext e35) (by simp [Config.cs]) rfl fun h6 _ e6 k6 => ⟨trivial, ?_⟩
    refine fin h6 { c with bytes := c.leastBytes } (by unfold Config.least; rw [if_pos hs]) k6 ⟨_, (k2.ext e35).ex e6 (by omega), rfl⟩ ((e13.trans e35).andThen e6 fun x hx => by omega)
  · exact fin h3 c (by unfold Config.least; rw [if_neg hs]) k ⟨_, k2, rfl⟩ e13
def Config.Right (c : Config) : Prop := c.Sized ∧ 5 ≤ c.blocks ∧ c.blocks ≤ 65536 ∧ 8 ≤ c.frames ∧ c.frames ≤ 64 ∧ c.bytes ≤ 65536 ∧ c.leastBytes ≤ c.bytes
instance (c : Config) : Decidable c.Right := by unfold Config.Right; infer_instance
theorem c_conf_Check (r : ∀ h', Ext h h' → K (int (if c.Right then 0 else 2)) h') : Ca f_conf_Check #[c.v] h K := by
  refine m_conf_Check_ok (bxa (cs := c.cs) fun b h1 e1 hb k _ => ?_)
  refine (LdA_b k rfl).2 (c_conf_sized (c := c) fun h2 e2 => ?_)
  have k := k.ext e2
  have e12 := e1.trans e2
  have no : ∀ h', Ext h h' → ¬ c.Right → m_conf_Check_j53 (.bool true) h' K := fun h' e hn => by
    have r := r h' e; rw [if_neg hn] at r; exact r
  have L : ∀ {i : Nat} {v : Value} {R : Value → Prop}, c.cs[i]? = some v → R v → Fv i (ptr b 0) h2 R := fun hi hr => fv (by rw [k.get, Nat.zero_add]; exact hi) hr
  have j33 : ∀ (x : Bool), (x = false → ¬ c.Right) → (x = true → c.Sized ∧ 5 ≤ c.blocks ∧ c.blocks ≤ 65536 ∧ 8 ≤ c.frames ∧ c.frames ≤ 64) → m_conf_Check_j33 (ptr b 0) (.bool x) h2 K := by
    intro x hx1 hx2
    unfold m_conf_Check_j33
    refine ⟨fun b' _ => b' = b, ?_⟩
    rw [UnP_not]
    refine cd (fun hx => no _ e12 (hx1 (by simpa using hx))) fun hx => ?_
    have hq := hx2 (by simpa using hx)
    rw [FaP_ptr]
    refine LdX_b k rfl (fun _ => rfl) ?_
    rw [BiP_gtr]
    refine cdp (fun hb => no _ e12 fun s => by have := s.2.2.2.2.2.1; omega) fun hb => ?_
    rw [FaP_ptr]
    refine LdX_b k rfl (fun _ => rfl) (LaX_b k rfl (fun _ => rfl) ?_)
    refine c_conf_Least (c := c) fun h3 e3 => ⟨agr_b e3 k.lt (fun x => x), ?_⟩
    refine ⟨c.least.cs.toArray, int c.least.bytes, rfl, rfl, ?_⟩
    show BiP .lss (int c.bytes) (int c.least.bytes) _
    rw [BiP_lss]
    have hlb : c.least.bytes = c.leastBytes := by unfold Config.least; rw [if_pos hq.1]
    rw [hlb]
    unfold m_conf_Check_j53
    have r := r h3 (e12.trans e3)
    refine cdp (fun hlt => ?_) (fun hge => ?_)
    · have hr : ¬ c.Right := fun s => by have := s.2.2.2.2.2.2; omega
      rw [if_neg hr] at r; exact r
    · have hr : c.Right := ⟨hq.1, hq.2.1, hq.2.2.1, hq.2.2.2.1, hq.2.2.2.2, by omega, by omega⟩
      rw [if_pos hr] at r; exact r
  refine cdp (fun hs => ?_) (fun hs => j33 false (fun _ s => hs s.1) (fun h => by cases h))
  refine L rfl ?_
  rw [BiP_geq]
  refine cdp (fun h1 => ?_) (fun h1 => j33 false (fun _ s => h1 s.2.1) (fun h => by cases h))
  refine L rfl ?_
  rw [BiP_leq]
  refine cdp (fun h2 => ?_) (fun h2 => j33 false (fun _ s => h2 s.2.2.1) (fun h => by cases h))
  refine L rfl ?_
  rw [BiP_geq]
  refine cdp (fun h3 => ?_) (fun h3 => j33 false (fun _ s => h3 s.2.2.2.1) (fun h => by cases h))
  refine L rfl ?_
  rw [BiP_leq]
  exact j33 _ (fun h s => by have := of_decide_eq_false h; exact this s.2.2.2.2.1) (fun h => ⟨hs, h1, h2, h3, of_decide_eq_true h⟩)
end
end Go.Sg
namespace Go.Sg
open Go Vc
structure Node where
  level : Int
  kids : List U32
  pivots : List Str
  buf : List Msg
  pairs : List Pair
deriving DecidableEq
section
variable {h : Heap} {K : Kt} {c : Config}
def keyOk (c : Config) (k : Str) : Bool := decide (1 ≤ k.length) && decide ((k.length : Int) ≤ c.key)
theorem c_node_Key {k : Str} (r : ∀ h', Ext h h' → K (.bool (keyOk c k)) h') : Ca f_node_Key #[c.v, str k] h K := by
  refine m_node_Key_ok (bxa (cs := c.cs) fun b h1 e1 hb k1 _ => ?_)
  have r := r h1 e1
  unfold keyOk at r
  rw [LenP_str, BiP_geq]
  refine cdp (fun h1 => ?_) (fun h1 => ?_)
  · rw [LenP_str]
    refine fv (by rw [k1.get]; rfl) ?_
    rw [BiP_leq]
    rw [decide_eq_true (by omega : 1 ≤ k.length), Bool.true_and] at r
    exact r
  · rw [decide_eq_false (by omega : ¬ 1 ≤ k.length), Bool.false_and] at r
    exact r
structure Nd (U : Nat → Prop) (h : Heap) (v : Value) (n : Node) : Prop where
  out : ∃ k p b l, v = .agg #[int n.level, k, p, b, l] ∧ Sl U h k n.kids ∧ Sl U h p n.pivots ∧ Sl U h b n.buf ∧ Sl U h l n.pairs
theorem Nd.keep {U M : Nat → Prop} {h h' : Heap} {v : Value} {n : Node} (d : Nd U h v n) (e : Ex M h h') (hm : ∀ b, M b → U b) : Nd U h' v n := by
  obtain ⟨k, p, b, l, h0, h1, h2, h3, h4⟩ := d.out
  exact ⟨k, p, b, l, h0, h1.keep e hm, h2.keep e hm, h3.keep e hm, h4.keep e hm⟩
theorem Nd.ext {U : Nat → Prop} {h h' : Heap} {v : Value} {n : Node} (d : Nd U h v n) (e : Ext h h') : Nd U h' v n := d.keep e fun _ x => x.elim
end
end Go.Sg
namespace Go.Sg
open Go Vc
theorem cvhc {f : FuncId} {args cap : Array Value} {h : Heap} {K : Kt} (hb : hasBody Pg f = true) (r : Ca f (args ++ cap) h K) : CvH Pg (.func (.func f) #[] cap) args h K := ⟨f, cap, rfl, hb, r⟩
section
variable {h : Heap} {K : Kt} {U : Nat → Prop} {x fv : Value}
theorem ge_any {i : Int} {b : Bool} (hi : 0 ≤ i ↔ b = true) : decide (0 ≤ i) = b := by
  by_cases h0 : 0 ≤ i
  · rw [decide_eq_true h0, hi.1 h0]
  · rw [decide_eq_false h0]; cases hq : b with
    | false => rfl
    | true => exact absurd (hi.2 hq) h0
theorem c_ContainsFunc_Pair {l : List Pair} {p : Pair → Bool} (hc : Tst h fv Pair.v p) (s : Sl U h x l) (hl : l.length ≤ 2 ^ 40) (r : ∀ h', Ext h h' → K (.bool (l.any p)) h') : Ca f_slices_ContainsFunc_api_Pair #[x, fv] h K :=
  m_slices_ContainsFunc_api_Pair_ok (m_slices_IndexFunc_api_Pair_ok (index_gen (K := fun x2 h1 => BiP .geq x2 (.int .i64 0) fun x3 => K x3 h1) (E := Ea 2) (ev := Pair.v) (p := p) (l := l) (fun h' i a R s h0 ha r => Sl.ea s h0 ha r) hc s hl fun i h' e hi => by
    rw [BiP_geq, ge_any hi]; exact r h' e))
def badPair (c : Config) (s : Span) (p : Pair) : Bool := !keyOk c p.key || !inSpan s p.key || decide ((p.val.length : Int) > c.val)
theorem tst_pair {c : Config} {s : Span} {b1 b2 : Nat} (k1 : Blk h b1 c.cs) (k2 : Blk h b2 s.cs) : Tst h (.func (.func f_node_outer_1) #[] #[ptr b1 0, ptr b2 0]) Pair.v (badPair c s) := by
  intro p h0 R e0 r
  refine cvhc (by kernel_rfl) ?_
  show Ca f_node_outer_1 #[p.v, ptr b1 0, ptr b2 0] h0 R
  refine m_node_outer_1_ok (bxa (cs := [str p.key, str p.val]) fun b h1 e1 hb k _ => ?_)
  have e01 := e0.trans e1
  refine (LdA_b (k1.ext e01) rfl).2 ?_
  refine fv (by rw [k.get]; rfl) ?_
  refine c_node_Key (c := c) fun h2 e2 => ?_
  have e02 := e01.trans e2
  rw [UnP_not]
  unfold badPair at r
  refine cd (fun h => ?_) (fun h => ?_)
  · have r := r h2 (e1.trans e2)
    rw [h] at r; exact r
  · have hk : keyOk c p.key = true := by simpa using h
    refine (LdA_b (k2.ext e02) rfl).2 ?_
    refine fv (by rw [(k.ext e2).get]; rfl) ?_
    refine c_lex_In (s := s) fun h3 e3 => ?_
    have e03 := e02.trans e3
    have e13 := (e1.trans e2).trans e3
    rw [UnP_not]
    refine cd (fun h => ?_) (fun h => ?_)
    · have r := r h3 e13
      rw [hk, h] at r; exact r
    · refine fv (by rw [((k.ext e2).ext e3).get]; rfl) ?_
      rw [LenP_str]
      refine fv (by rw [(k1.ext e03).get]; rfl) ?_
      rw [BiP_gtr]
      have r := r h3 e13
      rw [hk, h] at r
      unfold m_node_outer_1_j27
      simpa using r
def outerOk (c : Config) (s : Span) (n : Node) : Bool :=
  decide (n.kids.length + n.pivots.length + n.buf.length = 0) && decide ((n.pairs.length : Int) ≤ c.leaf) && rises Pair.key n.pairs && !n.pairs.any (badPair c s)
def Node.fits (n : Node) : Prop := n.kids.length ≤ 2 ^ 38 ∧ n.pivots.length ≤ 2 ^ 38 ∧ n.buf.length ≤ 2 ^ 38 ∧ n.pairs.length ≤ 2 ^ 38
theorem c_node_outer {c : Config} {s : Span} {n : Node} {v : Value} (d : Nd U h v n) (hf : n.fits) (r : ∀ h', Ext h h' → K (.bool (outerOk c s n)) h') : Ca f_node_outer #[c.v, s.v, v] h K := by
  obtain ⟨vk, vp, vb, vl, rfl, q1, q2, q3, q4⟩ := d.out
  obtain ⟨f1, f2, f3, f4⟩ := hf
  refine m_node_outer_ok (bxa (cs := c.cs) fun b1 h1 e1 hb1 k1 s1 => bxa (cs := s.cs) fun b2 h2 e2 hb2 k2 s2 => bxa (cs := [int n.level, vk, vp, vb, vl]) fun b3 h3 e3 hb3 k3 s3 => ?_)
  have e13 := (e1.trans e2).trans e3
  have k1 := (k1.ext e2).ext e3
  have k2 := k2.ext e3
  have L : ∀ {i : Nat} {v : Value} {R : Value → Prop}, [int n.level, vk, vp, vb, vl][i]? = some v → R v → Fv i (ptr b3 0) h3 R := fun hi hr => fv (by rw [k3.get, Nat.zero_add]; exact hi) hr
  unfold outerOk at r
  refine L rfl (q1.len (L rfl (q2.len (add64 (by omega) (L rfl (q3.len (add64 (by omega) ?_)))))))
  have no : ∀ h', Ext h h' → (decide (n.kids.length + n.pivots.length + n.buf.length = 0) && decide ((n.pairs.length : Int) ≤ c.leaf) && rises Pair.key n.pairs) = false → m_node_outer_j37 (ptr b1 0) (ptr b2 0) (ptr b3 0) (.bool true) h' K := by
    intro h' e hn
    have r := r h' e
    rw [hn] at r; exact r
  rw [BiP_gtr]
  refine cdp (fun h0 => ?_) (fun h0 => ?_)
  · exact no _ e13 (by rw [decide_eq_false (by omega)]; rfl)
  · refine L rfl (q4.len (fv (by rw [k1.get]; rfl) ?_))
    rw [BiP_gtr]
    have t1 : decide (n.kids.length + n.pivots.length + n.buf.length = 0) = true := decide_eq_true (by omega)
    refine cdp (fun h1 => ?_) (fun h1 => ?_)
    · exact no _ e13 (by rw [t1, decide_eq_false (by omega)]; rfl)
    · have t2 : decide ((n.pairs.length : Int) ≤ c.leaf) = true := decide_eq_true (by omega)
      refine L rfl (c_leaf_Right (q4.ext e13) (by omega) fun h4 e4 => ?_)
      have e14 := e13.trans e4
      rw [UnP_not]
      cases hr : rises Pair.key n.pairs with
      | false => exact no _ e14 (by rw [t1, t2, hr]; rfl)
      | true =>
        unfold m_node_outer_j37
        rw [Bool.not_true, CdP_false]
        unfold m_node_outer_j38
        refine fv (by rw [(k3.ext e4).get]; rfl) ?_
        refine c_ContainsFunc_Pair (tst_pair (k1.ext e4) (k2.ext e4)) (q4.ext e14) (by omega) fun h5 e5 => ?_
        rw [UnP_not]
        have r := r h5 (e14.trans e5)
        rw [t1, t2, hr] at r
        simpa using r
end
end Go.Sg
namespace Go.Sg
open Go Vc
structure Cl where
  v : Value
  one : v.oneCell' = true
instance : El Cl := ⟨1, fun s => [s.v], fun _ => rfl, by decide, fun a v h => by simp at h; subst h; exact a.one⟩
end Go.Sg
namespace Go.Sg
open Go Vc
theorem Sl.one {α : Type} [El α] {U h v} {l : List α} (s : Sl U h v l) : v.oneCell' = true := by
  obtain ⟨a, cap, rfl, _⟩ := s.out; rfl
end Go.Sg
namespace Go.Sg
open Go Vc
section
variable {h : Heap} {K : Kt} {U : Nat → Prop} {x : Value}
theorem sumMore_lt (s : Nat) (l : List UInt8) : sumMore s l < 4294967296 := by
  have := sum_fold_lt l (s % 65536 % 65521, s / 65536 % 65521) (Nat.mod_lt _ (by decide)) (Nat.mod_lt _ (by decide))
  unfold sumMore
  simp only
  omega
theorem c_check_Sum {a : Cl} {l : List UInt8} (s : Sl U h x [a]) (sa : Sl U h a.v l) (hl : l.length ≤ 2 ^ 40) (r : K (.int .u32 (sumMore 1 l)) h) : Ca f_check_Sum #[x] h K := by
  refine m_check_Sum_ok (s.len ?_)
  let tot : Nat → Nat := fun i => match i with | 0 => 1 | _ => sumMore 1 l
  refine lop (σ := Nat) (fun i => [.int .u32 (tot i), int i]) (fun i h' => h' = h ∧ i ≤ 1) (fun i => 1 - i) 0 rfl ⟨rfl, by omega⟩ ?_
  rintro i h1 N ⟨rfl, hi⟩ hN
  simp only [m_check_Sum_l3, gv_zero, gv_succ]
  have hlen : ([a] : List Cl).length = 1 := rfl
  rw [BiP_lss]
  refine cdp (fun hlt => ?_) (fun hge => ?_)
  · have h0 : i = 0 := by rw [hlen] at hlt; omega
    subst h0
    refine s.ei (x := a) (by omega) rfl rfl ?_
    refine c_check_More (s := 1) sa (by decide) hl ?_
    refine add64 (by omega) ?_
    exact hN 1 h1 ⟨rfl, by omega⟩ (by omega)
  · have h1' : i = 1 := by rw [hlen] at hge; omega
    subst h1'
    exact r
end
end Go.Sg
namespace Go.Sg
open Go Vc
structure No' (n0 : Nat) (h : Heap) (v : Value) (n : Node) : Prop where
  out : ∃ k p b l, v = .agg #[int n.level, k, p, b, l] ∧ Ow n0 t_uint32 h k n.kids ∧ Ow n0 t_string h p n.pivots ∧ Ow n0 t_api_Msg h b n.buf ∧ Ow n0 t_api_Pair h l n.pairs
section
variable {h : Heap} {K : Kt} {U : Nat → Prop} {v : Value}
theorem Ow.one {α : Type} [El α] {n0 e h v} {l : List α} (o : Ow n0 e h v l) : v.oneCell' = true := by
  rcases o with ⟨rfl, _⟩ | ⟨g, cap, cur, rfl, _⟩ <;> rfl
theorem Ow.form {α : Type} [El α] {n0 e h v} {l : List α} (o : Ow n0 e h v l) : ∃ a m c, v = .slice a m c := by
  rcases o with ⟨rfl, _⟩ | ⟨g, cap, cur, rfl, _⟩ <;> exact ⟨_, _, _, rfl⟩
theorem c_node_Clone {n : Node} (d : Nd U h v n) (hf : n.fits) (r : ∀ y h', No' h.size h' y n → Ext h h' → K y h') : Ca f_node_Clone #[v] h K := by
  obtain ⟨vk, vp, vb, vl, rfl, q1, q2, q3, q4⟩ := d.out
  obtain ⟨f1, f2, f3, f4⟩ := hf
  refine m_node_Clone_ok (bxa (cs := [int n.level, vk, vp, vb, vl]) fun b h1 e1 hb k1 _ => ala fun b2 h2 e2 hb2 k2 _ => ?_)
  have k1 := k1.ext e2
  have e12 := e1.trans e2
  refine ⟨fun b' _ => b' = b, ?_⟩
  simp only [FaP_ptr]
  refine LdX_b k1 rfl (fun _ => rfl) (LdX_b k1 rfl (fun _ => rfl) (LdX_b k1 rfl (fun _ => rfl) (LdX_b k1 rfl (fun _ => rfl) (LdX_b k1 rfl (fun _ => rfl) ?_))))
  refine c_Clone_u32 (q1.ext e12) (by omega) fun v3 h3 o3 e3 => ⟨agr_b e3 k1.lt (fun x => x), ?_⟩
  refine c_Clone_str (q2.ext (e12.trans e3)) (by omega) fun v4 h4 o4 e4 => ⟨agr_b (e3.trans e4) k1.lt (fun x => x), ?_⟩
  refine c_Clone_Msg (q3.ext ((e12.trans e3).trans e4)) (by omega) fun v5 h5 o5 e5 => ⟨agr_b ((e3.trans e4).trans e5) k1.lt (fun x => x), ?_⟩
  refine c_Clone_Pair (q4.ext (((e12.trans e3).trans e4).trans e5)) (by omega) fun v6 h6 o6 e6 => ⟨agr_b (((e3.trans e4).trans e5).trans e6) k1.lt (fun x => x), ?_⟩
  have e26 := ((e3.trans e4).trans e5).trans e6
  refine ⟨_, #[int n.level, v3, v4, v5, v6], rfl, ?_, ?_⟩
  · obtain ⟨a3, m3, c3, rfl⟩ := o3.form
    obtain ⟨a4, m4, c4, rfl⟩ := o4.form
    obtain ⟨a5, m5, c5, rfl⟩ := o5.form
    obtain ⟨a6, m6, c6, rfl⟩ := o6.form
    rfl
  · refine StA_b (vs := [int n.level, v3, v4, v5, v6]) (k2.ext e26) rfl rfl (by simp [one_eq, o3.one, o4.one, o5.one, o6.one]; rfl) fun h7 _ e7 k7 => ?_
    refine ⟨trivial, (LdA_b k7 rfl).2 ?_⟩
    have low : ∀ x, x = b2 → ¬ x < h.size := fun x hx => by have := e1.le; omega
    refine r _ h7 ⟨v3, v4, v5, v6, rfl, ?_, ?_, ?_, ?_⟩ ((e12.trans e26).andThen e7 fun x hx => by have := e1.le; omega)
    · exact ((((o3.ext e4).ext e5).ext e6).ex e7 fun x hx _ he => by have := k2.lt; omega).low e12.le
    · exact (((o4.ext e5).ext e6).ex e7 fun x hx _ he => by have := k2.lt; have := e3.le; omega).low (e12.trans e3).le
    · exact ((o5.ext e6).ex e7 fun x hx _ he => by have := k2.lt; have := (e3.trans e4).le; omega).low ((e12.trans e3).trans e4).le
    · exact (o6.ex e7 fun x hx _ he => by have := k2.lt; have := ((e3.trans e4).trans e5).le; omega).low (((e12.trans e3).trans e4).trans e5).le
end
end Go.Sg
namespace Go.Sg
def Lk (be ah : Nat → Nat) : List Nat → Prop
  | x :: y :: t => be x = y ∧ ah y = x ∧ Lk be ah (y :: t)
  | _ => True
theorem lk_split {be ah : Nat → Nat} {x : Nat} {r : List Nat} : ∀ (l : List Nat), Lk be ah (l ++ x :: r) ↔ Lk be ah (l ++ [x]) ∧ Lk be ah (x :: r)
  | [] => by simp [Lk]
  | [a] => by simp [Lk, and_assoc]
  | a :: b :: l => by
    have := lk_split (x := x) (r := r) (be := be) (ah := ah) (b :: l)
    simp only [List.cons_append] at this ⊢
    simp only [Lk, this, and_assoc]
theorem lk_congr {be ah be' ah' : Nat → Nat} : ∀ (l : List Nat), (∀ x ∈ l.dropLast, be' x = be x) → (∀ x ∈ l.tail, ah' x = ah x) → Lk be ah l → Lk be' ah' l
  | [], _, _, _ => trivial
  | [_], _, _, _ => trivial
  | a :: b :: l, h1, h2, h => by
    refine ⟨(h1 a (by simp)).trans h.1, (h2 b (by simp)).trans h.2.1, lk_congr (b :: l) (fun x hx => h1 x ?_) (fun x hx => h2 x ?_) h.2.2⟩
    · rw [List.dropLast_cons_of_ne_nil (by simp)]; exact List.mem_cons_of_mem _ hx
    · simp at hx ⊢; exact .inr hx
def upd {β : Type} (f : Nat → β) (i : Nat) (v : β) : Nat → β := fun j => if j = i then v else f j
theorem upd_same {β : Type} {f : Nat → β} {i : Nat} {v : β} : upd f i v i = v := by simp [upd]
theorem upd_ne {β : Type} {f : Nat → β} {i j : Nat} {v : β} (h : j ≠ i) : upd f i v j = f j := by simp [upd, h]
structure Ring (n : Nat) (be ah : Nat → Nat) (inn : Nat → Bool) (R : List Nat) : Prop where
  nd : R.Nodup
  lt : ∀ i ∈ R, i < n
  lk : Lk be ah (n :: R ++ [n])
  is : ∀ i, i ≤ n → (inn i = true ↔ i ∈ R)
theorem ring_new {n : Nat} {be ah : Nat → Nat} {inn : Nat → Bool} (h1 : be n = n) (h2 : ah n = n) (h3 : ∀ i, inn i = false) : Ring n be ah inn [] :=
  ⟨List.nodup_nil, by simp, ⟨h1, h2, trivial⟩, fun i _ => by simp [h3]⟩
theorem snoc_of (l : List Nat) (x : Nat) : ∃ P a, x :: l = P ++ [a] := ⟨(x :: l).dropLast, (x :: l).getLast (by simp), (List.dropLast_concat_getLast (by simp)).symm⟩
theorem cons_of (l : List Nat) (x : Nat) : ∃ b Q, l ++ [x] = b :: Q := by
  cases l with
  | nil => exact ⟨x, [], rfl⟩
  | cons b l => exact ⟨b, l ++ [x], rfl⟩
theorem ring_out {n : Nat} {be ah : Nat → Nat} {inn : Nat → Bool} {R : List Nat} {i : Nat} (F : Ring n be ah inn R) (hi : i ∈ R) :
    ah i ≤ n ∧ be i ≤ n ∧ ah i ≠ i ∧ be i ≠ i ∧ Ring n (upd (upd be (ah i) (be i)) i 0) (upd (upd ah (be i) (ah i)) i 0) (upd inn i false) (R.erase i) := by
  obtain ⟨p, q, rfl⟩ := List.append_of_mem hi
  obtain ⟨nd, lt, lk, is⟩ := F
  obtain ⟨P, a, hP⟩ := snoc_of p n
  obtain ⟨b, Q, hQ⟩ := cons_of q n
  rw [List.nodup_append, List.nodup_cons] at nd
  obtain ⟨nd1, ⟨nd2, nd3⟩, nd4⟩ := nd
  have hip : i ∉ p := fun h => nd4 i h i (by simp) rfl
  have hin : i ≠ n := by have := lt i (by simp); omega
  have hnp : n ∉ p := fun h => by have := lt n (by simp [h]); omega
  have hnq : n ∉ q := fun h => by have := lt n (by simp [h]); omega
  have hT : n :: (p ++ i :: q) ++ [n] = P ++ a :: i :: b :: Q := by
    have : n :: (p ++ i :: q) ++ [n] = (n :: p) ++ i :: (q ++ [n]) := by simp
    rw [this, hP, hQ]; simp
  rw [hT, lk_split] at lk
  obtain ⟨l1, l2, l3, l4, l5, l6⟩ := lk
  have hai : ah i = a := l3
  have hbi : be i = b := l4
  have ham : a ∈ n :: p := by rw [hP]; simp
  have hbm : b ∈ q ++ [n] := by rw [hQ]; simp
  have hndP : (P ++ [a]).Nodup := by rw [← hP]; exact List.nodup_cons.2 ⟨hnp, nd1⟩
  have hndQ : (b :: Q).Nodup := by
    rw [← hQ, List.nodup_append]
    exact ⟨nd3, by simp, fun x hx y hy => by simp at hy; subst hy; rintro rfl; exact hnq hx⟩
  have han : a ≤ n := by
    rcases List.mem_cons.1 ham with h | h
    · omega
    · have := lt a (by simp [h]); omega
  have hbn : b ≤ n := by
    rcases List.mem_append.1 hbm with h | h
    · have := lt b (by simp [h]); omega
    · simp at h; omega
  have hane : a ≠ i := fun h => by
    subst h
    rcases List.mem_cons.1 ham with h | h
    · exact hin h
    · exact hip h
  have hbne : b ≠ i := fun h => by
    subst h
    rcases List.mem_append.1 hbm with h | h
    · exact nd2 h
    · simp at h; exact hin h
  rw [hai, hbi]
  have her : (p ++ i :: q).erase i = p ++ q := by rw [List.erase_append_right _ hip]; simp
  rw [her]
  refine ⟨han, hbn, hane, hbne, ⟨?_, fun x hx => lt x (by simp only [List.mem_append, List.mem_cons] at hx ⊢; exact hx.elim Or.inl fun h => Or.inr (Or.inr h)), ?_, fun j hj => ?_⟩⟩
  · rw [List.nodup_append]
    exact ⟨nd1, nd3, fun x hx y hy => nd4 x hx y (by simp [hy])⟩
  · have hT' : n :: (p ++ q) ++ [n] = P ++ a :: b :: Q := by
      have : n :: (p ++ q) ++ [n] = (n :: p) ++ (q ++ [n]) := by simp
      rw [this, hP, hQ]; simp
    rw [hT', lk_split]
    refine ⟨lk_congr _ (fun x hx => ?_) (fun x hx => ?_) l1, ?_, ?_, lk_congr _ (fun x hx => ?_) (fun x hx => ?_) l6⟩
    · rw [List.dropLast_concat] at hx
      have hxa : x ≠ a := by
        rw [List.nodup_append] at hndP
        exact hndP.2.2 x hx a (by simp)
      have hxi : x ≠ i := fun h => by
        subst h
        have : x ∈ n :: p := by rw [hP]; simp [hx]
        rcases List.mem_cons.1 this with h | h
        · exact hin h
        · exact hip h
      rw [upd_ne hxi, upd_ne hxa]
    · rw [← hP] at hx
      simp only [List.tail_cons] at hx
      have hxi : x ≠ i := fun h => by subst h; exact hip hx
      have hxb : x ≠ b := fun h => by
        subst h
        rcases List.mem_append.1 hbm with h | h
        · exact nd4 x hx x (by simp [h]) rfl
        · simp at h; subst h; exact hnp hx
      rw [upd_ne hxi, upd_ne hxb]
    · rw [upd_ne hane, upd_same]
    · rw [upd_ne hbne, upd_same]
    · rw [← hQ, List.dropLast_concat] at hx
      have hxi : x ≠ i := fun h => by subst h; exact nd2 hx
      have hxa : x ≠ a := fun h => by
        subst h
        rcases List.mem_cons.1 ham with h | h
        · subst h; exact hnq hx
        · exact nd4 x h x (by simp [hx]) rfl
      rw [upd_ne hxi, upd_ne hxa]
    · simp only [List.tail_cons] at hx
      have hxb : x ≠ b := fun h => by subst h; exact (List.nodup_cons.1 hndQ).1 hx
      have hxi : x ≠ i := fun h => by
        subst h
        have : x ∈ q ++ [n] := by rw [hQ]; simp [hx]
        rcases List.mem_append.1 this with h | h
        · exact nd2 h
        · simp at h; exact hin h
      rw [upd_ne hxi, upd_ne hxb]
  · by_cases hji : j = i
    · subst hji
      rw [upd_same]
      simp [hip, nd2]
    · rw [upd_ne hji, is j hj]
      simp [hji]
theorem ring_put {n : Nat} {be ah : Nat → Nat} {inn : Nat → Bool} {R : List Nat} {i : Nat} (F : Ring n be ah inn R) (hi : i ∉ R) (hn : i < n) :
    be n ≤ n ∧ be n ≠ i ∧ Ring n (upd (upd be i (be n)) n i) (upd (upd ah i n) (be n) i) (upd inn i true) (i :: R) := by
  obtain ⟨nd, lt, lk, is⟩ := F
  obtain ⟨b, Q, hQ⟩ := cons_of R n
  have hnR : n ∉ R := fun h => by have := lt n h; omega
  have hT : n :: R ++ [n] = n :: b :: Q := by rw [List.cons_append, hQ]
  rw [hT] at lk
  obtain ⟨l1, l2, l3⟩ := lk
  have hbm : b ∈ R ++ [n] := by rw [hQ]; simp
  have hbn : b ≤ n := by
    rcases List.mem_append.1 hbm with h | h
    · have := lt b h; omega
    · simp at h; omega
  have hbi : b ≠ i := fun h => by
    subst h
    rcases List.mem_append.1 hbm with h | h
    · exact hi h
    · simp at h; omega
  have hndQ : (b :: Q).Nodup := by
    rw [← hQ, List.nodup_append]
    exact ⟨nd, by simp, fun x hx y hy => by simp at hy; subst hy; rintro rfl; exact hnR hx⟩
  rw [l1]
  refine ⟨hbn, hbi, ⟨List.nodup_cons.2 ⟨hi, nd⟩, fun x hx => ?_, ?_, fun j hj => ?_⟩⟩
  · rcases List.mem_cons.1 hx with rfl | h
    · exact hn
    · exact lt x h
  · have hT' : n :: (i :: R) ++ [n] = n :: i :: b :: Q := by simp only [List.cons_append, hQ]
    rw [hT']
    refine ⟨upd_same, ?_, ?_, ?_, lk_congr _ (fun x hx => ?_) (fun x hx => ?_) l3⟩
    · rw [upd_ne (Ne.symm hbi), upd_same]
    · rw [upd_ne (by omega), upd_same]
    · rw [upd_same]
    · rw [← hQ, List.dropLast_concat] at hx
      have hxn : x ≠ n := fun h => by subst h; exact hnR hx
      have hxi : x ≠ i := fun h => by subst h; exact hi hx
      rw [upd_ne hxn, upd_ne hxi]
    · simp only [List.tail_cons] at hx
      have hxb : x ≠ b := fun h => by subst h; exact (List.nodup_cons.1 hndQ).1 hx
      have hxi : x ≠ i := fun h => by
        subst h
        have : x ∈ R ++ [n] := by rw [hQ]; simp [hx]
        rcases List.mem_append.1 this with h | h
        · exact hi h
        · simp at h; omega
      rw [upd_ne hxb, upd_ne hxi]
  · by_cases hji : j = i
    · subst hji; simp [upd_same]
    · rw [upd_ne hji, is j hj]; simp [hji]
theorem ring_last {n : Nat} {be ah : Nat → Nat} {inn : Nat → Bool} {R : List Nat} (F : Ring n be ah inn R) : ∃ P, n :: R = P ++ [ah n] := by
  obtain ⟨P, a, hP⟩ := snoc_of R n
  refine ⟨P, ?_⟩
  have lk := F.lk
  have hT : n :: R ++ [n] = P ++ a :: [n] := by rw [hP]; simp
  rw [hT, lk_split] at lk
  rw [lk.2.2.1, hP]
end Go.Sg
namespace Go.Sg
open Go Vc
section
variable {β : Type} {ev : β → Value}
def Mp (ev : β → Value) (h : Array Obj) (b : Nat) (m : List (Nat × β)) : Prop :=
  ∃ es clock, h[b]? = some (.map es clock) ∧ es.toList.map (fun e => (e.key, e.val)) = m.map (fun p => (.int .u32 (p.1 : Int), ev p.2)) ∧ (es.toList.map (·.born)).Nodup ∧ (∀ e ∈ es.toList, e.born < clock) ∧ (m.map Prod.fst).Nodup
theorem Mp.lt {h : Array Obj} {b} {m : List (Nat × β)} (k : Mp ev h b m) : b < h.size := by
  obtain ⟨es, c, h1, _⟩ := k; exact (Array.getElem?_eq_some_iff.1 h1).1
theorem Mp.nodup {h : Array Obj} {b} {m : List (Nat × β)} (k : Mp ev h b m) : (m.map Prod.fst).Nodup := by
  obtain ⟨es, c, h1, h2, h3, h4, h5⟩ := k; exact h5
def mput (m : List (Nat × β)) (k : Nat) (v : β) : List (Nat × β) := if (m.lookup k).isSome then m.map (fun p => if p.1 = k then (k, v) else p) else m ++ [(k, v)]
def mdel (m : List (Nat × β)) (k : Nat) : List (Nat × β) := m.filter fun p => p.1 != k
theorem lookup_none_iff {m : List (Nat × β)} {k : Nat} : m.lookup k = none ↔ k ∉ m.map Prod.fst := by
  induction m with
  | nil => simp
  | cons p m ih =>
    obtain ⟨a, b⟩ := p
    rw [List.lookup_cons]
    by_cases hk : k = a
    · subst hk; simp
    · have : (k == a) = false := by simpa using hk
      rw [this]; simp only [List.map_cons, List.mem_cons, not_or]
      rw [ih]; simp [hk]
theorem findNow_eq {k : Nat} : ∀ (l : List MapEntry) (m : List (Nat × β)) (i : Nat), l.map (fun e => (e.key, e.val)) = m.map (fun p => (.int .u32 (p.1 : Int), ev p.2)) →
    Instr.findNow (.int .u32) (.int .u32 (k : Int)) l i = some ((m.lookup k).map fun v => (i + m.findIdx (fun p => p.1 = k), ev v))
  | [], [], i, _ => rfl
  | [], _ :: _, i, h => by simp at h
  | _ :: _, [], i, h => by simp at h
  | e :: l, p :: m, i, h => by
    obtain ⟨a, v⟩ := p
    simp only [List.map_cons, List.cons.injEq, Prod.mk.injEq] at h
    obtain ⟨⟨h1, h2⟩, h3⟩ := h
    rw [Instr.findNow, h1, List.lookup_cons, List.findIdx_cons]
    by_cases hk : k = a
    · subst hk
      simp [Instr.sameNow, h2]
    · have hk1 : (k == a) = false := by simpa using hk
      have hk2 : ((k : Int) == (a : Int)) = false := by rw [beq_eq_false_iff_ne]; omega
      have hk3 : decide ((a, v).1 = k) = false := by simpa using fun e => hk e.symm
      simp only [Instr.sameNow, if_true, hk1, hk2, hk3, cond_false]
      rw [findNow_eq l m (i + 1) h3]
      cases m.lookup k <;> simp
      omega
theorem entry_get {l : List MapEntry} {m : List (Nat × β)} (h : l.map (fun e => (e.key, e.val)) = m.map (fun p => (.int .u32 (p.1 : Int), ev p.2))) (i : Nat) : (l[i]?).map (fun e => (e.key, e.val)) = (m[i]?).map (fun p => (.int .u32 (p.1 : Int), ev p.2)) := by
  have := congrArg (·[i]?) h
  simpa using this
variable {P : Program} {t kt et ty : TypeId} {h : Array Obj} {K : Value → Array Obj → Prop} {R : Array Obj → Prop} {b : Nat} {m : List (Nat × β)} {k : Nat}
theorem isKeyU (n : Int) : MapKept.IsKey (.int .u32) (.int .u32 n) := by simp [MapKept.IsKey]
theorem vc_lookup (c : Bool) {z : Value} (ht : P.underlying t = some (.map kt et)) (hk : P.underlying kt = some (.int .u32)) (hz : (P.info? et).bind (·.zero) = some z) (o : Mp ev h b m)
    (r : K (if c then .tuple #[((m.lookup k).map ev).getD z, .bool (m.lookup k).isSome] else ((m.lookup k).map ev).getD z) h) : VH P (Instr.lookup t (.map (some b)) (.int .u32 (k : Int)) c) h K := by
  intro w hw
  subst hw
  obtain ⟨es, clock, h1, h2, h3, h4, h5⟩ := o
  have hf := findNow_eq (ev := ev) (k := k) es.toList m 0 h2
  refine ⟨_, w, ?_, Kin.refl _, r⟩
  have hzz : (zeroValue et).run P w = .ok z w := by
    cases hi : P.info? et with
    | none => rw [hi] at hz; cases hz
    | some i =>
      rw [hi] at hz
      simp only [Option.bind_some] at hz
      simp [zeroValue, typeInfo, hi, hz, Result.andThen]
  cases hl : m.lookup k with
  | none =>
    rw [hl] at hf
    simp only [Option.map_none] at hf
    simp [Instr.lookup, run_underlying ht, MapKept.run_getObj_map h1, MapKept.run_checkKey hk (isKeyU _), MapKept.run_findKey hk hf, hzz, Result.andThen]
  | some v =>
    rw [hl] at hf
    simp only [Option.map_some] at hf
    simp [Instr.lookup, run_underlying ht, MapKept.run_getObj_map h1, MapKept.run_checkKey hk (isKeyU _), MapKept.run_findKey hk hf, Result.andThen]
theorem setObj_ex {h : Array Obj} {b : Nat} {o : Obj} : (h.setIfInBounds b o).size = h.size ∧ ∀ c, c ≠ b → (h.setIfInBounds b o)[c]? = h[c]? := by
  refine ⟨by simp, fun c hc => by simp [Ne.symm hc]⟩
theorem setObj_at {h : Array Obj} {b : Nat} {o : Obj} (hb : b < h.size) : (h.setIfInBounds b o)[b]? = some o := by simp [hb]
theorem eraseIdx_map' {α γ : Type} (f : α → γ) : ∀ (l : List α) (i : Nat), (l.eraseIdx i).map f = (l.map f).eraseIdx i
  | [], i => by simp
  | a :: l, 0 => rfl
  | a :: l, i + 1 => by simp [eraseIdx_map' f l i]
theorem findIdx_at {m : List (Nat × β)} {k : Nat} {v : β} (hl : m.lookup k = some v) : m[m.findIdx (fun p => p.1 = k)]? = some (k, v) := by
  induction m with
  | nil => simp at hl
  | cons p m ih =>
    obtain ⟨a, c⟩ := p
    rw [List.lookup_cons] at hl
    rw [List.findIdx_cons]
    by_cases hk : k = a
    · subst hk; simp at hl; subst hl; simp
    · have hk1 : (k == a) = false := by simpa using hk
      have hk3 : decide ((a, c).1 = k) = false := by simpa using fun e => hk e.symm
      rw [hk1] at hl
      rw [hk3]; simpa using ih hl
theorem mput_modify {m : List (Nat × β)} {k : Nat} {v : β} (hn : (m.map Prod.fst).Nodup) (hl : (m.lookup k).isSome = true) : mput m k v = m.modify (m.findIdx (fun p => p.1 = k)) (fun _ => (k, v)) := by
  unfold mput
  rw [if_pos hl]
  induction m with
  | nil => simp at hl
  | cons p m ih =>
    obtain ⟨a, c⟩ := p
    rw [List.map_cons, List.findIdx_cons]
    simp only [List.map_cons, List.nodup_cons] at hn
    by_cases hk : a = k
    · subst hk
      simp only [if_true, decide_true, cond_true, List.modify_zero_cons, List.cons.injEq, true_and]
      conv => rhs; rw [← List.map_id m]
      apply List.map_congr_left
      intro q hq
      rw [if_neg]; rfl
      intro e; exact hn.1 (by rw [← e]; exact List.mem_map_of_mem hq)
    · have hk3 : decide ((a, c).1 = k) = false := by simpa using hk
      have hk1 : (k == a) = false := by simpa using fun e => hk e.symm
      rw [List.lookup_cons, hk1] at hl
      rw [hk3, if_neg (by simpa using hk)]
      simp only [cond_false, List.modify_succ_cons, List.cons.injEq, true_and]
      exact ih hn.2 hl
theorem mput_keys {m : List (Nat × β)} {k : Nat} {v : β} : ((mput m k v).map Prod.fst) = if k ∈ m.map Prod.fst then m.map Prod.fst else m.map Prod.fst ++ [k] := by
  unfold mput
  by_cases hl : (m.lookup k).isSome = true
  · rw [if_pos hl]
    have hm : k ∈ m.map Prod.fst := by
      refine Classical.byContradiction fun hc => ?_
      rw [lookup_none_iff.2 hc] at hl; cases hl
    rw [if_pos hm, List.map_map]
    apply List.map_congr_left
    intro p hp
    by_cases he : p.1 = k
    · simp [he]
    · simp [he]
  · rw [if_neg hl]
    have hm : k ∉ m.map Prod.fst := lookup_none_iff.1 (by cases hq : m.lookup k with
      | none => rfl
      | some _ => rw [hq] at hl; simp at hl)
    rw [if_neg hm]; simp
theorem vc_mapUpdate {v : β} (ht : P.underlying t = some (.map kt et)) (hk : P.underlying kt = some (.int .u32)) (o : Mp ev h b m)
    (r : ∀ h', Mp ev h' b (mput m k v) → h'.size = h.size → (∀ c, c ≠ b → h'[c]? = h[c]?) → R h') : UH P (Instr.mapUpdate t (.map (some b)) (.int .u32 (k : Int)) (ev v)) h R := by
  intro w hw
  subst hw
  obtain ⟨es, clock, h1, h2, h3, h4, h5⟩ := o
  have hlt : b < w.heap.size := (Array.getElem?_eq_some_iff.1 h1).1
  have hf := findNow_eq (ev := ev) (k := k) es.toList m 0 h2
  have hnd : ((mput m k v).map Prod.fst).Nodup := by
    rw [mput_keys]
    split
    · exact h5
    · rename_i hm
      rw [List.nodup_append]
      refine ⟨h5, by simp, fun a ha c hc => ?_⟩
      simp at hc; subst hc; rintro rfl; exact hm ha
  cases hl : m.lookup k with
  | none =>
    rw [hl] at hf
    simp only [Option.map_none] at hf
    refine ⟨{ w with heap := w.heap.setIfInBounds b (.map (es.push ⟨.int .u32 (k : Int), ev v, clock⟩) (clock + 1)) }, ?_, ⟨rfl, rfl, rfl⟩, r _ ?_ setObj_ex.1 setObj_ex.2⟩
    · simp [Instr.mapUpdate, run_underlying ht, MapKept.run_getObj_map h1, MapKept.run_checkKey hk (isKeyU _), MapKept.run_findKey hk hf, MapKept.run_setObj_map _ h1, Result.andThen]
    · refine ⟨_, _, setObj_at hlt, ?_, ?_, ?_, hnd⟩
      · unfold mput; rw [hl]; simp [h2]
      · simp only [Array.toList_push, List.map_append, List.map_cons, List.map_nil]
        rw [List.nodup_append]
        refine ⟨h3, by simp, fun a ha c hc => ?_⟩
        simp at hc; subst hc
        obtain ⟨e, he, rfl⟩ := List.mem_map.1 ha
        have := h4 e he; omega
      · intro e he
        simp only [Array.toList_push, List.mem_append, List.mem_singleton] at he
        rcases he with he | rfl
        · have := h4 e he; omega
        · simp
  | some u =>
    rw [hl] at hf
    simp only [Option.map_some, Nat.zero_add] at hf
    have hat := findIdx_at hl
    generalize hj : m.findIdx (fun p => p.1 = k) = j at hf hat
    have hej := entry_get h2 j
    rw [hat] at hej
    cases he : es.toList[j]? with
    | none => rw [he] at hej; cases hej
    | some e =>
      rw [he] at hej
      simp only [Option.map_some, Option.some.injEq, Prod.mk.injEq] at hej
      have hea : es[j]? = some e := by simpa using he
      have hjl : j < es.size := (Array.getElem?_eq_some_iff.1 hea).1
      refine ⟨{ w with heap := w.heap.setIfInBounds b (.map (es.modify j fun e => { e with key := .int .u32 (k : Int), val := ev v }) clock) }, ?_, ⟨rfl, rfl, rfl⟩, r _ ?_ setObj_ex.1 setObj_ex.2⟩
      · simp [Instr.mapUpdate, run_underlying ht, MapKept.run_getObj_map h1, MapKept.run_checkKey hk (isKeyU _), MapKept.run_findKey hk hf, hea, hej.1, MapKept.run_keyThatStays (isKeyU (k : Int)), MapKept.run_setObj_map _ h1, Result.andThen]
      · have hb : (es.modify j fun e => { e with key := .int .u32 (k : Int), val := ev v }).toList.map (·.born) = es.toList.map (·.born) := by
          apply List.ext_getElem?
          intro i
          simp only [List.getElem?_map, Array.getElem?_toList, Array.getElem?_modify]
          split
          · cases es[i]? <;> simp
          · rfl
        refine ⟨_, _, setObj_at hlt, ?_, by rw [hb]; exact h3, ?_, hnd⟩
        · rw [mput_modify h5 (by rw [hl]; rfl), hj]
          apply List.ext_getElem?
          intro i
          have hi := entry_get h2 i
          simp only [List.getElem?_map, Array.getElem?_toList, Array.getElem?_modify, List.getElem?_modify] at hi ⊢
          by_cases hij : j = i
          · subst hij
            simp [hea, hat]
          · simp only [if_neg hij]
            rw [hi]; simp [hij]
        · intro e' he'
          have : e'.born ∈ (es.modify j fun e => { e with key := .int .u32 (k : Int), val := ev v }).toList.map (·.born) := List.mem_map_of_mem he'
          rw [hb] at this
          obtain ⟨e2, h6, h7⟩ := List.mem_map.1 this
          rw [← h7]; exact h4 e2 h6
theorem mdel_erase {m : List (Nat × β)} {k : Nat} (hn : (m.map Prod.fst).Nodup) (hl : (m.lookup k).isSome = true) : mdel m k = m.eraseIdx (m.findIdx (fun p => p.1 = k)) := by
  unfold mdel
  induction m with
  | nil => simp at hl
  | cons p m ih =>
    obtain ⟨a, c⟩ := p
    rw [List.filter_cons, List.findIdx_cons]
    simp only [List.map_cons, List.nodup_cons] at hn
    by_cases hk : a = k
    · subst hk
      simp only [bne_self_eq_false, Bool.false_eq_true, if_false, decide_true, cond_true, List.eraseIdx_zero, List.tail_cons]
      rw [List.filter_eq_self]
      intro q hq
      simp only [bne_iff_ne, ne_eq]
      intro e; exact hn.1 (by rw [← e]; exact List.mem_map_of_mem hq)
    · have hk3 : decide ((a, c).1 = k) = false := by simpa using hk
      have hk1 : (k == a) = false := by simpa using fun e => hk e.symm
      rw [List.lookup_cons, hk1] at hl
      rw [hk3, if_pos (by simpa using hk)]
      simp only [cond_false, List.eraseIdx_cons_succ, List.cons.injEq, true_and]
      exact ih hn.2 hl
theorem vc_delete {ks : TypeId} (ht : P.underlying t = some (.map kt et)) (hk : P.underlying kt = some (.int .u32)) (o : Mp ev h b m)
    (r : ∀ h', Mp ev h' b (mdel m k) → h'.size = h.size → (∀ c, c ≠ b → h'[c]? = h[c]?) → K (.tuple #[]) h') : VH P (Builtin.delete_ #[t, ks] ty #[.map (some b), .int .u32 (k : Int)]) h K := by
  intro w hw
  subst hw
  obtain ⟨es, clock, h1, h2, h3, h4, h5⟩ := o
  have hlt : b < w.heap.size := (Array.getElem?_eq_some_iff.1 h1).1
  have hf := findNow_eq (ev := ev) (k := k) es.toList m 0 h2
  have hnd : ((mdel m k).map Prod.fst).Nodup := by
    unfold mdel; exact (List.filter_sublist.map _).nodup h5
  cases hl : m.lookup k with
  | none =>
    rw [hl] at hf
    simp only [Option.map_none] at hf
    refine ⟨.tuple #[], { w with heap := w.heap.setIfInBounds b (.map es clock) }, ?_, ⟨rfl, rfl, rfl⟩, r _ ?_ setObj_ex.1 setObj_ex.2⟩
    · simp [Builtin.delete_, run_underlying ht, MapKept.run_getObj_map h1, MapKept.run_checkKey hk (isKeyU _), MapKept.run_findKey hk hf, MapKept.run_setObj_map _ h1, Result.andThen]
    · have hm : mdel m k = m := by
        unfold mdel
        rw [List.filter_eq_self]
        intro q hq
        simp only [bne_iff_ne, ne_eq]
        intro e; exact lookup_none_iff.1 hl (by rw [← e]; exact List.mem_map_of_mem hq)
      rw [hm]
      exact ⟨_, _, setObj_at hlt, h2, h3, h4, h5⟩
  | some u =>
    rw [hl] at hf
    simp only [Option.map_some, Nat.zero_add] at hf
    have hat := findIdx_at hl
    have hmd := mdel_erase (k := k) h5 (by rw [hl]; rfl)
    generalize hj : m.findIdx (fun p => p.1 = k) = j at hf hat hmd
    have hej := entry_get h2 j
    rw [hat] at hej
    have hjl : j < es.size := by
      cases he : es.toList[j]? with
      | none => rw [he] at hej; cases hej
      | some e => simpa using (List.getElem?_eq_some_iff.1 he).1
    have hsub : (es.eraseIdxIfInBounds j).toList = es.toList.eraseIdx j := by
      unfold Array.eraseIdxIfInBounds
      rw [dif_pos hjl]
      simp
    refine ⟨.tuple #[], { w with heap := w.heap.setIfInBounds b (.map (es.eraseIdxIfInBounds j) clock) }, ?_, ⟨rfl, rfl, rfl⟩, r _ ?_ setObj_ex.1 setObj_ex.2⟩
    · simp [Builtin.delete_, run_underlying ht, MapKept.run_getObj_map h1, MapKept.run_checkKey hk (isKeyU _), MapKept.run_findKey hk hf, MapKept.run_setObj_map _ h1, Result.andThen]
    · refine ⟨_, _, setObj_at hlt, ?_, ?_, ?_, hnd⟩
      · rw [hsub, hmd, eraseIdx_map', eraseIdx_map', h2]
      · rw [hsub, eraseIdx_map']; exact (List.eraseIdx_sublist _ _).nodup h3
      · intro e he; rw [hsub] at he; exact h4 e ((List.eraseIdx_sublist _ _).subset he)
theorem vc_makeMap (r : ∀ b h', b = h.size → Mp ev h' b [] → h'.size = h.size + 1 → (∀ c, c < h.size → h'[c]? = h[c]?) → K (.map (some b)) h') : VH P (Instr.makeMap t none) h K := by
  intro w hw
  subst hw
  refine ⟨.map (some w.heap.size), w.alloc (.map #[] 0), ?_, ⟨rfl, rfl, rfl⟩, r _ _ rfl ?_ (show (w.heap.push _).size = _ by simp) (fun c hc => (MapKept.heap_alloc w _).2 c hc)⟩
  · simp [Instr.makeMap, Result.andThen]
  · exact ⟨_, _, (MapKept.heap_alloc w _).1, rfl, by simp, by simp, by simp⟩
end
end Go.Sg
namespace Go.Sg
open Go Vc
section
variable {α : Type} [El α] {e : TypeId} {h : Heap} {R : Heap → Prop}
theorem own_setf {g cap n c : Nat} {L : List α} {i f : Nat} {a a' : α} {w : Value} {k} {zz : Nat} (hzz : zz = El.z α) (o : Own g cap e h L) (hn : n = L.length) (ha : L[i]? = some a) (hf : f < El.z α) (hw : (El.enc a).set f w = El.enc a') (h1 : one' w = true)
    (r : ∀ h', Own g cap e h' (L.set i a') → Ex (fun b => b = g) h h' → R h') : IxP zz (.slice (some ⟨g, 0, none⟩) n c) (.int k i) fun q => FaP (some f) q fun p => StP p w h R := by
  subst hzz hn
  have hi : i < L.length := (List.getElem?_eq_some_iff.1 ha).1
  obtain ⟨cur, q1, q2, q3, q4, q5⟩ := o
  refine ⟨g, 0, L.length, c, k, i, rfl, rfl, by omega, by omega, ?_⟩
  simp only [FaP_ptr, Int.toNat_natCast, Nat.zero_add]
  have hlt : i * El.z α + f < L.length * El.z α := by
    have : (i + 1) * El.z α ≤ L.length * El.z α := Nat.mul_le_mul_right _ hi
    rw [Nat.add_mul, Nat.one_mul] at this; omega
  have hcap : L.length * El.z α ≤ cap * El.z α := Nat.mul_le_mul_right _ q2
  have kb : Blk h g cur := ⟨e, q1⟩
  refine StP_blk kb (by omega) h1 (r _ ?_ (hset_ex rfl))
  have hT : (hset h g (i * El.z α + f) w)[g]? = some (.cells (cur.set (i * El.z α + f) w).toArray e (0, 0)) := by
    rw [hset, Array.getElem?_modify, if_pos rfl, q1]; simp
  exact ⟨_, hT, by rw [List.length_set]; exact q2, q3, by rw [List.length_set, q4], by rw [List.length_set, List.take_set, q5, cells_set ha hf hw]⟩
theorem own_set {g cap c m : Nat} {L : List α} {i n : Nat} {a' : α} {k} {zz : Nat} {vs : List Value} (hzz : zz = El.z α) (hn : n = El.z α) (hvs : vs = El.enc a') (o : Own g cap e h L) (hm : m = L.length) (hi : i < L.length)
    (r : ∀ h', Own g cap e h' (L.set i a') → Ex (fun b => b = g) h h' → R h') : IxP zz (.slice (some ⟨g, 0, none⟩) m c) (.int k i) fun q => StA n q (.agg vs.toArray) h R := by
  subst hzz hn hvs hm
  have hle := o.le
  refine ⟨g, 0, L.length, c, k, i, rfl, rfl, by omega, by omega, ?_⟩
  simp only [Int.toNat_natCast, Nat.zero_add]
  have hw := o.write i [a'] (by omega) (by simp; omega)
  obtain ⟨cur, q1, q2, q3, q4, q5⟩ := o
  have kb : Blk h g cur := ⟨e, q1⟩
  have hlt : (i + 1) * El.z α ≤ cap * El.z α := Nat.mul_le_mul_right _ (by omega)
  rw [Nat.add_mul, Nat.one_mul] at hlt
  refine StA_blk kb (by omega) (El.len a') (by rw [List.all_eq_true]; intro v hv; rw [one_eq]; exact El.one a' v hv) (r _ ?_ (hsets_ex rfl))
  have he : L.take i ++ [a'] ++ L.drop (i + [a'].length) = L.set i a' := by
    rw [List.set_eq_take_append_cons_drop, if_pos hi]; simp
  rw [he] at hw
  simpa only [cells_cons, cells_nil, List.append_nil] using hw
theorem own_set1 {g cap c m : Nat} {L : List α} {i : Nat} {a' : α} {k} {zz : Nat} {w : Value} (hzz : zz = El.z α) (hz1 : El.z α = 1) (hw : El.enc a' = [w]) (o : Own g cap e h L) (hm : m = L.length) (hi : i < L.length)
    (r : ∀ h', Own g cap e h' (L.set i a') → Ex (fun b => b = g) h h' → R h') : IxP zz (.slice (some ⟨g, 0, none⟩) m c) (.int k i) fun q => StP q w h R := by
  have ha : L[i]? = some L[i] := List.getElem?_eq_getElem hi
  have h1 : (El.enc L[i]).set 0 w = El.enc a' := by
    have := El.len L[i]; rw [hz1] at this
    match hq : El.enc L[i], this with
    | [x], _ => rw [hw]; rfl
  have hone : one' w = true := by rw [one_eq]; exact El.one a' w (by rw [hw]; simp)
  have := own_setf (f := 0) (k := k) (c := c) hzz o hm ha (by omega) h1 hone r
  obtain ⟨b, o', len, cap, k', i', e1, e2, e3, e4, e5⟩ := this
  refine ⟨b, o', len, cap, k', i', e1, e2, e3, e4, ?_⟩
  simpa [FaP_ptr] using e5
theorem Own.rd {g cap n : Nat} {L : List α} (o : Own g cap e h L) (hn : n = L.length) {c : Nat} (hc : n ≤ c) : Sl No h (.slice (some ⟨g, 0, none⟩) n c) L := by
  subst hn
  exact ⟨_, c, rfl, hc, (fun x => nomatch x), fun x hx => by
    cases hx
    exact ⟨rfl, fun _ => ⟨o.lt, fun x => x, fun j v hj => by rw [Nat.zero_add]; exact o.at hj⟩⟩⟩
def tab {β : Type} (n : Nat) (f : Nat → β) : List β := (List.range n).map f
theorem tab_length {β : Type} {n : Nat} {f : Nat → β} : (tab n f).length = n := by simp [tab]
theorem tab_get {β : Type} {n i : Nat} {f : Nat → β} (h : i < n) : (tab n f)[i]? = some (f i) := by simp [tab, h]
theorem tab_set {β : Type} {n i : Nat} {f : Nat → β} {v : β} : (tab n f).set i v = tab n (upd f i v) := by
  apply List.ext_getElem?
  intro j
  rw [List.getElem?_set]
  by_cases hij : i = j
  · subst hij
    simp only [if_true, tab_length]
    by_cases hi : i < n
    · rw [if_pos hi, tab_get hi, upd_same]
    · rw [if_neg hi]; simp [tab, hi]
  · rw [if_neg hij]
    by_cases hj : j < n
    · rw [tab_get hj, tab_get hj, upd_ne (Ne.symm hij)]
    · simp [tab, hj]
theorem tab_rep {β : Type} {n : Nat} {v : β} : List.replicate n v = tab n fun _ => v := by
  apply List.ext_getElem?
  intro j
  by_cases hj : j < n
  · rw [tab_get hj]; simp [hj]
  · simp [tab, hj]
end
end Go.Sg
