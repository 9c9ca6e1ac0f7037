/-
  Part 13 of a proof: own texts, merged by program.
-/
import Derived.Laws.BytesArg
import Derived.Test.YtoahnccffedojaaGreatDoorP12
set_option linter.unusedVariables false
set_option linter.unusedSimpArgs false
/-! Contracts of word: numbers written and read. -/
namespace Go.Sg
open Go Vc
section
variable {α : Type} [El α] {t e : TypeId} {by' : Nat} {h : Heap} {K : Kt} {n0 : Nat}
theorem madeCells_rep {z : Value} {a : α} (hz : z.cells.toList = El.enc a) (n : Nat) : (madeCells z.cells (n * El.z α)).toList = cells (List.replicate n a) := by
  have hsz : z.cells.size = El.z α := by have := congrArg List.length hz; rw [El.len] at this; simpa using this
  rw [← zeroCells_rep hz n]
  unfold madeCells Builtin.zeroCells
  rw [hsz]
/-- make([]T, n). -/
theorem mkn (T : SlT α t e by') {n : Nat} {kl kc} {z0 : α} (hz0 : ∀ i z, Pg.info? e = some i → i.zero = some z → z.cells.toList = El.enc z0) (hn : n0 ≤ h.size) (hl : n * El.z α ≤ 2 ^ 24) (hby : by' ≤ 64)
    (r : ∀ g h', g = h.size → Own g n e h' (List.replicate n z0) → Ext h h' → K (.slice (some ⟨g, 0, none⟩) n n) h') : VH Pg (Instr.makeSlice t (.int kl (n : Int)) (.int kc (n : Int))) h K := by
  obtain ⟨i, z, hi, hz, hs, hb, hzs⟩ := T.info
  intro w hw
  subst hw
  have hp := El.pos (α := α)
  have hn24 : n ≤ 2 ^ 24 := Nat.le_trans (Nat.le_mul_of_pos_right n hp) hl
  have hlb : by' * n ≤ 64 * 2 ^ 24 := Nat.mul_le_mul hby hn24
  obtain ⟨w', h1, h2, h3⟩ := run_makeSlice_full (P := Pg) w w.heap.size t e i z (El.z α) T.und hi hz hs kl kc n (by omega) (by rw [hb]; omega) (by simp only [maxLen]; omega) (Nat.le_refl _)
  rw [madeCells_rep (hz0 i z hi hz)] at h2
  have ow : Ow w.heap.size e w'.heap _ (List.replicate n z0) := Ow.of h2
  rcases ow.cases' with ⟨h, _⟩ | ⟨g, cap, hv, hg, ow⟩
  · cases h
  · simp only [List.length_replicate, Value.slice.injEq, Option.some.injEq, Addr.mk.injEq, true_and, and_true] at hv
    obtain ⟨rfl, rfl⟩ := hv
    exact ⟨_, w', h1, grown_kin h3, r _ _ rfl ow ⟨h3.size, fun b hb _ => h3.block b hb (by simp)⟩⟩
end
theorem z_byte : ∀ i z, Pg.info? t_uint8 = some i → i.zero = some z → z.cells.toList = El.enc (0 : UInt8) := by
  have h : (Pg.info? t_uint8).bind (fun i => i.zero.map fun z => z.cells.toList) = some [.int .u8 0] := by kernel_rfl
  intro i z hi hz
  rw [hi] at h
  simp only [Option.bind_some, hz, Option.map_some, Option.some.injEq] at h
  exact h
/-- A reader: at rb, with the bytes l left, and an error. -/
def Rd (rb : Nat) (h : Heap) (l : List UInt8) (er : Int) : Prop := ∃ v, Blk h rb [v, int er] ∧ Sl (fun b => rb ≤ b) h v l
abbrev only (rb : Nat) : Nat → Prop := fun b => b = rb
/-- A reader stays, where nothing that it reads turns. -/
theorem Rd.ex {M : Nat → Prop} {rb : Nat} {h h' : Heap} {l : List UInt8} {er : Int} (r : Rd rb h l er) (e : Ex M h h') (hm : ∀ b, b ≤ rb → ¬ M b) : Rd rb h' l er := by
  obtain ⟨v, h1, h2⟩ := r
  refine ⟨v, h1.ex e (hm rb (Nat.le_refl _)), h2.ex e (fun b _ hb => ?_) (fun _ _ x => x)⟩
  exact Nat.le_of_lt (Nat.lt_of_not_le fun hq => hm b hq hb)
theorem Rd.ext {rb h h' l er} (r : Rd rb h l er) (e : Ext h h') : Rd rb h' l er := by
  obtain ⟨v, h1, h2⟩ := r; exact ⟨v, h1.ext e, h2.ext e⟩
section
variable {h : Heap} {K : Kt} {U : Nat → Prop} {rb : Nat} {l : List UInt8} {er : Int}
theorem c_word_right {n : Int} (r : K (.bool (decide (n = 1 ∨ n = 2 ∨ n = 4 ∨ n = 8))) h) : Ca f_word_right #[int n] h K := by
  refine m_word_right_ok ?_
  unfold m_word_right
  rw [BiP_eql]
  refine cdp (fun h1 => ?_) (fun h1 => ?_)
  · rw [decide_eq_true (.inl h1)] at r; exact r
  · rw [BiP_eql]
    refine cdp (fun h2 => ?_) (fun h2 => ?_)
    · rw [decide_eq_true (.inr (.inl h2))] at r; exact r
    · rw [BiP_eql]
      refine cdp (fun h3 => ?_) (fun h3 => ?_)
      · rw [decide_eq_true (.inr (.inr (.inl h3)))] at r; exact r
      · rw [BiP_eql]
        have : decide (n = 1 ∨ n = 2 ∨ n = 4 ∨ n = 8) = decide (n = 8) := by simp [h1, h2, h3]
        rw [this] at r; exact r
theorem c_word_Open {x : Value} (s : Sl U h x l) (hl : l.length ≤ 2 ^ 40) (r : ∀ rb h', rb ≥ h.size → Rd rb h' l 0 → Ext h h' → K (ptr rb 0) h') : Ca f_word_Open #[x] h K := by
  refine m_word_Open_ok (c_Clone_byte s hl fun v1 h1 o1 e1 => ?_)
  have hv : ∃ cs, v1.cells = #[v1] ∧ cs = #[v1] := by
    rcases o1.cases' with ⟨rfl, _⟩ | ⟨g, cap, rfl, _⟩ <;> exact ⟨_, rfl, rfl⟩
  obtain ⟨_, hv, _⟩ := hv
  refine ⟨_, #[v1, int 0], rfl, ?_, ?_⟩
  · rcases o1.cases' with ⟨rfl, _⟩ | ⟨g, cap, rfl, _⟩ <;> rfl
  · refine bxa (cs := [v1, int 0]) fun b h2 e2 hb k2 _ => ?_
    refine r b h2 (by have := e1.le; omega) ⟨v1, k2, ?_⟩ (e1.trans e2)
    exact (o1.sl (U := No) fun _ _ h => h).ex e2 (fun _ _ h => h) (fun x hx hb' => by omega)
theorem c_word_Err (rd : Rd rb h l er) (r : K (int er) h) : Ca f_word_Reader_Err #[ptr rb 0] h K := by
  refine m_word_Reader_Err_ok (eq_ptr_nil (by kernel_rfl) ?_)
  obtain ⟨v, k, s⟩ := rd
  exact fl (by rw [k.get]; rfl) r
theorem c_word_spoil {n : Int} (rd : Rd rb h l er) (r : ∀ h', Rd rb h' [] (if er = 0 then n else er) → Ex (only rb) h h' → K (.tuple #[]) h') : Ca f_word_Reader_spoil #[ptr rb 0, int n] h K := by
  refine m_word_Reader_spoil_ok ?_
  obtain ⟨v, k, s⟩ := rd
  refine fl (by rw [k.get]; rfl) ?_
  rw [BiP_eql]
  have fin : ∀ (h1 : Heap) (v : Value) (er' : Int), er' = (if er = 0 then n else er) → Blk h1 rb [v, int er'] → Ex (only rb) h h1 → m_word_Reader_spoil_j9 (ptr rb 0) h1 K := by
    intro h1 v er' he k1 e1
    unfold m_word_Reader_spoil_j9
    refine Fs_b k1 (by simp) rfl fun h2 _ e2 k2 => r h2 ⟨.slice none 0 0, ?_, Sl.nil _ _⟩ (e1.trans e2)
    rw [← he]; exact k2
  refine cdp (fun h0 => ?_) (fun h0 => ?_)
  · refine Fs_b k (by simp) rfl fun h1 _ e1 k1 => ?_
    exact fin h1 v n (by rw [if_pos h0]) k1 e1
  · exact fin h v er (by rw [if_neg h0]) k (Ex.refl _ _)
theorem Rd.ne {rb : Nat} {h : Heap} {l : List UInt8} {er : Int} (r : Rd rb h l er) : rb < h.size := by obtain ⟨v, h1, _⟩ := r; exact h1.lt
/-- n bytes are read. -/
theorem c_word_Raw {n : Nat} (rd : Rd rb h l 0) (hn : n ≤ l.length) (hl : n ≤ 2 ^ 24) (r : ∀ v h', Ow h.size t_uint8 h' v (l.take n) → Rd rb h' (l.drop n) 0 → Ex (only rb) h h' → K v h') : Ca f_word_Reader_Raw #[ptr rb 0, int n] h K := by
  refine m_word_Reader_Raw_ok (eq_ptr_nil (by kernel_rfl) ?_)
  have hrb := rd.ne
  obtain ⟨v, k, s⟩ := rd
  refine fl (by rw [k.get]; rfl) ?_
  rw [BiP_neq]
  refine cdp (fun h => absurd rfl h) fun _ => ?_
  rw [BiP_lss]
  refine cdp (fun h => absurd h (by omega)) fun _ => ?_
  refine fl (by rw [k.get]; rfl) ?_
  refine s.len ?_
  rw [BiP_gtr]
  refine cdp (fun h => absurd h (by omega)) fun _ => ?_
  unfold m_word_Reader_Raw_j22
  refine mkn (n0 := h.size) T_byte z_byte (Nat.le_refl _) (by simpa [El.z] using hl) (by decide) fun g h1 hg o1 e1 => ?_
  have k1 := k.ext e1
  have s1 := s.ext e1
  refine fl (by rw [k1.get]; rfl) ?_
  refine copy_own (k := 0) T_byte o1 s1 (Nat.zero_le _) (by omega) fun h2 o2 e2 => ?_
  have hz : (List.replicate n (0 : UInt8)).take 0 ++ l.take n ++ (List.replicate n (0 : UInt8)).drop (0 + min l.length n) = l.take n := by
    rw [Nat.zero_add, Nat.min_eq_right hn, List.drop_eq_nil_of_le (by simp), List.append_nil]; rfl
  rw [hz] at o2
  have k2 := k1.ex e2 (by omega : ¬ rb = g)
  refine fl (by rw [k2.get]; rfl) ?_
  refine s.part (a := n) (b := l.length) bnd_nat rfl hn (Nat.le_refl _) fun v3 s3 => ?_
  rw [List.take_length] at s3
  have hv3 : one' v3 = true := by obtain ⟨a, cap, rfl, _⟩ := s3.out; rfl
  refine Fs_b k2 (by simp) hv3 fun h3 _ e3 k3 => ?_
  have e02 : Ext h h2 := e1.andThen e2 fun x hx => by omega
  have e03 : Ex (only rb) h h3 := e02.toM.trans e3
  have o3 := o2.ex e3 (by omega : ¬ g = rb)
  have hlen : (l.take n).length = n := by rw [List.length_take]; omega
  refine r _ h3 (o3.ow' (by omega) hlen) ⟨v3, k3, ?_⟩ e03
  exact s3.keep e03 fun b hb => Nat.le_of_eq (Eq.symm hb)
/-- More bytes are asked than there are. -/
theorem c_word_Raw_short {n : Nat} (rd : Rd rb h l 0) (hn : l.length < n) (r : ∀ h', Rd rb h' [] 5 → Ex (only rb) h h' → K (.slice none 0 0) h') : Ca f_word_Reader_Raw #[ptr rb 0, int n] h K := by
  refine m_word_Reader_Raw_ok (eq_ptr_nil (by kernel_rfl) ?_)
  have rd' := rd
  obtain ⟨v, k, s⟩ := rd
  refine fl (by rw [k.get]; rfl) ?_
  rw [BiP_neq]
  refine cdp (fun h => absurd rfl h) fun _ => ?_
  rw [BiP_lss]
  refine cdp (fun h => absurd h (by omega)) fun _ => ?_
  refine fl (by rw [k.get]; rfl) ?_
  refine s.len ?_
  rw [BiP_gtr]
  refine cdp (fun _ => ?_) fun h => absurd (by omega) h
  exact c_word_spoil rd' fun h' r' e' => r h' r' e'
/-- A reader with an error reads nothing. -/
theorem c_word_Raw_err {n : Int} (rd : Rd rb h l er) (he : er ≠ 0) (r : K (.slice none 0 0) h) : Ca f_word_Reader_Raw #[ptr rb 0, int n] h K := by
  refine m_word_Reader_Raw_ok (eq_ptr_nil (by kernel_rfl) ?_)
  obtain ⟨v, k, s⟩ := rd
  refine fl (by rw [k.get]; rfl) ?_
  rw [BiP_neq]
  refine cdp (fun _ => ?_) fun h => absurd he h
  exact r
end
end Go.Sg
/-! Contracts of word: numbers. -/
namespace Go.Sg
open Go Vc
/-- What a reader gives when n bytes are asked, and what it is then. -/
def rawOf (l : List UInt8) (er : Int) (n : Nat) : List UInt8 × List UInt8 × Int :=
  if er ≠ 0 then ([], l, er) else if n ≤ l.length then (l.take n, l.drop n, 0) else ([], [], 5)
def numOf (l : List UInt8) : Nat := l.foldl (fun v c => v * 256 + c.toNat) 0
theorem numOf_snoc (l : List UInt8) (c : UInt8) : numOf (l ++ [c]) = numOf l * 256 + c.toNat := by simp [numOf, List.foldl_append]
theorem numOf_lt (l : List UInt8) : numOf l < 256 ^ l.length := by
  generalize hn : l.length = n
  induction n generalizing l with
  | zero => have := List.eq_nil_of_length_eq_zero hn; subst this; simp [numOf]
  | succ n ih =>
    obtain ⟨m, c, rfl⟩ : ∃ m c, l = m ++ [c] := ⟨l.dropLast, l.getLast (by rintro rfl; simp at hn), (List.dropLast_concat_getLast _).symm⟩
    rw [numOf_snoc]
    have := ih m (by simpa using hn)
    have hc := c.toNat_lt
    rw [Nat.pow_succ]; omega
section
variable {h : Heap} {K : Kt} {U : Nat → Prop} {rb : Nat} {l : List UInt8} {er : Int}
theorem c_Raw {n : Nat} (rd : Rd rb h l er) (hl : n ≤ 2 ^ 24) (r : ∀ v h', Ow h.size t_uint8 h' v (rawOf l er n).1 → Rd rb h' (rawOf l er n).2.1 (rawOf l er n).2.2 → Ex (only rb) h h' → K v h') : Ca f_word_Reader_Raw #[ptr rb 0, int n] h K := by
  unfold rawOf at r
  by_cases he : er = 0
  · subst he
    rw [if_neg (by simp)] at r
    by_cases hn : n ≤ l.length
    · rw [if_pos hn] at r; exact c_word_Raw rd hn hl r
    · rw [if_neg hn] at r; exact c_word_Raw_short rd (by omega) fun h' r' e' => r _ _ (Ow.nil _ _ _) r' e'
  · rw [if_pos he] at r
    exact c_word_Raw_err rd he (r _ _ (Ow.nil _ _ _) rd (Ex.refl _ _))
theorem shl8_or {v c : Nat} {R : Value → Prop} (h1 : v < 2 ^ 56) (h2 : c < 256) (r : R (.int .u64 ((v * 256 + c : Nat) : Int))) :
    BiP .shl (.int .u64 v) (.int .u64 8) fun x => BiP .or x (.int .u64 c) R := by
  have w64 : ∀ {n : Int}, 0 ≤ n → n < 18446744073709551616 → IntKind.wrap .u64 n = n := fun a b => wrapU rfl a (by simpa [IntKind.bits] using b)
  have e1 : binVal .shl (.int .u64 (v : Int)) (.int .u64 8) = some (.int .u64 ((v * 256 : Nat) : Int)) := by
    simp only [binVal]
    rw [if_neg (by decide)]
    have : (v : Int) * 2 ^ (min (Int.toNat 8) (IntKind.bits .u64)) = ((v * 256 : Nat) : Int) := by
      have h3 : (2 : Int) ^ (min (Int.toNat 8) (IntKind.bits .u64)) = 256 := by decide
      rw [h3]; omega
    rw [this, w64 (by omega) (by omega)]
  have e2 : binVal .or (.int .u64 ((v * 256 : Nat) : Int)) (.int .u64 (c : Int)) = some (.int .u64 ((v * 256 + c : Nat) : Int)) := by
    have h3 : ((BitVec.ofInt 64 ((v * 256 : Nat) : Int) ||| BitVec.ofInt 64 (c : Int)).toNat : Int) = ((v * 256 + c : Nat) : Int) := by
      rw [BitVec.ofInt_natCast, BitVec.ofInt_natCast, BitVec.toNat_or, BitVec.toNat_ofNat, BitVec.toNat_ofNat, Nat.mod_eq_of_lt (by omega), Nat.mod_eq_of_lt (by omega)]
      have := Nat.two_pow_add_eq_or_of_lt (i := 8) (b := c) (by omega) v
      rw [Nat.mul_comm v 256]
      exact congrArg Nat.cast this.symm
    simp only [binVal]
    rw [if_neg (by simp)]
    show some (Value.int .u64 (IntKind.wrap .u64 ((BitVec.ofInt 64 ((v * 256 : Nat) : Int) ||| BitVec.ofInt 64 (c : Int)).toNat : Int))) = _
    rw [h3, w64 (by omega) (by omega)]
  rw [BiP_some e1, BiP_some e2]; exact r
theorem c_word_Num {n : Nat} (rd : Rd rb h l er) (hn : n = 1 ∨ n = 2 ∨ n = 4 ∨ n = 8) (r : ∀ h', Rd rb h' (rawOf l er n).2.1 (rawOf l er n).2.2 → Ex (only rb) h h' → K (.int .u64 (numOf (rawOf l er n).1)) h') : Ca f_word_Reader_Num #[ptr rb 0, int n] h K := by
  refine m_word_Reader_Num_ok (c_word_right ?_)
  rw [decide_eq_true (by omega), UnP_not, Bool.not_true, CdP_false]
  unfold m_word_Reader_Num_j5
  refine c_Raw rd (by omega) fun v h1 o1 rd1 e1 => ?_
  have hlen : (rawOf l er n).1.length ≤ n := by
    unfold rawOf; split
    · simp
    · split
      · simp; omega
      · simp
  have s1 : Sl No h1 v (rawOf l er n).1 := o1.sl fun _ _ h => h
  have r := r h1 rd1 e1
  generalize (rawOf l er n).1 = q at *
  refine s1.len ?_
  refine lop (σ := Nat) (fun i => [.int .u64 (numOf (q.take i)), int i]) (fun i h' => h' = h1 ∧ i ≤ q.length) (fun i => q.length - i) 0 (by simp [numOf]) ⟨rfl, Nat.zero_le _⟩ ?_
  rintro i h2 N ⟨rfl, hi⟩ hN
  simp only [m_word_Reader_Num_l10, gv_zero, gv_succ]
  rw [BiP_lss]
  refine cdp (fun hlt => ?_) (fun hge => ?_)
  · have g1 : q[i]? = some q[i] := List.getElem?_eq_getElem (by omega)
    have hnext : numOf (q.take (i + 1)) = numOf (q.take i) * 256 + q[i].toNat := by
      rw [List.take_add_one, g1]; exact numOf_snoc _ _
    have hN := hN (i + 1) h2 ⟨rfl, by omega⟩ (by omega)
    rw [hnext] at hN
    have hv := numOf_lt (q.take i)
    have hv2 : numOf (q.take i) < 2 ^ 56 := by
      refine Nat.lt_of_lt_of_le hv ?_
      have h7 : (q.take i).length ≤ 7 := by rw [List.length_take]; omega
      calc 256 ^ (q.take i).length ≤ 256 ^ 7 := Nat.pow_le_pow_right (by decide) h7
        _ = 2 ^ 56 := by decide
    refine s1.ei (by omega) (by rw [Int.toNat_natCast]; exact g1) rfl ?_
    generalize q[i] = c at *
    have hc := c.toNat_lt
    have w64 : IntKind.wrap .u64 (c.toNat : Int) = (c.toNat : Int) := wrapU rfl (by omega) (by simp only [IntKind.bits]; omega)
    have := shl8_or (R := fun x18 => BiP .add (int i) (.int .i64 1) fun x19 => N [x18, x19] h2) hv2 (by omega : c.toNat < 256) (add64 (by omega) (by simpa using hN))
    simp only [CvP_int, w64]
    exact this
  · have : i = q.length := by omega
    subst this
    unfold m_word_Reader_Num_j20
    rw [List.take_length]; exact r
end
end Go.Sg
/-! Contracts of word: Put; the library's ContainsFunc. -/
namespace Go.Sg
open Go Vc
/-- A number's bytes, the greatest first. -/
def bytesOf : Nat → Nat → List UInt8
  | 0, _ => []
  | w + 1, v => UInt8.ofNat (v / 256 ^ w) :: bytesOf w v
theorem bytesOf_length (w v : Nat) : (bytesOf w v).length = w := by induction w with
  | zero => rfl
  | succ w ih => simp [bytesOf, ih]
section
variable {h : Heap} {K : Kt} {U : Nat → Prop}
theorem c_word_Put {x : Value} {l : List UInt8} {w v : Nat} (s : Sl U h x l) (hw : w = 1 ∨ w = 2 ∨ w = 4 ∨ w = 8) (hv : v < 2 ^ 64) (hl : l.length ≤ 2 ^ 39) (r : ∀ y h', Ow h.size t_uint8 h' y (l ++ bytesOf w v) → Ext h h' → K y h') :
    Ca f_word_Put #[x, int w, .int .u64 v] h K := by
  refine m_word_Put_ok (c_Clone_byte s (by omega) fun y1 h1 o1 e1 => ?_)
  refine c_word_right ?_
  rw [decide_eq_true (by omega), UnP_not, Bool.not_true, CdP_false]
  refine sub64 (by omega) ?_
  refine lop (σ := Nat × Value × List UInt8) (fun p => [p.2.1, int ((p.1 : Int) - 1)]) (fun p h' => Ext h h' ∧ p.1 ≤ 8 ∧ Ow h.size t_uint8 h' p.2.1 p.2.2 ∧ p.2.2 ++ bytesOf p.1 v = l ++ bytesOf w v ∧ p.2.2.length + p.1 ≤ l.length + 8) (fun p => p.1) (w, y1, l) rfl ⟨e1, by show w ≤ 8; omega, o1, rfl, by show l.length + w ≤ l.length + 8; omega⟩ ?_
  rintro ⟨n, y, q⟩ h2 N ⟨e2, hn, o2, hq, hlen⟩ hN
  simp only at e2 hn o2 hq hlen
  simp only [m_word_Put_l8, gv_zero, gv_succ]
  rw [BiP_geq]
  refine cdp (fun hpos => ?_) (fun hz => ?_)
  · obtain ⟨i, rfl⟩ : ∃ i, n = i + 1 := ⟨n - 1, by omega⟩
    have hi : (((i + 1 : Nat) : Int) - 1) = (i : Int) := by omega
    rw [hi]
    refine mul64 (by omega) ?_
    have e3 : binVal .shr (.int .u64 (v : Int)) (int (8 * (i : Int))) = some (.int .u64 ((v / 256 ^ i : Nat) : Int)) := by
      have h1 : (2 : Int) ^ (min (8 * (i : Int)).toNat (IntKind.bits .u64)) = ((256 ^ i : Nat) : Int) := by
        have : min (8 * (i : Int)).toNat (IntKind.bits .u64) = 8 * i := by simp only [IntKind.bits]; omega
        rw [this, Int.pow_mul]
        norm_cast
      simp only [binVal]
      rw [if_neg (by omega), h1, Int.fdiv_eq_ediv_of_nonneg _ (Int.natCast_nonneg _)]
      norm_cast
    rw [BiP_some e3, CvP_int]
    have e4 : IntKind.wrap .u8 ((v / 256 ^ i : Nat) : Int) = ((UInt8.ofNat (v / 256 ^ i)).toNat : Int) := by
      simp only [IntKind.wrap, IntKind.signed, IntKind.bits, Bool.false_and, Bool.false_eq_true, if_false]
      rw [UInt8.toNat_ofNat']
      omega
    rw [e4]
    refine bs (n0 := h2.size) (e := t_uint8) [UInt8.ofNat (v / 256 ^ i)] rfl (Nat.le_refl _) rfl (by decide) (by kernel_rfl) rfl fun y3 h3 o3 e3 => ?_
    refine app T_byte (o2.ext e3) (o3.sl (U := No) fun _ _ h => h) (Nat.le_trans e2.le e3.le) (by simp; omega) (by decide) fun y4 h4 o4 e4 _ => ?_
    refine sub64 (by omega) ?_
    refine hN (i, y4, q ++ [UInt8.ofNat (v / 256 ^ i)]) h4 ⟨(e2.trans e3).own e4 (Nat.le_refl _), by omega, o4, ?_, by simp; omega⟩ (by omega)
    simp only
    rw [← hq, bytesOf]; simp
  · have : n = 0 := by omega
    subst this
    unfold m_word_Put_j20
    rw [bytesOf, List.append_nil] at hq
    rw [hq] at o2
    exact r _ _ o2 e2
end
section
variable {h : Heap} {K : Kt} {U : Nat → Prop} {x fv : Value}
/-- A test, as a function value, from a memory on. -/
def Tst {α : Type} (h0 : Heap) (fv : Value) (ev : α → Value) (p : α → Bool) : Prop := ∀ a h' (R : Kt), Ext h0 h' → (∀ h'', Ext h' h'' → R (.bool (p a)) h'') → CvH Pg fv #[ev a] h' R
theorem index_gen {α : Type} [El α] {E : Value → Value → Heap → (Value → Prop) → Prop} {ev : α → Value} {p : α → Bool} {l : List α}
    (he : ∀ h' (i : Int) a (R : Value → Prop), Sl U h' x l → 0 ≤ i → l[i.toNat]? = some a → R (ev a) → E x (int i) h' R) (hc : Tst h fv ev p)
    (s : Sl U h x l) (hl : l.length ≤ 2 ^ 40) (r : ∀ i h', Ext h h' → (0 ≤ i ↔ l.any p = true) → K (int i) h') :
    LenP (some true) x fun x2 => LoP (fun vs h nx4 => BiP .lss (gv vs 1) x2 fun x5 => CdP x5
      (E x (gv vs 1) h fun x8 => CvH Pg fv #[x8] h fun x10 h9 => CdP x10 (K (gv vs 1) h9)
        (BiP .add (gv vs 1) (.int .i64 1) fun x11 => nx4 [(gv vs 0), x11] h9)) (K (.int .i64 (-1)) h)) [(.int .i64 0), (.int .i64 0)] h := by
  refine s.len ?_
  refine lop (σ := Nat) (fun i => [int 0, int i]) (fun i h' => Ext h h' ∧ i ≤ l.length ∧ (l.take i).any p = false) (fun i => l.length - i) 0 rfl ⟨Ex.refl _ _, Nat.zero_le _, by simp⟩ ?_
  rintro i h1 N ⟨e1, hi, hn⟩ hN
  simp only [gv_zero, gv_succ]
  rw [BiP_lss]
  refine cdp (fun hlt => ?_) (fun hge => ?_)
  · have g1 : l[i]? = some l[i] := List.getElem?_eq_getElem (by omega)
    refine he _ _ l[i] _ (s.ext e1) (by omega) (by rw [Int.toNat_natCast]; exact g1) ?_
    refine hc _ _ _ e1 fun h2 e2 => ?_
    refine cd (fun hp => ?_) (fun hp => ?_)
    · exact r i h2 (e1.trans e2) ⟨fun _ => List.any_eq_true.2 ⟨l[i], List.getElem_mem _, hp⟩, fun _ => by omega⟩
    · refine add64 (by omega) ?_
      refine hN (i + 1) h2 ⟨e1.trans e2, by omega, ?_⟩ (by omega)
      rw [List.take_add_one, g1, List.any_append, hn]; simpa using hp
  · have : i = l.length := by omega
    subst this
    rw [List.take_length] at hn
    exact r (-1) h1 e1 ⟨fun h => by omega, fun h => by rw [hn] at h; cases h⟩
def byteV (b : UInt8) : Value := .int .u8 b.toNat
theorem c_ContainsFunc_byte {l : List UInt8} {p : UInt8 → Bool} (hc : Tst h fv byteV p) (s : Sl U h x l) (hl : l.length ≤ 2 ^ 40) (r : ∀ h', Ext h h' → K (.bool (l.any p)) h') : Ca f_slices_ContainsFunc_byte #[x, fv] h K :=
  m_slices_ContainsFunc_byte_ok (m_slices_IndexFunc_byte_ok (index_gen (K := fun x2 h1 => BiP .geq x2 (.int .i64 0) fun x3 => K x3 h1) (E := Ei 1) (ev := byteV) (p := p) (l := l) (fun h' i a R s h0 ha r => Sl.ei s h0 ha rfl r) hc s hl fun i h' e hi => by
    rw [BiP_geq]
    have : decide (0 ≤ i) = l.any p := by
      by_cases h0 : 0 ≤ i
      · rw [decide_eq_true h0, hi.1 h0]
      · rw [decide_eq_false h0]; cases hq : l.any p with
        | false => rfl
        | true => exact absurd (hi.2 hq) h0
    rw [this]; exact r h' e))
theorem tst_nonzero1 {h0 : Heap} : Tst h0 (.func (.func f_word_Reader_Zeros_1) #[] #[]) byteV (fun c => decide (c ≠ 0)) := by
  intro a h R _ r
  refine cvh (by kernel_rfl) (m_word_Reader_Zeros_1_ok ?_)
  unfold m_word_Reader_Zeros_1 byteV
  rw [BiP_neq]
  have r := r h (Ex.refl _ _)
  have : decide ((a.toNat : Int) ≠ 0) = decide (a ≠ 0) := by
    by_cases h0 : a = 0
    · subst h0; rfl
    · have : a.toNat ≠ 0 := fun e => h0 (UInt8.toNat_inj.1 (by simpa using e))
      simp [h0, this]
  rw [this]; exact r
theorem tst_nonzero2 {h0 : Heap} : Tst h0 (.func (.func f_word_Reader_Text_1) #[] #[]) byteV (fun c => decide (c ≠ 0)) := by
  intro a h R _ r
  refine cvh (by kernel_rfl) (m_word_Reader_Text_1_ok ?_)
  unfold m_word_Reader_Text_1 byteV
  rw [BiP_neq]
  have r := r h (Ex.refl _ _)
  have : decide ((a.toNat : Int) ≠ 0) = decide (a ≠ 0) := by
    by_cases h0 : a = 0
    · subst h0; rfl
    · have : a.toNat ≠ 0 := fun e => h0 (UInt8.toNat_inj.1 (by simpa using e))
      simp [h0, this]
  rw [this]; exact r
end
end Go.Sg
/-! Contracts of word: zeros and texts. -/
namespace Go.Sg
open Go Vc
section
variable {h : Heap} {K : Kt} {U : Nat → Prop} {x : Value} {rb : Nat} {l : List UInt8} {er : Int}
theorem cv_str (s : Sl U h x l) (r : K (str l) h) : VH Pg (convert t_S_uint8 t_string x) h K := by
  refine vh_pure (v := str l) (fun w hw => ?_) r
  subst hw
  obtain ⟨a, cap, rfl, ⟨rfl, rfl⟩ | ⟨b, o, rfl, hc⟩⟩ := s.cells
  · exact run_convert_bytes_nil w t_S_uint8 t_uint8 T_byte.und (by kernel_rfl) _ _ t_string (by kernel_rfl)
  · have := run_convert_bytes_arg (P := Pg) w t_S_uint8 t_uint8 T_byte.und (by kernel_rfl) b o l.length cap (l.map fun c => (c.toNat : Int)) (by simp) (fun i hi => by
      rw [cell_hget]
      have g := hc i (.int .u8 (l[i].toNat : Int)) (by
        have := cells_get (List.getElem?_eq_getElem hi) 0 (El.pos (α := UInt8))
        have hz : El.z UInt8 = 1 := rfl
        rw [hz, Nat.mul_one, Nat.add_zero] at this
        rw [this]; rfl)
      rw [g]
      simp [List.getD_eq_getElem?_getD, hi]) t_string (by kernel_rfl)
    rw [this]
    have e : strOfNums (l.map fun c => (c.toNat : Int)) = ⟨l.toArray⟩ := by
      unfold strOfNums
      rw [List.map_map]
      have : ((fun n : Int => UInt8.ofNat n.toNat) ∘ fun c : UInt8 => (c.toNat : Int)) = id := by
        funext c; simp
      rw [this, List.map_id]
    rw [e]; rfl
/-- A reader behind an error. -/
def spoilOf (l : List UInt8) (er n : Int) : List UInt8 × Int := ([], if er = 0 then n else er)
/-- What a reader is behind so many zeros. -/
def zerosOf (l : List UInt8) (er : Int) (n : Nat) : List UInt8 × Int :=
  if (rawOf l er n).1.any (fun c => decide (c ≠ 0)) then spoilOf (rawOf l er n).2.1 (rawOf l er n).2.2 3 else ((rawOf l er n).2.1, (rawOf l er n).2.2)
theorem c_word_Zeros {n : Nat} (rd : Rd rb h l er) (hn : n ≤ 2 ^ 24) (r : ∀ h', Rd rb h' (zerosOf l er n).1 (zerosOf l er n).2 → Ex (only rb) h h' → K (.tuple #[]) h') : Ca f_word_Reader_Zeros #[ptr rb 0, int n] h K := by
  refine m_word_Reader_Zeros_ok (c_Raw rd hn fun v h1 o1 rd1 e1 => ?_)
  have hlen : (rawOf l er n).1.length ≤ n := by
    unfold rawOf; split
    · simp
    · split
      · simp; omega
      · simp
  unfold zerosOf at r
  refine c_ContainsFunc_byte tst_nonzero1 (o1.sl (U := No) fun _ _ h => h) (by omega) fun h2 e2 => ?_
  have rd2 := rd1.ext e2
  have e12 : Ex (only rb) h h2 := e1.trans e2.toM
  refine cd (fun hp => ?_) (fun hp => ?_)
  · rw [if_pos hp] at r
    exact c_word_spoil rd2 fun h3 rd3 e3 => r h3 rd3 (e12.trans e3)
  · rw [if_neg (by rw [hp]; simp)] at r
    exact r h2 rd2 e12
/-- What a reader gives when a text of n bytes in a field of m is asked, and what it is then. -/
def textOf (l : List UInt8) (er : Int) (n m : Nat) : Str × List UInt8 × Int :=
  if m < n then ([], spoilOf l er 2)
  else if (rawOf l er m).1.length < m then ([], (rawOf l er m).2)
  else if ((rawOf l er m).1.drop n).any (fun c => decide (c ≠ 0)) then ([], spoilOf (rawOf l er m).2.1 (rawOf l er m).2.2 3)
  else ((rawOf l er m).1.take n, (rawOf l er m).2)
theorem c_word_Text {n m : Nat} (rd : Rd rb h l er) (hm : m ≤ 2 ^ 24) (hn : n < 2 ^ 62) (r : ∀ h', Rd rb h' (textOf l er n m).2.1 (textOf l er n m).2.2 → Ex (only rb) h h' → K (str (textOf l er n m).1) h') : Ca f_word_Reader_Text #[ptr rb 0, int n, int m] h K := by
  refine m_word_Reader_Text_ok (eq_ptr_nil (by kernel_rfl) ?_)
  show CdP (.bool false) _ _
  rw [CdP_false, BiP_lss]
  unfold textOf at r
  refine cdp (fun h => absurd h (by omega)) fun _ => ?_
  rw [BiP_gtr]
  unfold m_word_Reader_Text_j9
  refine cdp (fun hmn => ?_) (fun hmn => ?_)
  · rw [if_pos (by omega)] at r
    exact c_word_spoil rd fun h1 rd1 e1 => r h1 rd1 e1
  · rw [if_neg (by omega)] at r
    unfold m_word_Reader_Text_j12
    refine c_Raw rd hm fun v h1 o1 rd1 e1 => ?_
    have s1 : Sl No h1 v (rawOf l er m).1 := o1.sl fun _ _ h => h
    have hlen : (rawOf l er m).1.length ≤ m := by
      unfold rawOf; split
      · simp
      · split
        · simp; omega
        · simp
    refine s1.len ?_
    rw [BiP_lss]
    refine cdp (fun hlt => ?_) (fun hge => ?_)
    · rw [if_pos (by omega)] at r
      exact r h1 rd1 e1
    · rw [if_neg (by omega)] at r
      refine s1.part (a := n) (b := (rawOf l er m).1.length) bnd_nat rfl (by omega) (Nat.le_refl _) fun v2 s2 => ?_
      rw [List.take_length] at s2
      refine c_ContainsFunc_byte tst_nonzero2 s2 (by simp; omega) fun h2 e2 => ?_
      have rd2 := rd1.ext e2
      have e12 : Ex (only rb) h h2 := e1.trans e2.toM
      refine cd (fun hp => ?_) (fun hp => ?_)
      · rw [if_pos hp] at r
        exact c_word_spoil rd2 fun h3 rd3 e3 => r h3 rd3 (e12.trans e3)
      · rw [if_neg (by rw [hp]; simp)] at r
        refine s1.part (a := 0) (b := n) rfl bnd_nat (Nat.zero_le _) (by omega) fun v3 s3 => ?_
        rw [List.drop_zero] at s3
        exact cv_str (s3.ext e2) (r h2 rd2 e12)
end
end Go.Sg
/-! Contracts of conf. -/
namespace Go.Sg
open Go Vc
structure Config where
  blocks : Int
  bytes : Int
  frames : Int
  fan : Int
  buffer : Int
  leaf : Int
  key : Int
  val : Int
deriving DecidableEq
def Config.cs (c : Config) : List Value := [int c.blocks, int c.bytes, int c.frames, int c.fan, int c.buffer, int c.leaf, int c.key, int c.val]
def Config.v (c : Config) : Value := .agg c.cs.toArray
/-- Are the sizes right? -/
def Config.Sized (c : Config) : Prop := 8 ≤ c.fan ∧ c.fan ≤ 64 ∧ 2 * c.fan ≤ c.buffer ∧ c.buffer ≤ 512 ∧ c.buffer ≤ c.leaf ∧ c.leaf ≤ 1024 ∧ 1 ≤ c.key ∧ c.key ≤ 64 ∧ 0 ≤ c.val ∧ c.val ≤ 256
instance (c : Config) : Decidable c.Sized := by unfold Config.Sized; infer_instance
section
variable {h : Heap} {K : Kt} {c : Config}
theorem c_conf_sized (r : ∀ h', Ext h h' → K (.bool (decide c.Sized)) h') : Ca f_conf_sized #[c.v] h K := by
  refine m_conf_sized_ok (bxa (cs := c.cs) fun b h1 e1 hb k _ => ?_)
  have r := r h1 e1
  have no : ¬ c.Sized → m_conf_sized_j59 h1 K := fun hn => by rw [decide_eq_false hn] at r; exact r
  have L : ∀ {i : Nat} {v : Value} {R : Value → Prop}, c.cs[i]? = some v → R v → Fv i (ptr b 0) h1 R := fun hi hr => fv (by rw [k.get, Nat.zero_add]; exact hi) hr
  -- two tests on a row
  have two : ∀ {A B : Prop} {x : Prop} [Decidable x] (J : Value → Prop), (A → B) → True := fun _ _ => trivial
  refine L rfl ?_
  rw [BiP_lss]
  have j13 : ∀ (x : Bool), (x = true → ¬ c.Sized) → (x = false → 8 ≤ c.fan ∧ c.fan ≤ 64) → m_conf_sized_j13 (ptr b 0) (.bool x) h1 K := by
    intro x hx1 hx2
    unfold m_conf_sized_j13
    refine cd (fun h => no (hx1 h)) fun h => ?_
    obtain ⟨q1, q2⟩ := hx2 h
    refine L rfl (L rfl ?_)
    refine mul64 (by omega) ?_
    rw [BiP_lss]
    have j26 : ∀ (x : Bool), (x = true → ¬ c.Sized) → (x = false → 2 * c.fan ≤ c.buffer ∧ c.buffer ≤ 512) → m_conf_sized_j26 (ptr b 0) (.bool x) h1 K := by
      intro x hx1 hx2
      unfold m_conf_sized_j26
      refine cd (fun h => no (hx1 h)) fun h => ?_
      obtain ⟨q3, q4⟩ := hx2 h
      refine L rfl (L rfl ?_)
      rw [BiP_lss]
      have j38 : ∀ (x : Bool), (x = true → ¬ c.Sized) → (x = false → c.buffer ≤ c.leaf ∧ c.leaf ≤ 1024) → m_conf_sized_j38 (ptr b 0) (.bool x) h1 K := by
        intro x hx1 hx2
        unfold m_conf_sized_j38
        refine cd (fun h => no (hx1 h)) fun h => ?_
        obtain ⟨q5, q6⟩ := hx2 h
        refine L rfl ?_
        rw [BiP_lss]
        have j48 : ∀ (x : Bool), (x = true → ¬ c.Sized) → (x = false → 1 ≤ c.key ∧ c.key ≤ 64) → m_conf_sized_j48 (ptr b 0) (.bool x) h1 K := by
          intro x hx1 hx2
          unfold m_conf_sized_j48
          refine cd (fun h => no (hx1 h)) fun h => ?_
          obtain ⟨q7, q8⟩ := hx2 h
          refine L rfl ?_
          rw [BiP_lss]
          have j58 : ∀ (x : Bool), (x = true → ¬ c.Sized) → (x = false → c.Sized) → m_conf_sized_j58 (.bool x) h1 K := by
            intro x hx1 hx2
            unfold m_conf_sized_j58
            refine cd (fun h => no (hx1 h)) fun h => ?_
            rw [decide_eq_true (hx2 h)] at r; exact r
          refine cdp (fun h => j58 true (fun _ s => by unfold Config.Sized at s; omega) (fun h => by cases h)) fun h => L rfl ?_
          rw [BiP_gtr]
          exact j58 _ (fun h s => by have := of_decide_eq_true h; unfold Config.Sized at s; omega) (fun h => by have := of_decide_eq_false h; unfold Config.Sized; omega)
        refine cdp (fun h => j48 true (fun _ s => by unfold Config.Sized at s; omega) (fun h => by cases h)) fun h => L rfl ?_
        rw [BiP_gtr]
        exact j48 _ (fun h s => by have := of_decide_eq_true h; unfold Config.Sized at s; omega) (fun h => by have := of_decide_eq_false h; omega)
      refine cdp (fun h => j38 true (fun _ s => by unfold Config.Sized at s; omega) (fun h => by cases h)) fun h => L rfl ?_
      rw [BiP_gtr]
      exact j38 _ (fun h s => by have := of_decide_eq_true h; unfold Config.Sized at s; omega) (fun h => by have := of_decide_eq_false h; omega)
    refine cdp (fun h => j26 true (fun _ s => by unfold Config.Sized at s; omega) (fun h => by cases h)) fun h => L rfl ?_
    rw [BiP_gtr]
    exact j26 _ (fun h s => by have := of_decide_eq_true h; unfold Config.Sized at s; omega) (fun h => by have := of_decide_eq_false h; omega)
  refine cdp (fun h => j13 true (fun _ s => by unfold Config.Sized at s; omega) (fun h => by cases h)) fun h => L rfl ?_
  rw [BiP_gtr]
  exact j13 _ (fun h s => by have := of_decide_eq_true h; unfold Config.Sized at s; omega) (fun h => by have := of_decide_eq_false h; omega)
def Config.inner (c : Config) : Int := if c.Sized then 8 + 4 * c.fan + (c.fan - 1) * (1 + c.key) + c.buffer * (4 + c.key + c.val) else 0
def Config.outer (c : Config) : Int := if c.Sized then 8 + c.leaf * (3 + c.key + c.val) else 0
def Config.move (c : Config) : Int := if c.Sized then (c.buffer + 2 * c.fan - 1) / (2 * c.fan) else 0
theorem mul_bd {a b m n : Int} (ha : 0 ≤ a ∧ a ≤ m) (hb : 0 ≤ b ∧ b ≤ n) : 0 ≤ a * b ∧ a * b ≤ m * n :=
  ⟨Int.mul_nonneg ha.1 hb.1, Int.mul_le_mul ha.2 hb.2 hb.1 (by omega)⟩
theorem c_conf_Inner (r : ∀ h', Ext h h' → K (int c.inner) h') : Ca f_conf_Inner #[c.v] h K := by
  refine m_conf_Inner_ok (bxa (cs := c.cs) fun b h1 e1 hb k _ => ?_)
  refine (LdA_b k rfl).2 (c_conf_sized (c := c) fun h2 e2 => ?_)
  have k2 := k.ext e2
  have r := r h2 (e1.trans e2)
  have L : ∀ {i : Nat} {v : Value} {R : Value → Prop}, c.cs[i]? = some v → R v → Fv i (ptr b 0) h2 R := fun hi hr => fv (by rw [k2.get, Nat.zero_add]; exact hi) hr
  unfold Config.inner at r
  rw [UnP_not]
  refine cd (fun hs => ?_) (fun hs => ?_)
  · rw [if_neg (by simpa using hs)] at r; exact r
  · have hs : c.Sized := by simpa using hs
    rw [if_pos hs] at r
    unfold Config.Sized at hs
    have m1 := mul_bd (a := c.fan - 1) (b := 1 + c.key) (m := 63) (n := 65) (by omega) (by omega)
    have m2 := mul_bd (a := c.buffer) (b := 4 + c.key + c.val) (m := 512) (n := 324) (by omega) (by omega)
    refine L rfl (mul64 (by omega) (add64 (by omega) (L rfl (sub64 (by omega) (L rfl (add64 (by omega) (mul64 (by omega) (add64 (by omega) ?_))))))))
    refine L rfl (L rfl (add64 (by omega) (L rfl (add64 (by omega) (mul64 (by omega) (add64 (by omega) ?_))))))
    exact r
theorem c_conf_Outer (r : ∀ h', Ext h h' → K (int c.outer) h') : Ca f_conf_Outer #[c.v] h K := by
  refine m_conf_Outer_ok (bxa (cs := c.cs) fun b h1 e1 hb k _ => ?_)
  refine (LdA_b k rfl).2 (c_conf_sized (c := c) fun h2 e2 => ?_)
  have k2 := k.ext e2
  have r := r h2 (e1.trans e2)
  have L : ∀ {i : Nat} {v : Value} {R : Value → Prop}, c.cs[i]? = some v → R v → Fv i (ptr b 0) h2 R := fun hi hr => fv (by rw [k2.get, Nat.zero_add]; exact hi) hr
  unfold Config.outer at r
  rw [UnP_not]
  refine cd (fun hs => ?_) (fun hs => ?_)
  · rw [if_neg (by simpa using hs)] at r; exact r
  · have hs : c.Sized := by simpa using hs
    rw [if_pos hs] at r
    unfold Config.Sized at hs
    have m1 := mul_bd (a := c.leaf) (b := 3 + c.key + c.val) (m := 1024) (n := 323) (by omega) (by omega)
    exact L rfl (L rfl (add64 (by omega) (L rfl (add64 (by omega) (mul64 (by omega) (add64 (by omega) r))))))
theorem c_conf_Move (r : ∀ h', Ext h h' → K (int c.move) h') : Ca f_conf_Move #[c.v] h K := by
  refine m_conf_Move_ok (bxa (cs := c.cs) fun b h1 e1 hb k _ => ?_)
  refine (LdA_b k rfl).2 (c_conf_sized (c := c) fun h2 e2 => ?_)
  have k2 := k.ext e2
  have r := r h2 (e1.trans e2)
  have L : ∀ {i : Nat} {v : Value} {R : Value → Prop}, c.cs[i]? = some v → R v → Fv i (ptr b 0) h2 R := fun hi hr => fv (by rw [k2.get, Nat.zero_add]; exact hi) hr
  unfold Config.move at r
  rw [UnP_not]
  refine cd (fun hs => ?_) (fun hs => ?_)
  · rw [if_neg (by simpa using hs)] at r; exact r
  · have hs : c.Sized := by simpa using hs
    rw [if_pos hs] at r
    unfold Config.Sized at hs
    have hd : (c.buffer + 2 * c.fan - 1).tdiv (2 * c.fan) = (c.buffer + 2 * c.fan - 1) / (2 * c.fan) := Int.tdiv_eq_ediv_of_nonneg (by omega)
    have hb1 : 0 ≤ (c.buffer + 2 * c.fan - 1) / (2 * c.fan) := Int.ediv_nonneg (by omega) (by omega)
    have hb2 : (c.buffer + 2 * c.fan - 1) / (2 * c.fan) ≤ c.buffer + 2 * c.fan - 1 := Int.ediv_le_self _ (by omega)
    refine L rfl (L rfl (mul64 (by omega) (add64 (by omega) (sub64 (by omega) (L rfl (mul64 (by omega) (quo64 (by omega) (by rw [hd]; omega) ?_)))))))
    rw [hd]; exact r
end
end Go.Sg
/-! Contracts of conf: Least, Check. -/
namespace Go.Sg
open Go Vc
section
variable {h : Heap} {K : Value → Prop} {X : XS} {b : Nat} {cs : List Value}
theorem LaX_b {n : Nat} (k : Blk h b cs) (hn : cs.length = n) (hX : ∀ o, X b o) (r : K (.agg cs.toArray)) : LaX X n (ptr b 0) h K :=
  ⟨b, 0, cs, rfl, hn, fun j v e => ⟨hX _, by rw [k.get]; simpa using e⟩, r⟩
theorem LdX_b {o : Nat} {v : Value} (k : Blk h b cs) (hv : cs[o]? = some v) (hX : ∀ o, X b o) (r : K v) : LdX X (ptr b o) h K :=
  ⟨b, o, v, rfl, hX _, by rw [k.get]; exact hv, r⟩
theorem agr_b {M : Nat → Prop} {h' : Heap} (e : Ex M h h') (hb : b < h.size) (hm : ¬ M b) : Agr (fun b' _ => b' = b) h h' := by
  rintro x o rfl
  exact hget_eq (e.eq _ hb hm) o
end
section
variable {h : Heap} {K : Kt} {c : Config} {ts : Array TypeId} {t : TypeId}
theorem max_int3 {k} {a b d : Int} (r : K (.int k (max (max a b) d)) h) : VH Pg (Builtin.max_ ts t #[.int k a, .int k b, .int k d]) h K := by
  refine vh_pure (fun w _ => ?_) r
  have e1 : (if b > a then b else a) = max a b := by omega
  have e2 : (if d > max a b then d else max a b) = max (max a b) d := by omega
  simp [Builtin.max_, Builtin.max2, e1, e2]
def Config.leastBytes (c : Config) : Int := max (max 64 c.inner) c.outer
def Config.least (c : Config) : Config := if c.Sized then { c with bytes := c.leastBytes } else c
theorem c_conf_Least (r : ∀ h', Ext h h' → K c.least.v h') : Ca f_conf_Least #[c.v] h K := by
  refine m_conf_Least_ok (bxa (cs := c.cs) fun b h1 e1 hb k _ => ?_)
  refine ala fun b2 h2 e2 hb2 k2 _ => ?_
  have k := k.ext e2
  have e12 := e1.trans e2
  refine (LdA_b k rfl).2 (c_conf_sized (c := c) fun h3 e3 => ?_)
  have k := k.ext e3
  have k2 := k2.ext e3
  have e13 := e12.trans e3
  have fin : ∀ (h5 : Heap) (d : Config), d = c.least → Blk h5 b d.cs → (∃ z, Blk h5 b2 z ∧ z.length = 8) → Ext h h5 → m_conf_Least_j20 (ptr b 0) (ptr b2 0) h5 K := by
    intro h5 d hd kd ⟨z, kz, hz⟩ e5
    unfold m_conf_Least_j20
    refine (LdA_b kd rfl).2 ?_
    refine StA_b (vs := d.cs) kz hz rfl rfl fun h6 _ e6 k6 => ?_
    refine (LdA_b k6 rfl).2 ?_
    subst hd
    exact r h6 (e5.andThen e6 fun x hx => by have := e1.le; omega)
  refine cdp (fun hs => ?_) (fun hs => ?_)
  · refine ⟨fun b' _ => b' = b, ?_⟩
    refine LaX_b k rfl (fun _ => rfl) (LaX_b k rfl (fun _ => rfl) ?_)
    refine c_conf_Inner (c := c) fun h4 e4 => ⟨agr_b e4 k.lt (fun x => x), ?_⟩
    refine c_conf_Outer (c := c) fun h5 e5 => ⟨trivial, ?_⟩
    refine max_int3 ⟨trivial, ?_⟩
    rw [FaP_ptr]
    have e35 := e4.trans e5
    refine StP_b (k.ext e35) (by simp [Config.cs]) rfl fun h6 _ e6 k6 => ⟨trivial, ?_⟩
    refine fin h6 { c with bytes := c.leastBytes } (by unfold Config.least; rw [if_pos hs]) k6 ⟨_, (k2.ext e35).ex e6 (by omega), rfl⟩ ((e13.trans e35).andThen e6 fun x hx => by omega)
  · exact fin h3 c (by unfold Config.least; rw [if_neg hs]) k ⟨_, k2, rfl⟩ e13
/-- Are the settings right? -/
def Config.Right (c : Config) : Prop := c.Sized ∧ 5 ≤ c.blocks ∧ c.blocks ≤ 65536 ∧ 8 ≤ c.frames ∧ c.frames ≤ 64 ∧ c.bytes ≤ 65536 ∧ c.leastBytes ≤ c.bytes
instance (c : Config) : Decidable c.Right := by unfold Config.Right; infer_instance
theorem c_conf_Check (r : ∀ h', Ext h h' → K (int (if c.Right then 0 else 2)) h') : Ca f_conf_Check #[c.v] h K := by
  refine m_conf_Check_ok (bxa (cs := c.cs) fun b h1 e1 hb k _ => ?_)
  refine (LdA_b k rfl).2 (c_conf_sized (c := c) fun h2 e2 => ?_)
  have k := k.ext e2
  have e12 := e1.trans e2
  have no : ∀ h', Ext h h' → ¬ c.Right → m_conf_Check_j53 (.bool true) h' K := fun h' e hn => by
    have r := r h' e; rw [if_neg hn] at r; exact r
  have L : ∀ {i : Nat} {v : Value} {R : Value → Prop}, c.cs[i]? = some v → R v → Fv i (ptr b 0) h2 R := fun hi hr => fv (by rw [k.get, Nat.zero_add]; exact hi) hr
  have j33 : ∀ (x : Bool), (x = false → ¬ c.Right) → (x = true → c.Sized ∧ 5 ≤ c.blocks ∧ c.blocks ≤ 65536 ∧ 8 ≤ c.frames ∧ c.frames ≤ 64) → m_conf_Check_j33 (ptr b 0) (.bool x) h2 K := by
    intro x hx1 hx2
    unfold m_conf_Check_j33
    refine ⟨fun b' _ => b' = b, ?_⟩
    rw [UnP_not]
    refine cd (fun hx => no _ e12 (hx1 (by simpa using hx))) fun hx => ?_
    have hq := hx2 (by simpa using hx)
    rw [FaP_ptr]
    refine LdX_b k rfl (fun _ => rfl) ?_
    rw [BiP_gtr]
    refine cdp (fun hb => no _ e12 fun s => by have := s.2.2.2.2.2.1; omega) fun hb => ?_
    rw [FaP_ptr]
    refine LdX_b k rfl (fun _ => rfl) (LaX_b k rfl (fun _ => rfl) ?_)
    refine c_conf_Least (c := c) fun h3 e3 => ⟨agr_b e3 k.lt (fun x => x), ?_⟩
    refine ⟨c.least.cs.toArray, int c.least.bytes, rfl, rfl, ?_⟩
    show BiP .lss (int c.bytes) (int c.least.bytes) _
    rw [BiP_lss]
    have hlb : c.least.bytes = c.leastBytes := by unfold Config.least; rw [if_pos hq.1]
    rw [hlb]
    unfold m_conf_Check_j53
    have r := r h3 (e12.trans e3)
    refine cdp (fun hlt => ?_) (fun hge => ?_)
    · have hr : ¬ c.Right := fun s => by have := s.2.2.2.2.2.2; omega
      rw [if_neg hr] at r; exact r
    · have hr : c.Right := ⟨hq.1, hq.2.1, hq.2.2.1, hq.2.2.2.1, hq.2.2.2.2, by omega, by omega⟩
      rw [if_pos hr] at r; exact r
  refine cdp (fun hs => ?_) (fun hs => j33 false (fun _ s => hs s.1) (fun h => by cases h))
  refine L rfl ?_
  rw [BiP_geq]
  refine cdp (fun h1 => ?_) (fun h1 => j33 false (fun _ s => h1 s.2.1) (fun h => by cases h))
  refine L rfl ?_
  rw [BiP_leq]
  refine cdp (fun h2 => ?_) (fun h2 => j33 false (fun _ s => h2 s.2.2.1) (fun h => by cases h))
  refine L rfl ?_
  rw [BiP_geq]
  refine cdp (fun h3 => ?_) (fun h3 => j33 false (fun _ s => h3 s.2.2.2.1) (fun h => by cases h))
  refine L rfl ?_
  rw [BiP_leq]
  exact j33 _ (fun h s => by have := of_decide_eq_false h; exact this s.2.2.2.2.1) (fun h => ⟨hs, h1, h2, h3, of_decide_eq_true h⟩)
end
end Go.Sg
/-! Contracts of node. -/
namespace Go.Sg
open Go Vc
structure Node where
  level : Int
  kids : List U32
  pivots : List Str
  buf : List Msg
  pairs : List Pair
deriving DecidableEq
section
variable {h : Heap} {K : Kt} {c : Config}
def keyOk (c : Config) (k : Str) : Bool := decide (1 ≤ k.length) && decide ((k.length : Int) ≤ c.key)
theorem c_node_Key {k : Str} (r : ∀ h', Ext h h' → K (.bool (keyOk c k)) h') : Ca f_node_Key #[c.v, str k] h K := by
  refine m_node_Key_ok (bxa (cs := c.cs) fun b h1 e1 hb k1 _ => ?_)
  have r := r h1 e1
  unfold keyOk at r
  rw [LenP_str, BiP_geq]
  refine cdp (fun h1 => ?_) (fun h1 => ?_)
  · rw [LenP_str]
    refine fv (by rw [k1.get]; rfl) ?_
    rw [BiP_leq]
    rw [decide_eq_true (by omega : 1 ≤ k.length), Bool.true_and] at r
    exact r
  · rw [decide_eq_false (by omega : ¬ 1 ≤ k.length), Bool.false_and] at r
    exact r
/-- A node lies at a value. -/
structure Nd (U : Nat → Prop) (h : Heap) (v : Value) (n : Node) : Prop where
  out : ∃ k p b l, v = .agg #[int n.level, k, p, b, l] ∧ Sl U h k n.kids ∧ Sl U h p n.pivots ∧ Sl U h b n.buf ∧ Sl U h l n.pairs
theorem Nd.keep {U M : Nat → Prop} {h h' : Heap} {v : Value} {n : Node} (d : Nd U h v n) (e : Ex M h h') (hm : ∀ b, M b → U b) : Nd U h' v n := by
  obtain ⟨k, p, b, l, h0, h1, h2, h3, h4⟩ := d.out
  exact ⟨k, p, b, l, h0, h1.keep e hm, h2.keep e hm, h3.keep e hm, h4.keep e hm⟩
theorem Nd.ext {U : Nat → Prop} {h h' : Heap} {v : Value} {n : Node} (d : Nd U h v n) (e : Ext h h') : Nd U h' v n := d.keep e fun _ x => x.elim
end
end Go.Sg
/-! Contracts of node: outer. -/
namespace Go.Sg
open Go Vc
theorem cvhc {f : FuncId} {args cap : Array Value} {h : Heap} {K : Kt} (hb : hasBody Pg f = true) (r : Ca f (args ++ cap) h K) : CvH Pg (.func (.func f) #[] cap) args h K := ⟨f, cap, rfl, hb, r⟩
section
variable {h : Heap} {K : Kt} {U : Nat → Prop} {x fv : Value}
theorem ge_any {i : Int} {b : Bool} (hi : 0 ≤ i ↔ b = true) : decide (0 ≤ i) = b := by
  by_cases h0 : 0 ≤ i
  · rw [decide_eq_true h0, hi.1 h0]
  · rw [decide_eq_false h0]; cases hq : b with
    | false => rfl
    | true => exact absurd (hi.2 hq) h0
theorem c_ContainsFunc_Pair {l : List Pair} {p : Pair → Bool} (hc : Tst h fv Pair.v p) (s : Sl U h x l) (hl : l.length ≤ 2 ^ 40) (r : ∀ h', Ext h h' → K (.bool (l.any p)) h') : Ca f_slices_ContainsFunc_api_Pair #[x, fv] h K :=
  m_slices_ContainsFunc_api_Pair_ok (m_slices_IndexFunc_api_Pair_ok (index_gen (K := fun x2 h1 => BiP .geq x2 (.int .i64 0) fun x3 => K x3 h1) (E := Ea 2) (ev := Pair.v) (p := p) (l := l) (fun h' i a R s h0 ha r => Sl.ea s h0 ha r) hc s hl fun i h' e hi => by
    rw [BiP_geq, ge_any hi]; exact r h' e))
theorem c_ContainsFunc_Msg {l : List Msg} {p : Msg → Bool} (hc : Tst h fv Msg.v p) (s : Sl U h x l) (hl : l.length ≤ 2 ^ 40) (r : ∀ h', Ext h h' → K (.bool (l.any p)) h') : Ca f_slices_ContainsFunc_api_Msg #[x, fv] h K :=
  m_slices_ContainsFunc_api_Msg_ok (m_slices_IndexFunc_api_Msg_ok (index_gen (K := fun x2 h1 => BiP .geq x2 (.int .i64 0) fun x3 => K x3 h1) (E := Ea 3) (ev := Msg.v) (p := p) (l := l) (fun h' i a R s h0 ha r => Sl.ea s h0 ha r) hc s hl fun i h' e hi => by
    rw [BiP_geq, ge_any hi]; exact r h' e))
theorem c_ContainsFunc_str {l : List Str} {p : Str → Bool} (hc : Tst h fv str p) (s : Sl U h x l) (hl : l.length ≤ 2 ^ 40) (r : ∀ h', Ext h h' → K (.bool (l.any p)) h') : Ca f_slices_ContainsFunc_string #[x, fv] h K :=
  m_slices_ContainsFunc_string_ok (m_slices_IndexFunc_string_ok (index_gen (K := fun x2 h1 => BiP .geq x2 (.int .i64 0) fun x3 => K x3 h1) (E := Ei 1) (ev := str) (p := p) (l := l) (fun h' i a R s h0 ha r => Sl.ei s h0 ha rfl r) hc s hl fun i h' e hi => by
    rw [BiP_geq, ge_any hi]; exact r h' e))
/-- Is a pair none of a leaf of these settings and this span? -/
def badPair (c : Config) (s : Span) (p : Pair) : Bool := !keyOk c p.key || !inSpan s p.key || decide ((p.val.length : Int) > c.val)
theorem tst_pair {c : Config} {s : Span} {b1 b2 : Nat} (k1 : Blk h b1 c.cs) (k2 : Blk h b2 s.cs) : Tst h (.func (.func f_node_outer_1) #[] #[ptr b1 0, ptr b2 0]) Pair.v (badPair c s) := by
  intro p h0 R e0 r
  refine cvhc (by kernel_rfl) ?_
  show Ca f_node_outer_1 #[p.v, ptr b1 0, ptr b2 0] h0 R
  refine m_node_outer_1_ok (bxa (cs := [str p.key, str p.val]) fun b h1 e1 hb k _ => ?_)
  have e01 := e0.trans e1
  refine (LdA_b (k1.ext e01) rfl).2 ?_
  refine fv (by rw [k.get]; rfl) ?_
  refine c_node_Key (c := c) fun h2 e2 => ?_
  have e02 := e01.trans e2
  rw [UnP_not]
  unfold badPair at r
  refine cd (fun h => ?_) (fun h => ?_)
  · have r := r h2 (e1.trans e2)
    rw [h] at r; exact r
  · have hk : keyOk c p.key = true := by simpa using h
    refine (LdA_b (k2.ext e02) rfl).2 ?_
    refine fv (by rw [(k.ext e2).get]; rfl) ?_
    refine c_lex_In (s := s) fun h3 e3 => ?_
    have e03 := e02.trans e3
    have e13 := (e1.trans e2).trans e3
    rw [UnP_not]
    refine cd (fun h => ?_) (fun h => ?_)
    · have r := r h3 e13
      rw [hk, h] at r; exact r
    · refine fv (by rw [((k.ext e2).ext e3).get]; rfl) ?_
      rw [LenP_str]
      refine fv (by rw [(k1.ext e03).get]; rfl) ?_
      rw [BiP_gtr]
      have r := r h3 e13
      rw [hk, h] at r
      unfold m_node_outer_1_j27
      simpa using r
/-- Is a leaf right? -/
def outerOk (c : Config) (s : Span) (n : Node) : Bool :=
  decide (n.kids.length + n.pivots.length + n.buf.length = 0) && decide ((n.pairs.length : Int) ≤ c.leaf) && rises Pair.key n.pairs && !n.pairs.any (badPair c s)
/-- A node is of a size that may be reckoned with. -/
def Node.fits (n : Node) : Prop := n.kids.length ≤ 2 ^ 38 ∧ n.pivots.length ≤ 2 ^ 38 ∧ n.buf.length ≤ 2 ^ 38 ∧ n.pairs.length ≤ 2 ^ 38
theorem c_node_outer {c : Config} {s : Span} {n : Node} {v : Value} (d : Nd U h v n) (hf : n.fits) (r : ∀ h', Ext h h' → K (.bool (outerOk c s n)) h') : Ca f_node_outer #[c.v, s.v, v] h K := by
  obtain ⟨vk, vp, vb, vl, rfl, q1, q2, q3, q4⟩ := d.out
  obtain ⟨f1, f2, f3, f4⟩ := hf
  refine m_node_outer_ok (bxa (cs := c.cs) fun b1 h1 e1 hb1 k1 s1 => bxa (cs := s.cs) fun b2 h2 e2 hb2 k2 s2 => bxa (cs := [int n.level, vk, vp, vb, vl]) fun b3 h3 e3 hb3 k3 s3 => ?_)
  have e13 := (e1.trans e2).trans e3
  have k1 := (k1.ext e2).ext e3
  have k2 := k2.ext e3
  have L : ∀ {i : Nat} {v : Value} {R : Value → Prop}, [int n.level, vk, vp, vb, vl][i]? = some v → R v → Fv i (ptr b3 0) h3 R := fun hi hr => fv (by rw [k3.get, Nat.zero_add]; exact hi) hr
  unfold outerOk at r
  refine L rfl (q1.len (L rfl (q2.len (add64 (by omega) (L rfl (q3.len (add64 (by omega) ?_)))))))
  have no : ∀ h', Ext h h' → (decide (n.kids.length + n.pivots.length + n.buf.length = 0) && decide ((n.pairs.length : Int) ≤ c.leaf) && rises Pair.key n.pairs) = false → m_node_outer_j37 (ptr b1 0) (ptr b2 0) (ptr b3 0) (.bool true) h' K := by
    intro h' e hn
    have r := r h' e
    rw [hn] at r; exact r
  rw [BiP_gtr]
  refine cdp (fun h0 => ?_) (fun h0 => ?_)
  · exact no _ e13 (by rw [decide_eq_false (by omega)]; rfl)
  · refine L rfl (q4.len (fv (by rw [k1.get]; rfl) ?_))
    rw [BiP_gtr]
    have t1 : decide (n.kids.length + n.pivots.length + n.buf.length = 0) = true := decide_eq_true (by omega)
    refine cdp (fun h1 => ?_) (fun h1 => ?_)
    · exact no _ e13 (by rw [t1, decide_eq_false (by omega)]; rfl)
    · have t2 : decide ((n.pairs.length : Int) ≤ c.leaf) = true := decide_eq_true (by omega)
      refine L rfl (c_leaf_Right (q4.ext e13) (by omega) fun h4 e4 => ?_)
      have e14 := e13.trans e4
      rw [UnP_not]
      cases hr : rises Pair.key n.pairs with
      | false => exact no _ e14 (by rw [t1, t2, hr]; rfl)
      | true =>
        unfold m_node_outer_j37
        rw [Bool.not_true, CdP_false]
        unfold m_node_outer_j38
        refine fv (by rw [(k3.ext e4).get]; rfl) ?_
        refine c_ContainsFunc_Pair (tst_pair (k1.ext e4) (k2.ext e4)) (q4.ext e14) (by omega) fun h5 e5 => ?_
        rw [UnP_not]
        have r := r h5 (e14.trans e5)
        rw [t1, t2, hr] at r
        simpa using r
end
end Go.Sg
/-! Contracts of fan: Right. -/
namespace Go.Sg
open Go Vc
section
variable {h : Heap} {K : Kt} {U : Nat → Prop} {x : Value}
/-- May a pivot stand in a span? -/
def pivOk (s : Span) (q : Str) : Bool := inSpan s q && decide (q ≠ s.lo)
def fanOk (p : List Str) (s : Span) : Bool := p.all (pivOk s) && rises id p
theorem c_fan_Right {p : List Str} {s : Span} (sp : Sl U h x p) (hl : p.length ≤ 2 ^ 40) (r : ∀ h', Ext h h' → K (.bool (fanOk p s)) h') : Ca f_fan_Right #[x, s.v] h K := by
  refine m_fan_Right_ok (bxa (cs := s.cs) fun b h1 e1 hb k1 _ => ?_)
  refine sp.len ?_
  have bad : ∀ h', Ext h h' → fanOk p s = false → K (.bool false) h' := fun h' e hf => by have := r h' e; rwa [hf] at this
  refine lop (σ := Nat) (fun i => [.bool false, int i]) (fun i h' => Ext h1 h' ∧ i ≤ p.length ∧ (∀ j q, j < i → p[j]? = some q → pivOk s q = true) ∧ (∀ j a c, j + 1 < i → p[j]? = some a → p[j + 1]? = some c → a < c)) (fun i => p.length - i) 0 rfl
    ⟨Ex.refl _ _, Nat.zero_le _, fun _ _ h => by omega, fun _ _ _ h => by omega⟩ ?_
  rintro i h2 N ⟨e2, hi, ha, hb2⟩ hN
  have e12 := e1.trans e2
  simp only [m_fan_Right_l5, gv_zero, gv_succ]
  rw [BiP_lss]
  refine cdp (fun hlt => ?_) (fun hge => ?_)
  · have g1 : p[i]? = some p[i] := List.getElem?_eq_getElem (by omega)
    have next : ∀ h', Ext h1 h' → pivOk s p[i] = true → (∀ a, 0 < i → p[i - 1]? = some a → a < p[i]) → m_fan_Right_j35 x (ptr b 0) (.bool false) x (int p.length) (int i) h' N K := by
      intro h' e' hp hq
      unfold m_fan_Right_j35
      refine add64 (by omega) ?_
      refine hN (i + 1) h' ⟨e', by omega, fun j q hj hjq => ?_, fun j a c hj hja hjc => ?_⟩ (by omega)
      · by_cases hji : j = i
        · subst hji; rw [g1] at hjq; cases hjq; exact hp
        · exact ha j q (by omega) hjq
      · by_cases hji : j + 1 = i
        · subst hji
          rw [g1] at hjc; cases hjc
          exact hq a (by omega) (by simpa using hja)
        · exact hb2 j a c (by omega) hja hjc
    have nope : pivOk s p[i] = false → fanOk p s = false := fun hp => by
      unfold fanOk
      have : p.all (pivOk s) = false := by
        rw [List.all_eq_false]; exact ⟨p[i], List.getElem_mem _, by rw [hp]; simp⟩
      rw [this]; rfl
    refine (sp.ext e12).ei (by omega) (by rw [Int.toNat_natCast]; exact g1) rfl ?_
    refine (LdA_b (k1.ext e2) rfl).2 ?_
    refine c_lex_In (s := s) fun h3 e3 => ?_
    have e13 := e2.trans e3
    rw [UnP_not]
    refine cd (fun hin => ?_) (fun hin => ?_)
    · refine ⟨trivial, trivial, trivial, trivial, trivial, trivial, trivial, trivial, ?_⟩
      exact bad _ (e1.trans e13) (nope (by unfold pivOk; have : inSpan s p[i] = false := by simpa using hin
                                           rw [this]; rfl))
    · have hin : inSpan s p[i] = true := by simpa using hin
      refine fv (by rw [(k1.ext e13).get]; rfl) ?_
      rw [BiP_seql]
      refine cdp (fun heq => ?_) (fun hne => ?_)
      · refine ⟨trivial, trivial, trivial, trivial, trivial, trivial, trivial, trivial, ?_⟩
        exact bad _ (e1.trans e13) (nope (by unfold pivOk; rw [hin, decide_eq_false (by simpa using heq)]; rfl))
      · have hp : pivOk s p[i] = true := by unfold pivOk; rw [hin, decide_eq_true hne]; rfl
        rw [BiP_gtr]
        refine cdp (fun hpos => ?_) (fun hz => ?_)
        · refine sub64 (by omega) ?_
          have g0 : p[i - 1]? = some p[i - 1] := List.getElem?_eq_getElem (by omega)
          refine (sp.ext (e1.trans e13)).ei (by omega) (by rw [show ((i : Int) - 1).toNat = i - 1 from by omega]; exact g0) rfl ?_
          refine c_lex_Compare ?_
          rw [BiP_geq]
          unfold m_fan_Right_j34
          refine cdp (fun hc => ?_) (fun hc => ?_)
          · refine bad _ (e1.trans e13) ?_
            have : rises id p = false := by
              cases hr : rises id p with
              | false => rfl
              | true =>
                have := rises_get.1 hr (i - 1) _ _ g0 (by rw [show i - 1 + 1 = i from by omega]; exact g1)
                have := cmp_lt.2 this; simp only [id] at this; omega
            unfold fanOk; rw [this, Bool.and_false]
          · refine next h3 e13 hp fun a _ hga => ?_
            rw [g0] at hga; cases hga
            exact cmp_lt.1 (by omega)
        · unfold m_fan_Right_j34
          rw [CdP_false]
          exact next h3 e13 hp fun a h0 _ => by omega
  · unfold m_fan_Right_j37
    have h1' : p.all (pivOk s) = true := by
      rw [List.all_eq_true]; intro q hq
      obtain ⟨j, hj⟩ := List.getElem?_of_mem hq
      exact ha j q (by have := (List.getElem?_eq_some_iff.1 hj).1; omega) hj
    have h2' : rises id p = true := rises_get.2 fun j a c hja hjc => hb2 j a c (by have := (List.getElem?_eq_some_iff.1 hjc).1; omega) hja hjc
    have := r h2 e12
    unfold fanOk at this
    rw [h1', h2'] at this
    exact this
end
end Go.Sg
