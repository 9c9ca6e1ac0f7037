/-
  Part 21 of a proof: own texts, merged by program.
-/
import Derived.Test.YtoahnccffedojaaGreatDoorP19
import Derived.Test.YtoahnccffedojaaGreatDoorP20
set_option linter.unusedVariables false
set_option linter.unusedSimpArgs false
/-! Contracts of code: writing. -/
namespace Go.Sg
open Go Vc
def padOf (s : Str) (n : Nat) : Str := s ++ List.replicate (n - s.length) 0
def pairOf (c : Config) (key val : Str) : List UInt8 := bytesOf 1 key.length ++ bytesOf 2 val.length ++ padOf key c.key.toNat ++ padOf val c.val.toNat
def frontOf (kind level count buf : Nat) : List UInt8 := bytesOf 1 kind ++ bytesOf 1 level ++ bytesOf 2 count ++ bytesOf 2 buf ++ bytesOf 2 0
def outerOf (c : Config) (n : Node) : List UInt8 := frontOf 1 0 n.pairs.length 0 ++ n.pairs.flatMap fun p => pairOf c p.key p.val
section
variable {h : Heap} {K : Kt} {v : Value} {l : List UInt8} {c : Config}
theorem c_code_num {w x : Nat} (o : Ow 0 t_uint8 h v l) (hw : w = 1 ∨ w = 2 ∨ w = 4 ∨ w = 8) (hx : x < 2 ^ 64) (hl : l.length ≤ 2 ^ 39) (r : ∀ v' h', Ow 0 t_uint8 h' v' (l ++ bytesOf w x) → Bld h v h' v' → K v' h') :
    Ca f_code_num #[v, int w, .int .u64 x] h K := by
  refine m_code_num_ok (c_word_Put (Sl.nil No h) hw hx (by simp) fun y h1 o1 e1 => ?_)
  rw [List.nil_append] at o1
  refine bld_app (o.ext e1) (o1.sl (U := No) fun _ _ h => h) (by rw [bytesOf_length]; omega) fun v' h2 o2 b2 => ?_
  exact r v' h2 o2 ((Bld.ext e1).trans b2)
theorem c_code_text {s : Str} {n : Nat} (o : Ow 0 t_uint8 h v l) (hs : s.length ≤ n) (hn : n ≤ 2 ^ 30) (hl : l.length ≤ 2 ^ 39) (r : ∀ v' h', Ow 0 t_uint8 h' v' (l ++ padOf s n) → Bld h v h' v' → K v' h') :
    Ca f_code_text #[v, str s, int n] h K := by
  refine m_code_text_ok (bld_str o (by omega) fun v1 h1 o1 b1 => ?_)
  rw [LenP_str]
  refine sub64 (by omega) ?_
  have e : (n : Int) - (s.length : Int) = ((n - s.length : Nat) : Int) := by omega
  rw [e]
  refine bld_zer o1 (by simp; omega) fun v2 h2 o2 b2 => ?_
  rw [List.append_assoc] at o2
  exact r v2 h2 o2 (b1.trans b2)
theorem c_code_pair {key val : Str} (o : Ow 0 t_uint8 h v l) (hc : c.Sized) (hk : (key.length : Int) ≤ c.key) (hv : (val.length : Int) ≤ c.val) (hl : l.length ≤ 2 ^ 38) (r : ∀ v' h', Ow 0 t_uint8 h' v' (l ++ pairOf c key val) → Bld h v h' v' → K v' h') :
    Ca f_code_pair #[c.v, v, str key, str val] h K := by
  unfold Config.Sized at hc
  have hob : ∀ b, v.ownBlock = some b → b < h.size := fun b hb => by
    rcases o with ⟨q, _⟩ | ⟨g, cap, cur, q1, q2, q3, q4⟩
    · rw [q] at hb; cases hb
    · rw [q1] at hb; cases hb; exact (Array.getElem?_eq_some_iff.1 q3).1
  refine m_code_pair_ok (bxa (cs := c.cs) fun b h1 e1 hb k1 _ => ?_)
  have hvb : v.ownBlock ≠ some b := fun he => by have := hob b he; omega
  rw [LenP_str, CvP_int, wrapU rfl (by omega) (by show _ < (2 : Int) ^ 64; omega)]
  refine c_code_num (w := 1) (o.ext e1) (.inl rfl) (by omega) (by omega) fun v2 h2 o2 b2 => ?_
  rw [LenP_str, CvP_int, wrapU rfl (by omega) (by show _ < (2 : Int) ^ 64; omega)]
  refine c_code_num (w := 2) o2 (.inr (.inl rfl)) (by omega) (by simp [bytesOf_length]; omega) fun v3 h3 o3 b3 => ?_
  have b13 := b2.trans b3
  have k3 := b13.blk k1 hvb
  refine ⟨fun b' _ => b' = b, ?_⟩
  rw [FaP_ptr]
  refine LdX_b (v := int c.key) k3 rfl (fun _ => rfl) ?_
  rw [FaP_ptr]
  refine LdX_b (v := int c.val) k3 rfl (fun _ => rfl) ?_
  have ek : c.key = (c.key.toNat : Int) := by omega
  have ev : c.val = (c.val.toNat : Int) := by omega
  rw [ek, ev]
  refine c_code_text o3 (by omega) (by omega) (by simp [bytesOf_length]; omega) fun v4 h4 o4 b4 => ⟨?_, ?_⟩
  · have hv3 := b13.ne (b := b) (by have := k1.lt; exact this) hvb
    exact agr_b b4.ex k3.lt hv3
  refine c_code_text o4 (by omega) (by omega) (by simp [bytesOf_length, padOf]; omega) fun v5 h5 o5 b5 => ⟨trivial, ?_⟩
  refine r v5 h5 ?_ (((Bld.ext e1).trans b13).trans (b4.trans b5))
  have : l ++ bytesOf 1 key.length ++ bytesOf 2 val.length ++ padOf key c.key.toNat ++ padOf val c.val.toNat = l ++ pairOf c key val := by simp [pairOf, List.append_assoc]
  rw [this] at o5; exact o5
theorem c_code_front {a b d e : Nat} (ha : a < 256) (hb : b < 2 ^ 60) (hd : d < 2 ^ 60) (he : e < 2 ^ 60) (r : ∀ v' h', Ow 0 t_uint8 h' v' (frontOf a b d e) → Bld h (.slice none 0 0) h' v' → K v' h') :
    Ca f_code_front #[int a, int b, int d, int e] h K := by
  refine m_code_front_ok ?_
  unfold m_code_front
  rw [CvP_int, wrapU rfl (by omega) (by show _ < (2 : Int) ^ 64; omega)]
  refine c_code_num (w := 1) (Ow.nil 0 t_uint8 h) (.inl rfl) (by omega) (by simp) fun v1 h1 o1 b1 => ?_
  rw [CvP_int, wrapU rfl (by omega) (by show _ < (2 : Int) ^ 64; omega)]
  refine c_code_num (w := 1) o1 (.inl rfl) (by omega) (by simp [bytesOf_length]) fun v2 h2 o2 b2 => ?_
  rw [CvP_int, wrapU rfl (by omega) (by show _ < (2 : Int) ^ 64; omega)]
  refine c_code_num (w := 2) o2 (.inr (.inl rfl)) (by omega) (by simp [bytesOf_length]) fun v3 h3 o3 b3 => ?_
  rw [CvP_int, wrapU rfl (by omega) (by show _ < (2 : Int) ^ 64; omega)]
  refine c_code_num (w := 2) o3 (.inr (.inl rfl)) (by omega) (by simp [bytesOf_length]) fun v4 h4 o4 b4 => ?_
  refine c_code_num (w := 2) (x := 0) o4 (.inr (.inl rfl)) (by omega) (by simp [bytesOf_length]) fun v5 h5 o5 b5 => ?_
  exact r v5 h5 (by simpa [frontOf] using o5) ((((b1.trans b2).trans b3).trans b4).trans b5)
theorem pair_len (hc : c.Sized) {k v : Str} (hk : (k.length : Int) ≤ c.key) (hv : (v.length : Int) ≤ c.val) : (pairOf c k v).length = 3 + c.key.toNat + c.val.toNat := by
  unfold Config.Sized at hc
  simp [pairOf, padOf, bytesOf_length]; omega
theorem pairs_len (hc : c.Sized) : ∀ (l : List Pair), (∀ p ∈ l, (p.key.length : Int) ≤ c.key ∧ (p.val.length : Int) ≤ c.val) → (l.flatMap fun p => pairOf c p.key p.val).length = l.length * (3 + c.key.toNat + c.val.toNat)
  | [], _ => by simp
  | p :: l, h => by
    rw [List.flatMap_cons, List.length_append, pairs_len hc l (fun q hq => h q (by simp [hq])), pair_len hc (h p (by simp)).1 (h p (by simp)).2, List.length_cons, Nat.add_mul]; omega
theorem c_code_writeOuter {U : Nat → Prop} {n : Node} {x : Value} (d : Nd U h x n) (hc : c.Sized) (hl : n.pairs.length ≤ 1024) (hp : ∀ p ∈ n.pairs, (p.key.length : Int) ≤ c.key ∧ (p.val.length : Int) ≤ c.val)
    (r : ∀ v' h', Ow h.size t_uint8 h' v' (outerOf c n) → Ext h h' → K v' h') : Ca f_code_writeOuter #[c.v, x] h K := by
  obtain ⟨vk, vp, vb, vl, rfl, q1, q2, q3, q4⟩ := d.out
  have hs := hc
  unfold Config.Sized at hs
  refine m_code_writeOuter_ok (bxa (cs := c.cs) fun b1 h1 e1 hb1 k1 _ => bxa (cs := [int n.level, vk, vp, vb, vl]) fun b2 h2 e2 hb2 k2 _ => ?_)
  have k1 := k1.ext e2
  have e12 := e1.trans e2
  refine fv (by rw [k2.get]; rfl) ((q4.ext e12).len ?_)
  refine c_code_front (a := 1) (b := 0) (d := n.pairs.length) (e := 0) (by omega) (by omega) (by omega) (by omega) fun v3 h3 o3 b3 => ?_
  have e3 : Ext h2 h3 := b3.new rfl
  have k1 := k1.ext e3
  have k2 := k2.ext e3
  have e13 := e12.trans e3
  have s3 := q4.ext e13
  refine fv (by rw [k2.get]; rfl) (s3.len ?_)
  refine lop (σ := Nat × Value) (fun p => [p.2, int p.1]) (fun p h' => p.1 ≤ n.pairs.length ∧ Ow 0 t_uint8 h' p.2 (frontOf 1 0 n.pairs.length 0 ++ (n.pairs.take p.1).flatMap fun p => pairOf c p.key p.val) ∧ Bld h3 v3 h' p.2) (fun p => n.pairs.length - p.1) (0, v3) rfl ⟨Nat.zero_le _, by simpa using o3, Bld.refl _ _⟩ ?_
  rintro ⟨i, v⟩ h4 N ⟨hi, o4, b4⟩ hN
  simp only at hi o4 b4
  simp only [m_code_writeOuter_l14, gv_zero, gv_succ]
  rw [BiP_lss]
  have hv3 : ∀ b, v3.ownBlock = some b → h2.size ≤ b := fun b hb => by
    rcases b3.at_ with h | ⟨c, h, hc⟩
    · rw [h] at hb; cases hb
    · rw [h] at hb; cases hb; exact hc
  have nb : ∀ b, b < h2.size → v3.ownBlock ≠ some b := fun b hb he => by have := hv3 b he; omega
  have e34 : Ex (fun b => h2.size ≤ b) h3 h4 := b4.ex.mono fun b _ hb => hv3 b hb
  have e24 : Ext h2 h4 := e3.own e34 (Nat.le_refl _)
  refine cdp (fun hlt => ?_) (fun hge => ?_)
  · have hlt : i < n.pairs.length := by omega
    have hp1 := hp n.pairs[i] (List.getElem_mem hlt)
    have s4 := (q4.ext e12).ext e24
    refine s4.ea (x := n.pairs[i]) (by omega) (by rw [Int.toNat_natCast]; exact List.getElem?_eq_getElem hlt) ?_
    refine alst (vs := El.enc n.pairs[i]) rfl rfl rfl fun b5 h5 e5 hb5 k5 _ => ?_
    have k14 := (b4.blk k1 (nb b1 (by have := e2.le; omega))).ext e5
    refine (LdA_b k14 rfl).2 ?_
    refine fv (by rw [k5.get]; rfl) (fv (by rw [k5.get]; rfl) ?_)
    have hlen : (frontOf 1 0 n.pairs.length 0 ++ (n.pairs.take i).flatMap fun p => pairOf c p.key p.val).length ≤ 2 ^ 38 := by
      rw [List.length_append, pairs_len hc _ (fun p hp' => hp p (List.mem_of_mem_take hp')), List.length_take]
      have : min i n.pairs.length * (3 + c.key.toNat + c.val.toNat) ≤ 1024 * 323 := Nat.mul_le_mul (by omega) (by omega)
      simp [frontOf, bytesOf_length]; omega
    refine c_code_pair (o4.ext e5) hc hp1.1 hp1.2 hlen fun v6 h6 o6 b6 => ?_
    refine add64 (by omega) ?_
    have := hN (i + 1, v6) h6 ⟨by show i + 1 ≤ _; omega, ?_, (b4.trans (Bld.ext e5)).trans b6⟩ (by simp only; omega)
    · simpa using this
    · rw [List.append_assoc] at o6
      have ht : (n.pairs.take i).flatMap (fun p => pairOf c p.key p.val) ++ pairOf c n.pairs[i].key n.pairs[i].val = (n.pairs.take (i + 1)).flatMap fun p => pairOf c p.key p.val := by
        have h1 : n.pairs.take (i + 1) = n.pairs.take i ++ [n.pairs[i]] := by rw [List.take_add_one, List.getElem?_eq_getElem hlt]; rfl
        rw [h1, List.flatMap_append]; simp
      rw [ht] at o6; exact o6
  · have hin : i = n.pairs.length := by omega
    subst hin
    rw [List.take_length] at o4
    unfold m_code_writeOuter_j31
    refine r v h4 ?_ (e12.trans e24)
    refine o4.anew fun b hb => ?_
    have := e12.le
    rcases b4.at_ with h | ⟨c, h, hc⟩
    · rw [h] at hb; have := hv3 b hb; omega
    · rw [h] at hb; cases hb; have := e3.le; omega
end
end Go.Sg
/-! Contracts of code: a leaf's block. -/
namespace Go.Sg
open Go Vc
theorem num_fold (v : Nat) : ∀ (w a : Nat), (bytesOf w v).foldl (fun v c => v * 256 + c.toNat) a = a * 256 ^ w + v % 256 ^ w
  | 0, a => by simp [bytesOf, Nat.mod_one]
  | w + 1, a => by
    rw [bytesOf, List.foldl_cons, num_fold v w]
    have h1 : (UInt8.ofNat (v / 256 ^ w)).toNat = v / 256 ^ w % 256 := by simp
    have h2 : v % 256 ^ (w + 1) = v % 256 ^ w + 256 ^ w * (v / 256 ^ w % 256) := by rw [Nat.pow_succ, Nat.mod_mul]
    rw [h1, h2, Nat.pow_succ, Nat.add_mul, Nat.mul_assoc, Nat.mul_comm (256 ^ w) 256, Nat.mul_comm (256 ^ w) (v / 256 ^ w % 256)]
    omega
theorem num_bytes {w v : Nat} (hv : v < 256 ^ w) : numOf (bytesOf w v) = v := by
  unfold numOf
  rw [num_fold, Nat.mod_eq_of_lt hv]; omega
theorem raw_app (a b : List UInt8) : rawOf (a ++ b) 0 a.length = (a, b, 0) := by
  unfold rawOf
  rw [if_neg (by simp), if_pos (by simp), List.take_left, List.drop_left]
theorem raw_bytes (w v : Nat) (b : List UInt8) : rawOf (bytesOf w v ++ b) 0 w = (bytesOf w v, b, 0) := by
  have := raw_app (bytesOf w v) b
  rwa [bytesOf_length] at this
theorem text_pad (s : Str) (n : Nat) (hn : s.length ≤ n) (b : List UInt8) : textOf (padOf s n ++ b) 0 s.length n = (s, b, 0) := by
  have hl : (padOf s n).length = n := by simp [padOf]; omega
  have hr := raw_app (padOf s n) b
  rw [hl] at hr
  unfold textOf
  rw [if_neg (by omega), hr]
  simp only
  rw [if_neg (by omega)]
  have hd : (padOf s n).drop s.length = List.replicate (n - s.length) 0 := by unfold padOf; rw [List.drop_left]
  have ht : (padOf s n).take s.length = s := by unfold padOf; rw [List.take_left]
  rw [hd, ht, if_neg]
  simp
theorem zeros_app (n : Nat) (b : List UInt8) : zerosOf (List.replicate n 0 ++ b) 0 n = (b, 0) := by
  have hr := raw_app (List.replicate n (0 : UInt8)) b
  rw [List.length_replicate] at hr
  unfold zerosOf
  rw [hr]
  simp only
  rw [if_neg]
  simp
section
variable {h : Heap} {K : Kt} {U : Nat → Prop} {x y : Value} {rb : Nat} {l : List UInt8} {c : Config} {n : Node}
theorem c_Equal_byte {m : List UInt8} (s : Sl U h x l) (s2 : Sl U h y m) (hl : l.length ≤ 2 ^ 40) (he : l = m) (r : K (.bool true) h) : Ca f_slices_Equal_byte #[x, y] h K := by
  subst he
  refine m_slices_Equal_byte_ok (s.len (s2.len ?_))
  rw [BiP_neq]
  refine cdp (fun h => absurd rfl h) fun _ => ?_
  refine s.len ?_
  refine lop (σ := Nat) (fun i => [.bool false, int i]) (fun i h' => h' = h ∧ i ≤ l.length) (fun i => l.length - i) 0 rfl ⟨rfl, Nat.zero_le _⟩ ?_
  rintro i h1 N ⟨rfl, hi⟩ hN
  simp only [m_slices_Equal_byte_l6, gv_zero, gv_succ]
  rw [BiP_lss]
  refine cdp (fun hlt => ?_) (fun hge => r)
  have hlt : i < l.length := by omega
  have hx := List.getElem?_eq_getElem hlt
  refine s.ei (x := l[i]) (by omega) (by rw [Int.toNat_natCast]; exact hx) rfl (s2.ei (x := l[i]) (by omega) (by rw [Int.toNat_natCast]; exact hx) rfl ?_)
  rw [BiP_neq]
  refine cdp (fun h => absurd rfl h) fun _ => ?_
  refine add64 (by omega) ?_
  have := hN (i + 1) h1 ⟨rfl, by omega⟩ (by omega)
  simpa using this
theorem c_Num {w v : Nat} {rest : List UInt8} (rd : Rd rb h (bytesOf w v ++ rest) 0) (hw : w = 1 ∨ w = 2 ∨ w = 4 ∨ w = 8) (hv : v < 256 ^ w) (r : ∀ h', Rd rb h' rest 0 → Ex (only rb) h h' → K (.int .u64 v) h') : Ca f_word_Reader_Num #[ptr rb 0, int w] h K := by
  refine c_word_Num rd hw fun h' rd' e' => ?_
  rw [raw_bytes] at rd' ⊢
  simp only at rd' ⊢
  rw [num_bytes hv]
  exact r h' rd' e'
theorem c_Text {s : Str} {m : Nat} {rest : List UInt8} (rd : Rd rb h (padOf s m ++ rest) 0) (hs : s.length ≤ m) (hm : m ≤ 2 ^ 24) (r : ∀ h', Rd rb h' rest 0 → Ex (only rb) h h' → K (str s) h') : Ca f_word_Reader_Text #[ptr rb 0, int s.length, int m] h K := by
  refine c_word_Text rd hm (by omega) fun h' rd' e' => ?_
  rw [text_pad s m hs] at rd' ⊢
  exact r h' rd' e'
theorem c_code_readPair {key val : Str} {rest : List UInt8} (rd : Rd rb h (pairOf c key val ++ rest) 0) (hc : c.Sized) (hk : (key.length : Int) ≤ c.key) (hv : (val.length : Int) ≤ c.val) (r : ∀ h', Rd rb h' rest 0 → Ex (only rb) h h' → K (.tuple #[str key, str val]) h') :
    Ca f_code_readPair #[c.v, ptr rb 0] h K := by
  have hs := hc
  unfold Config.Sized at hs
  have hrb := rd.ne
  refine m_code_readPair_ok (bxa (cs := c.cs) fun b h1 e1 hb k1 _ => ?_)
  have hbr : b ≠ rb := by omega
  have rd1 := rd.ext e1
  unfold pairOf at rd1
  simp only [List.append_assoc] at rd1
  refine c_Num (w := 1) rd1 (.inl rfl) (by omega) fun h2 rd2 e2 => ?_
  rw [CvP_int, wrap64 (by omega) (by omega)]
  refine c_Num (w := 2) rd2 (.inr (.inl rfl)) (by omega) fun h3 rd3 e3 => ?_
  rw [CvP_int, wrap64 (by omega) (by omega)]
  have k3 := (k1.ex e2 hbr).ex e3 hbr
  refine ⟨fun b' _ => b' = b, ?_⟩
  rw [FaP_ptr]
  refine LdX_b (v := int c.key) k3 rfl (fun _ => rfl) ?_
  rw [FaP_ptr]
  refine LdX_b (v := int c.val) k3 rfl (fun _ => rfl) ?_
  have ek : c.key = (c.key.toNat : Int) := by omega
  have ev : c.val = (c.val.toNat : Int) := by omega
  rw [ek, ev]
  refine c_Text rd3 (by omega) (by omega) fun h4 rd4 e4 => ⟨agr_b e4 k3.lt hbr, ?_⟩
  refine c_Text rd4 (by omega) (by omega) fun h5 rd5 e5 => ⟨trivial, ?_⟩
  exact r h5 rd5 ((((Ex.toM e1).trans e2).trans e3).trans e4 |>.trans e5)
theorem c_code_readOuter {ps : List Pair} {rest : List UInt8} (rd : Rd rb h ((ps.flatMap fun p => pairOf c p.key p.val) ++ rest) 0) (hc : c.Sized) (hl : (ps.length : Int) ≤ c.leaf) (hp : ∀ p ∈ ps, (p.key.length : Int) ≤ c.key ∧ (p.val.length : Int) ≤ c.val)
    (r : ∀ y h', Ow h.size t_api_Pair h' y ps → Rd rb h' rest 0 → Ex (only rb) h h' → K (.agg #[int 0, .slice none 0 0, .slice none 0 0, .slice none 0 0, y]) h') :
    Ca f_code_readOuter #[c.v, ptr rb 0, int ps.length] h K := by
  have hs := hc
  unfold Config.Sized at hs
  have hrb := rd.ne
  refine m_code_readOuter_ok (bxa (cs := c.cs) fun b1 h1 e1 hb1 k1 _ => ala (cs := [int 0, .slice none 0 0, .slice none 0 0, .slice none 0 0, .slice none 0 0]) fun b2 h2 e2 hb2 k2 _ => ?_)
  refine ⟨_, #[int 0, .slice none 0 0, .slice none 0 0, .slice none 0 0, .slice none 0 0], rfl, rfl, ?_⟩
  refine alst (vs := [int 0, .slice none 0 0, .slice none 0 0, .slice none 0 0, .slice none 0 0]) rfl rfl rfl fun b3 h3 e3 hb3 k3 _ => ?_
  have e13 := (e1.trans e2).trans e3
  have k1 := (k1.ext e2).ext e3
  have k2 := k2.ext e3
  refine fv (by rw [k1.get]; rfl) ?_
  refine min_int ?_
  have hmin : min (ps.length : Int) c.leaf = ps.length := by omega
  rw [hmin]
  have h12 := e1.le
  have h23 := e2.le
  have h34 := e3.le
  refine lop (σ := Nat × Value) (fun p => [int p.1]) (fun p h' => p.1 ≤ ps.length ∧ Blk h' b1 c.cs ∧ Blk h' b2 [int 0, .slice none 0 0, .slice none 0 0, .slice none 0 0, .slice none 0 0] ∧ Blk h' b3 [int 0, .slice none 0 0, .slice none 0 0, .slice none 0 0, p.2] ∧ Ow h3.size t_api_Pair h' p.2 (ps.take p.1) ∧
    Rd rb h' (((ps.drop p.1).flatMap fun p => pairOf c p.key p.val) ++ rest) 0 ∧ Ex (fun b => b = rb ∨ b = b3) h3 h' ∧ p.2.oneCell' = true) (fun p => ps.length - p.1) (0, .slice none 0 0) rfl ⟨Nat.zero_le _, k1, k2, k3, Ow.nil _ _ _, rd.ext e13, Ex.refl _ _, rfl⟩ ?_
  rintro ⟨i, v⟩ h4 N ⟨hi, k14, k24, k34, o4, rd4, e4, hv1⟩ hN
  simp only at hi k34 o4 rd4 hv1
  simp only [m_code_readOuter_l14, gv_zero, gv_succ]
  rw [BiP_lss]
  refine cdp (fun hlt => ?_) (fun hge => ?_)
  · have hlt : i < ps.length := by omega
    have hp1 := hp ps[i] (List.getElem_mem hlt)
    refine (LdA_b k14 rfl).2 ?_
    rw [List.drop_eq_getElem_cons hlt, List.flatMap_cons, List.append_assoc] at rd4
    refine c_code_readPair rd4 hc hp1.1 hp1.2 fun h5 rd5 e5 => ?_
    rw [ex20, ex21]
    have k15 := k14.ex e5 (by omega : ¬ b1 = rb)
    have k25 := k24.ex e5 (by omega : ¬ b2 = rb)
    have k35 := k34.ex e5 (by omega : ¬ b3 = rb)
    refine fv (by rw [k35.get]; rfl) ?_
    refine ⟨_, #[str ps[i].key, str ps[i].val], rfl, rfl, ?_⟩
    refine bs (n0 := h5.size) (e := t_api_Pair) (zs := #[str [], str []]) [ps[i]] rfl (Nat.le_refl _) rfl (by decide) (cs := #[str ps[i].key, str ps[i].val]) (by kernel_rfl) rfl fun v6 h6 o6 e6 => ?_
    have s6 : Sl No h6 v6 [ps[i]] := o6.sl fun _ _ h => h
    have o5 : Ow h3.size t_api_Pair h6 v (ps.take i) := (o4.ex e5 (fun b hb _ hx => by have hx : b = rb := hx; omega)).ext e6
    have hle5 : h3.size ≤ h6.size := by have := e4.le; have := e5.le; have := e6.le; omega
    refine app T_Pair o5 s6 hle5 (by rw [List.length_take]; simp; omega) (by decide) fun v7 h7 o7 e7 _ => ?_
    have k37 := (k35.ext e6).ex e7 (by omega : ¬ h3.size ≤ b3)
    have hv7 : v7.oneCell' = true := by rcases o7.cases' with ⟨rfl, _⟩ | ⟨_, _, rfl, _⟩ <;> rfl
    rw [FaP_ptr]
    refine StP_b k37 (show 0 + 4 < 5 by decide) (by rw [one_eq]; exact hv7) fun h8 _ e8 k8 => ?_
    refine add64 (by omega) ?_
    have ht : ps.take i ++ [ps[i]] = ps.take (i + 1) := by rw [List.take_add_one, List.getElem?_eq_getElem hlt]; rfl
    rw [ht] at o7
    have := hN (i + 1, v7) h8 ⟨by show i + 1 ≤ _; omega, ((k15.ext e6).ex e7 (by omega : ¬ h3.size ≤ b1)).ex e8 (by omega : ¬ b1 = b3), ((k25.ext e6).ex e7 (by omega : ¬ h3.size ≤ b2)).ex e8 (by omega : ¬ b2 = b3), k8, o7.ex e8 (fun b hb _ hx => by have hx : b = b3 := hx; omega), ?_, ?_, hv7⟩ (by simp only; omega)
    · simpa using this
    · exact ((rd5.ext e6).ex e7 (fun b hb hx => by omega)).ex e8 (fun b hb hx => by have hx : b = b3 := hx; omega)
    · refine ⟨by have := e4.le; have := e5.le; have := e6.le; have := e7.le; have := e8.le; omega, fun b hb hm => ?_⟩
      have hm1 : ¬ b = rb := fun e => hm (.inl e)
      have hm2 : ¬ b = b3 := fun e => hm (.inr e)
      have l4 := e4.le
      have l5 := e5.le
      have l6 := e6.le
      have l7 := e7.le
      rw [e8.eq b (by omega) hm2, e7.eq b (by omega) (by omega), e6.eq b (by omega) (fun x => x), e5.eq b (by omega) hm1, e4.eq b hb hm]
  · have hin : i = ps.length := by omega
    subst hin
    rw [List.take_length] at o4
    rw [List.drop_length, List.flatMap_nil, List.nil_append] at rd4
    unfold m_code_readOuter_j33
    refine (LdA_b k34 rfl).2 ?_
    refine StA_b (vs := [int 0, .slice none 0 0, .slice none 0 0, .slice none 0 0, v]) k24 rfl rfl (by
      have hq : one' v = true := by rw [one_eq]; exact hv1
      show (true && (true && (true && (true && (one' v && true))))) = true
      rw [hq]; rfl) fun h5 _ e5 k5 => ?_
    refine (LdA_b k5 rfl).2 ?_
    refine r v h5 ((o4.ex e5 (fun b hb _ hx => by have hx : b = b2 := hx; omega)).low (by omega)) ?_ ?_
    · exact rd4.ex e5 (fun b hb hx => by have hx : b = b2 := hx; omega)
    · refine ⟨by have := e4.le; have := e5.le; omega, fun b hb hm => ?_⟩
      have hm1 : ¬ b = rb := hm
      have l4 := e4.le
      rw [e5.eq b (by omega) (by omega), e4.eq b (by omega) (by omega), e13.eq b hb (fun x => x)]
/-- A leaf's block. -/
def leafOf (c : Config) (n : Node) : List UInt8 := outerOf c n ++ List.replicate (c.bytes.toNat - (outerOf c n).length) 0
theorem outer_fits (hr : c.Right) (ho : outerOk c allSpan n = true) : (∀ p ∈ n.pairs, (p.key.length : Int) ≤ c.key ∧ (p.val.length : Int) ≤ c.val) ∧ n.pairs.length ≤ 1024 ∧ (n.pairs.length : Int) ≤ c.leaf ∧ (outerOf c n).length ≤ c.bytes.toNat ∧ n.kids = [] ∧ n.pivots = [] ∧ n.buf = [] := by
  have hs := hr.1
  have hs' := hs
  unfold Config.Sized at hs
  unfold outerOk at ho
  simp only [Bool.and_eq_true, decide_eq_true_eq] at ho
  obtain ⟨⟨⟨h1, h2⟩, h3⟩, h4⟩ := ho
  have hp : ∀ p ∈ n.pairs, (p.key.length : Int) ≤ c.key ∧ (p.val.length : Int) ≤ c.val := fun p hp => by
    have h4 : n.pairs.any (badPair c allSpan) = false := by simpa using h4
    rw [List.any_eq_false] at h4
    have := h4 p hp
    unfold badPair keyOk at this
    simp only [Bool.or_eq_true, Bool.not_eq_true', Bool.and_eq_false_iff, decide_eq_false_iff_not, decide_eq_true_eq, not_or] at this
    obtain ⟨⟨q1, q2⟩, q3⟩ := this
    omega
  refine ⟨hp, by omega, h2, ?_, List.eq_nil_of_length_eq_zero (by omega), List.eq_nil_of_length_eq_zero (by omega), List.eq_nil_of_length_eq_zero (by omega)⟩
  have hb : c.outer ≤ c.bytes := by have := hr.2.2.2.2.2.2; unfold Config.leastBytes at this; omega
  unfold Config.outer at hb
  rw [if_pos hs'] at hb
  have hl := pairs_len hs' n.pairs hp
  unfold outerOf
  rw [List.length_append, hl]
  have hf : (frontOf 1 0 n.pairs.length 0).length = 8 := by simp [frontOf, bytesOf_length]
  rw [hf]
  have hm : n.pairs.length * (3 + c.key.toNat + c.val.toNat) ≤ c.leaf.toNat * (3 + c.key.toNat + c.val.toNat) := Nat.mul_le_mul_right _ (by omega)
  have hc : ((c.leaf.toNat * (3 + c.key.toNat + c.val.toNat) : Nat) : Int) = c.leaf * (3 + c.key + c.val) := by
    rw [Int.natCast_mul]
    have e1 : ((c.leaf.toNat : Nat) : Int) = c.leaf := by omega
    have e2 : ((3 + c.key.toNat + c.val.toNat : Nat) : Int) = 3 + c.key + c.val := by omega
    rw [e1, e2]
  omega
theorem leaf_len (hr : c.Right) (ho : outerOk c allSpan n = true) : (leafOf c n).length = c.bytes.toNat := by
  have := (outer_fits hr ho).2.2.2.1
  unfold leafOf
  rw [List.length_append, List.length_replicate]; omega
theorem c_node_Right_leaf {s : Span} {v : Value} (d : Nd U h v n) (hf : n.fits) (h0 : n.level = 0) (r : ∀ h', Ext h h' → K (.bool (outerOk c s n)) h') : Ca f_node_Right #[c.v, s.v, v] h K := by
  obtain ⟨vk, vp, vb, vl, rfl, q1, q2, q3, q4⟩ := d.out
  refine m_node_Right_ok (bxa (cs := c.cs) fun b1 h1 e1 hb1 k1 _ => bxa (cs := s.cs) fun b2 h2 e2 hb2 k2 _ => bxa (cs := [int n.level, vk, vp, vb, vl]) fun b3 h3 e3 hb3 k3 _ => ?_)
  have e13 := (e1.trans e2).trans e3
  refine fv (by rw [k3.get]; rfl) ?_
  rw [h0, BiP_lss]
  refine cdp (fun h => absurd h (by omega)) fun _ => ?_
  refine fv (by rw [k3.get]; rfl) ?_
  rw [h0, BiP_eql]
  refine cdp (fun _ => ?_) fun h => absurd rfl h
  refine (LdA_b ((k1.ext e2).ext e3) rfl).2 ((LdA_b (k2.ext e3) rfl).2 ((LdA_b k3 rfl).2 ?_))
  exact c_node_outer (d.ext e13) hf fun h' e' => r h' (e13.trans e')
theorem c_code_Encode_leaf {v : Value} (d : Nd U h v n) (hf : n.fits) (hr : c.Right) (h0 : n.level = 0) (ho : outerOk c allSpan n = true) (r : ∀ y h', Ow h.size t_uint8 h' y (leafOf c n) → Ext h h' → K (.tuple #[y, int 0]) h') : Ca f_code_Encode #[c.v, v] h K := by
  have hfit := outer_fits hr ho
  have hd := d
  obtain ⟨vk, vp, vb, vl, rfl, q1, q2, q3, q4⟩ := d.out
  refine m_code_Encode_ok (bxa (cs := c.cs) fun b1 h1 e1 hb1 k1 _ => bxa (cs := [int n.level, vk, vp, vb, vl]) fun b2 h2 e2 hb2 k2 _ => ?_)
  have e12 := e1.trans e2
  refine (LdA_b (k1.ext e2) rfl).2 (c_conf_Check (c := c) fun h3 e3 => ?_)
  rw [if_pos hr, BiP_neq]
  refine cdp (fun h => absurd rfl h) fun _ => ?_
  have e13 := e12.trans e3
  have k1 := (k1.ext e2).ext e3
  have k2 := k2.ext e3
  refine ⟨fun b' _ => b' = b1 ∨ b' = b2, ?_⟩
  refine LaX_b k1 rfl (fun _ => .inl rfl) (LaX_b k2 rfl (fun _ => .inr rfl) ?_)
  refine c_lex_All fun h4 e4 => ⟨?_, ?_⟩
  · rintro x o _
    rename_i hx
    exact hget_eq (e4.eq _ (by rcases hx with rfl | rfl; exact k1.lt; exact k2.lt) (fun x => x)) o
  have e14 := e13.trans e4
  refine c_node_Right_leaf (n := n) (hd.ext e14) hf h0 fun h5 e5 => ⟨trivial, ?_⟩
  rw [ho, UnP_not]
  show CdP (.bool false) _ _
  rw [CdP_false]
  have e15 := e14.trans e5
  have k1 := (k1.ext e4).ext e5
  have k2 := (k2.ext e4).ext e5
  refine fv (by rw [k2.get]; rfl) ?_
  rw [h0, BiP_gtr]
  refine cdp (fun h => absurd h (by omega)) fun _ => ?_
  unfold m_code_Encode_j23
  refine (LdA_b k1 rfl).2 ((LdA_b k2 rfl).2 ?_)
  refine cvhc (by kernel_rfl) ?_
  show Ca f_code_writeOuter #[c.v, .agg [int n.level, vk, vp, vb, vl].toArray] h5 _
  refine c_code_writeOuter (n := n) (hd.ext e15) hr.1 hfit.2.1 hfit.1 fun y h6 o6 e6 => ?_
  refine fv (by rw [(k1.ext e6).get]; rfl) ?_
  have s6 : Sl No h6 y (outerOf c n) := o6.sl fun _ _ h => h
  refine s6.len ?_
  have hb := hr.2.2.2.2.2.1
  have hb0 : 0 ≤ c.bytes := by have := hr.2.2.2.2.2.2; unfold Config.leastBytes at this; omega
  have hle := hfit.2.2.2.1
  refine sub64 (by omega) ?_
  have eb : c.bytes - ((outerOf c n).length : Int) = ((c.bytes.toNat - (outerOf c n).length : Nat) : Int) := by omega
  rw [eb]
  refine bld_zer (o6.low (Nat.zero_le _)) (by omega) fun y7 h7 o7 b7 => ?_
  have hy : ∀ b, y.ownBlock = some b → h5.size ≤ b := o6.block
  have e57 : Ex (fun b => h5.size ≤ b) h6 h7 := b7.ex.mono fun b _ hb => hy b hb
  refine r y7 h7 (o7.anew fun b hb => ?_) ((e15.trans e6).own e57 e15.le)
  have hl5 := e15.le
  rcases b7.at_ with h | ⟨g, h, hg⟩
  · rw [h] at hb; have := hy b hb; omega
  · rw [h] at hb; cases hb; have := e6.le; omega
end
end Go.Sg
/-! Contracts of code: a leaf's block is read. -/
namespace Go.Sg
open Go Vc
section
variable {h : Heap} {K : Kt} {U : Nat → Prop} {x : Value} {c : Config} {n : Node}
theorem Sl.no {α : Type} [El α] {U : Nat → Prop} {h : Heap} {v : Value} {l : List α} (s : Sl U h v l) : Sl No h v l := s.ex (Ex.refl No h) (fun _ _ x => x.elim) (fun _ _ x => x.elim)
theorem z2 : bytesOf 2 0 = List.replicate 2 0 := by decide
theorem c_code_Decode_leaf (s : Sl U h x (leafOf c n)) (hr : c.Right) (h0 : n.level = 0) (ho : outerOk c allSpan n = true)
    (r : ∀ y h', Ow h.size t_api_Pair h' y n.pairs → Ext h h' → K (.tuple #[.agg #[int 0, .slice none 0 0, .slice none 0 0, .slice none 0 0, y], int 0]) h') : Ca f_code_Decode #[c.v, x] h K := by
  obtain ⟨f1, f2, f3, f4, f5, f6, f7⟩ := outer_fits hr ho
  have hlen := leaf_len hr ho
  have hb := hr.2.2.2.2.2.1
  have hlv : n = ⟨0, [], [], [], n.pairs⟩ := by cases n; simp only at *; subst h0 f5 f6 f7; rfl
  refine m_code_Decode_ok (bxa (cs := c.cs) fun b1 h1 e1 hb1 k1 _ => ala (cs := [int 0, .slice none 0 0, .slice none 0 0, .slice none 0 0, .slice none 0 0]) fun b2 h2 e2 hb2 k2 _ => ?_)
  have k1 := k1.ext e2
  refine (LdA_b k1 rfl).2 (c_conf_Check (c := c) fun h3 e3 => ?_)
  rw [if_pos hr, BiP_neq]
  refine cdp (fun h => absurd rfl h) fun _ => ?_
  have e13 := (e1.trans e2).trans e3
  have k1 := k1.ext e3
  have k2 := k2.ext e3
  refine c_word_Open (s.ext e13) (by omega) fun rb h4 hrb rd4 e4 => ?_
  have k1 := k1.ext e4
  have k2 := k2.ext e4
  have hl4 := e4.le
  have n1 : ¬ b1 = rb := by have := e2.le; have := e3.le; omega
  have n2 : ¬ b2 = rb := by have := e3.le; omega
  have e14 := e13.trans e4
  have hbs : leafOf c n = bytesOf 1 1 ++ (bytesOf 1 0 ++ (bytesOf 2 n.pairs.length ++ (bytesOf 2 0 ++ (List.replicate 2 0 ++ ((n.pairs.flatMap fun p => pairOf c p.key p.val) ++ List.replicate (c.bytes.toNat - (outerOf c n).length) 0))))) := by
    unfold leafOf outerOf frontOf
    rw [← z2]; simp only [List.append_assoc]
  rw [hbs] at rd4
  refine c_Num (w := 1) (v := 1) rd4 (.inl rfl) (by decide) fun h5 rd5 e5 => ?_
  refine c_Num (w := 1) (v := 0) rd5 (.inl rfl) (by decide) fun h6 rd6 e6 => ?_
  rw [CvP_int, wrap64 (by decide) (by decide)]
  refine c_Num (w := 2) (v := n.pairs.length) rd6 (.inr (.inl rfl)) (by omega) fun h7 rd7 e7 => ?_
  rw [CvP_int, wrap64 (by omega) (by omega)]
  refine c_Num (w := 2) (v := 0) rd7 (.inr (.inl rfl)) (by decide) fun h8 rd8 e8 => ?_
  rw [CvP_int, wrap64 (by decide) (by decide)]
  refine c_word_Zeros (n := 2) rd8 (by decide) fun h9 rd9 e9 => ?_
  rw [zeros_app] at rd9
  simp only at rd9
  have e49 : Ex (only rb) h4 h9 := (((e5.trans e6).trans e7).trans e8).trans e9
  have k1 := k1.ex e49 n1
  have k2 := k2.ex e49 n2
  refine ⟨_, #[int (-1), .slice none 0 0, .slice none 0 0, .slice none 0 0, .slice none 0 0], rfl, rfl, ?_⟩
  refine alst (vs := [int (-1), .slice none 0 0, .slice none 0 0, .slice none 0 0, .slice none 0 0]) rfl rfl rfl fun b3 h10 e10 hb3 k3 _ => ?_
  have k1 := k1.ext e10
  have k2 := k2.ext e10
  have rd10 := rd9.ext e10
  rw [BiP_eql]
  refine cdp (fun _ => ?_) fun h => absurd rfl h
  refine (LdA_b k1 rfl).2 ?_
  have hrl := rd9.ne
  have n3 : ¬ b3 = rb := by omega
  refine c_code_readOuter rd10 hr.1 f3 f1 fun y h11 o11 rd11 e11 => ?_
  have k1 := k1.ex e11 n1
  have k2 := k2.ex e11 n2
  have k3 := k3.ex e11 n3
  have hy1 : one' y = true := by rcases o11.cases' with ⟨rfl, _⟩ | ⟨_, _, rfl, _⟩ <;> rfl
  refine StA_b (vs := [int 0, .slice none 0 0, .slice none 0 0, .slice none 0 0, y]) k3 rfl rfl (by
      show (true && (true && (true && (true && (one' y && true))))) = true
      rw [hy1]; rfl) fun h12 _ e12 k3' => ?_
  have l2 := e2.le
  have l3 := e3.le
  have l9 := e49.le
  have l10 := e10.le
  have l11 := e11.le
  have k1 := k1.ex e12 (by omega : ¬ b1 = b3)
  have k2 := k2.ex e12 (by omega : ¬ b2 = b3)
  have rd12 := rd11.ex e12 (fun b hb hx => by have hx : b = b3 := hx; omega)
  have o12 := o11.ex e12 (fun b hb _ hx => by have hx : b = b3 := hx; omega)
  -- nothing old has turned
  have eAll : Ext h h12 := by
    refine ⟨by have := e14.le; have := e12.le; omega, fun b hb _ => ?_⟩
    have hlt : b < h3.size := Nat.lt_of_lt_of_le hb e13.le
    rw [e12.eq b (by omega) (by show ¬ b = b3; omega), e11.eq b (by omega) (by show ¬ b = rb; omega), e10.eq b (by omega) (fun x => x), e49.eq b (by omega) (by show ¬ b = rb; omega), e14.eq b hb (fun x => x)]
  unfold m_code_Decode_j44
  refine c_word_Err rd12 ?_
  rw [BiP_neq]
  refine cdp (fun h => absurd rfl h) fun _ => ?_
  refine (LdA_b k1 rfl).2 ((LdA_b k3' rfl).2 ?_)
  have d12 : Nd No h12 (.agg [int 0, .slice none 0 0, .slice none 0 0, .slice none 0 0, y].toArray) n := by
    rw [hlv]
    exact ⟨_, _, _, _, rfl, Sl.nil _ _, Sl.nil _ _, Sl.nil _ _, o12.sl fun _ _ h => h⟩
  have hf : n.fits := by
    refine ⟨by rw [f5]; simp, by rw [f6]; simp, by rw [f7]; simp, by omega⟩
  refine c_code_Encode_leaf d12 hf hr h0 ho fun z h13 o13 e13' => ?_
  rw [ex20, ex21, BiP_neq]
  refine cdp (fun h => absurd rfl h) fun _ => ?_
  have k2 := k2.ext e13'
  have k3' := k3'.ext e13'
  refine c_Equal_byte (o13.sl (U := No) fun _ _ h => h) ((s.ext eAll).ext e13').no (by omega) rfl ?_
  rw [UnP_not]
  show m_code_Decode_j65 _ _ (.bool false) _ _
  unfold m_code_Decode_j65
  rw [CdP_false]
  unfold m_code_Decode_j69
  refine (LdA_b k3' rfl).2 ?_
  refine StA_b (vs := [int 0, .slice none 0 0, .slice none 0 0, .slice none 0 0, y]) k2 rfl rfl (by
      show (true && (true && (true && (true && (one' y && true))))) = true
      rw [hy1]; rfl) fun h14 _ e14' k2' => ?_
  refine (LdA_b k2' rfl).2 ?_
  have o14 := (o12.ext e13').ex e14' (fun b hb _ hx => by have hx : b = b2 := hx; omega)
  refine r y h14 (o14.low (by have := e14.le; omega)) ?_
  exact (eAll.trans e13').andThen e14' fun b hb => by show ¬ b = b2; have := e1.le; omega
end
end Go.Sg
/-! Contracts of shelf. -/
namespace Go.Sg
open Go Vc
def kpin (kept i : Nat) : Nat := if i = kept ∧ i ≠ 0 then 1 else 0
/-- A shelf but its cache. -/
structure ShC (lab : Nat → Nat) (h : Heap) (sp : Nat) (c : Config) (cp dp o g p : Nat) (S : Nat → Bool) (kept : Nat) : Prop where
  blk : Blk h sp (c.cs ++ [ptr dp 0, ptr cp 0, ptr o 0, .int .u32 kept])
  pol : Pol o g p h c.blocks.toNat S
  l9 : lab sp = 9
  l10 : lab o = 10
  l11 : lab p = 11
  l12 : lab g = 12
  lt : lab gTab = 0
/-- A shelf: its settings, its device's blocks, what its blocks have, which are held, which one is kept, and its device's counts. -/
structure ShS (lab : Nat → Nat) (h : Heap) (sp dp : Nat) (c : Config) (D : List (List UInt8)) (V : Nat → List UInt8) (S : Nat → Bool) (kept : Nat) (rd wr : BitVec 64) : Prop where
  right : c.Right
  dl : D.length = c.blocks.toNat
  kl : kept < c.blocks.toNat
  out : ∃ cp o g p, ShC lab h sp c cp dp o g p S kept ∧ CaS lab h cp dp c.frames.toNat c.bytes.toNat D V (kpin kept) rd wr
section
variable {lab lab' : Nat → Nat} {h h' : Heap} {sp cp dp o g p kept i : Nat} {c : Config} {D D' : List (List UInt8)} {V : Nat → List UInt8} {P : Nat → Nat} {S : Nat → Bool} {rd wr rd' wr' : BitVec 64} {K : Kt} {n : Node}
theorem ShC.ex {lo hi : Nat} (k : ShC lab h sp c cp dp o g p S kept) (e : Ex (Lb lab lo hi) h h') (h8 : hi ≤ 8 ∨ 13 ≤ lo) (h0 : 0 < lo) (a : Lat lab lab' h) : ShC lab' h' sp c cp dp o g p S kept := by
  have r := k.pol.row.lt
  have ot := k.pol.blk.lt
  have tt := k.pol.tz.lt
  exact ⟨k.blk.ex e (nLb k.l9 (by omega)), k.pol.ex e (nLb k.l10 (by omega)) (nLb k.l11 (by omega)) (nLb k.l12 (by omega)) (nLb k.lt (by omega)), (a _ k.blk.lt).trans k.l9, (a _ ot).trans k.l10, (a _ r.1).trans k.l11, (a _ r.2).trans k.l12, (a _ tt).trans k.lt⟩
/-- A variable's own label. -/
def loc (lab : Nat → Nat) (h : Heap) (b : Nat) : Nat → Nat := upd (frl lab h) b 99
theorem loc_lat {b : Nat} (lab : Nat → Nat) (hb : h.size ≤ b) : Lat lab (loc lab h b) h := fun x hx => (upd_ne (by omega)).trans (frl_lat lab h x hx)
theorem loc_at {b : Nat} : loc lab h b b = 99 := upd_same
theorem ShC.ext (k : ShC lab h sp c cp dp o g p S kept) (e : Ext h h') : ShC lab h' sp c cp dp o g p S kept :=
  k.ex (lo := 1) (hi := 1) e.toM (.inl (by decide)) (by decide) (Lat.refl _ _)
theorem Lat.fw {lo hi : Nat} (a : Lat lab lab' h) (e : Ex (Lb lab lo hi) h h') : Ex (Lb lab' lo hi) h h' :=
  e.mono fun x hx y => by show lo ≤ lab' x ∧ lab' x ≤ hi; rw [a x hx]; exact y
theorem Lat.bw {lo hi : Nat} (a : Lat lab lab' h) (e : Ex (Lb lab' lo hi) h h') : Ex (Lb lab lo hi) h h' :=
  e.mono fun x hx y => by show lo ≤ lab x ∧ lab x ≤ hi; rw [← a x hx]; exact y
theorem Cok.ex9 {s : CSt} {nf m : Nat} (k : Cok lab h s nf m D rd wr) {lo hi : Nat} (e : Ex (Lb lab lo hi) h h') (h9 : 9 ≤ lo) : Cok lab h' s nf m D rd wr :=
  ⟨k.blk.ex e (nLb k.l1 (by omega)), k.dev.ex e (nLb k.l6 (by omega)) (nLb k.l7 (by omega)), k.fr.ex e (nLb k.l2 (by omega)), k.fl, k.f64, by
    obtain ⟨es, cl, q1, q2⟩ := k.mp; exact ⟨es, cl, e.get q1 (nLb k.l3 (by omega)), q2⟩, k.em.exb e (fun b hb => nLb (k.l8 b hb) (by omega)),
    k.row.ex e (nLb k.l4 (by omega)) (nLb k.l5 (by omega)), k.l1, k.l2, k.l3, k.l4, k.l5, k.l6, k.l7, k.l8⟩
theorem CaS.ex {nf m : Nat} (k : CaS lab h cp dp nf m D V P rd wr) {lo hi : Nat} (e : Ex (Lb lab lo hi) h h') (h9 : 9 ≤ lo) (a : Lat lab lab' h) : CaS lab' h' cp dp nf m D V P rd wr := by
  obtain ⟨s, E, q1, q2, q3, q4, q5⟩ := k.out
  exact ⟨s, E, q1, q2, (q3.lat a).ex9 (a.fw e) h9, q4.ex e (by omega) a, q5⟩
theorem CaS.ext {nf m : Nat} (k : CaS lab h cp dp nf m D V P rd wr) (e : Ext h h') : CaS lab h' cp dp nf m D V P rd wr := k.ex (lo := 9) (hi := 9) e.toM (by decide) (Lat.refl _ _)
theorem CaS.pin {nf m : Nat} {P' : Nat → Nat} (k : CaS lab h cp dp nf m D V P rd wr) (e : ∀ j, P' j = P j) : CaS lab h cp dp nf m D V P' rd wr := by
  have : P' = P := funext e
  rw [this]; exact k
theorem CaS.ni {nf m : Nat} (k : CaS lab h cp dp nf m D V P rd wr) : 1 ≤ m ∧ m ≤ 65536 ∧ D.length ≤ 65536 := by
  obtain ⟨s, E, q1, q2, q3, q4, q5⟩ := k.out
  exact ⟨q3.dev.n1, q3.dev.n2, q3.dev.b2⟩
theorem blocks_eq (hr : c.Right) : c.blocks = (c.blocks.toNat : Int) ∧ c.bytes = (c.bytes.toNat : Int) ∧ c.frames = (c.frames.toNat : Int) ∧ 5 ≤ c.blocks.toNat ∧ c.blocks.toNat ≤ 65536 ∧ 8 ≤ c.frames.toNat ∧ c.frames.toNat ≤ 64 := by
  have h1 := hr.2.1
  have h2 := hr.2.2.1
  have h3 := hr.2.2.2.1
  have h4 := hr.2.2.2.2.1
  have h5 := hr.2.2.2.2.2.2
  unfold Config.leastBytes at h5
  omega
theorem ShS.ni (k : ShS lab h sp dp c D V S kept rd wr) : ∃ cp, hget h sp 9 = some (ptr cp 0) := by
  obtain ⟨cp, o, g, p, k1, k2⟩ := k.out
  exact ⟨cp, by rw [k1.blk.get]; rfl⟩
theorem c_shelf_made (k : ShC lab h sp c cp dp o g p S kept) (r : K (int 0) h) : Ca f_shelf_Shelf_made #[ptr sp 0] h K := by
  refine m_shelf_Shelf_made_ok (eq_ptr_nil (by kernel_rfl) (fl (by rw [k.blk.get]; rfl) ?_))
  refine eq_ptr_nil (by kernel_rfl) ?_
  exact r
theorem c_shelf_there (k : ShC lab h sp c cp dp o g p S kept) (hr : c.Right) (h0 : 0 < i) (hi : i < c.blocks.toNat) (r : K (int 0) h) : Ca f_shelf_Shelf_there #[ptr sp 0, .int .u32 i] h K := by
  have hb := blocks_eq hr
  refine m_shelf_Shelf_there_ok (eq_ptr_nil (by kernel_rfl) (fl (by rw [k.blk.get]; rfl) ?_))
  refine eq_ptr_nil (by kernel_rfl) ?_
  unfold m_shelf_Shelf_there_j12
  show BiP .eql (.int .u32 i) (.int .u32 0) _
  rw [BiP_eql]
  refine cdp (fun h => absurd h (by omega)) fun _ => ?_
  rw [CvP_int, wrap64 (by omega) (by omega), NilP_ptr, FaP_ptr]
  refine fv (v := int c.blocks) (by rw [k.blk.get]; rfl) ?_
  rw [BiP_geq]
  unfold m_shelf_Shelf_there_j23
  exact cdp (fun h => absurd h (by omega)) fun _ => r
theorem kpin_bd (kept j : Nat) : kpin kept j ≤ 1 := by unfold kpin; split <;> omega
theorem upd_kpin {Q : Nat → Nat} {i : Nat} : ∀ j, Q j = upd (upd Q i (Q i + 1)) i (upd Q i (Q i + 1) i - 1) j := fun j => by
  by_cases hj : j = i
  · subst hj; rw [upd_same, upd_same]; omega
  · rw [upd_ne hj, upd_ne hj]
theorem ShC.get {f : Nat} {v : Value} (k : ShC lab h sp c cp dp o g p S kept) (hf : (c.cs ++ [ptr dp 0, ptr cp 0, ptr o 0, .int .u32 kept])[f]? = some v) {R : Value → Prop} (r : R v) : Fl f (ptr sp 0) h R := fl (by rw [k.blk.get, Nat.zero_add]; exact hf) r
theorem ShC.cfg (k : ShC lab h sp c cp dp o g p S kept) {R : Value → Prop} (r : R c.v) : Fla 0 8 (ptr sp 0) h R := by
  unfold Fla
  rw [NilP_ptr, FaP_ptr]
  refine LdA_at (cs := c.cs) (fun j v hj => ?_) rfl r
  rw [k.blk.get]
  have hlt := (List.getElem?_eq_some_iff.1 hj).1
  rw [Nat.zero_add, List.getElem?_append_left hlt]; exact hj
theorem ShC.lat (k : ShC lab h sp c cp dp o g p S kept) (a : Lat lab lab' h) : ShC lab' h sp c cp dp o g p S kept := k.ex (lo := 1) (hi := 1) (Ex.refl _ _) (.inl (by decide)) (by decide) a
theorem CaS.lat {nf m : Nat} (k : CaS lab h cp dp nf m D V P rd wr) (a : Lat lab lab' h) : CaS lab' h cp dp nf m D V P rd wr := k.ex (lo := 9) (hi := 9) (Ex.refl _ _) (by decide) a
theorem ShS.lat (k : ShS lab h sp dp c D V S kept rd wr) (a : Lat lab lab' h) : ShS lab' h sp dp c D V S kept rd wr := by
  obtain ⟨hr, hD, hkl, cp, o, g, p, k1, k2⟩ := k
  exact ⟨hr, hD, hkl, cp, o, g, p, k1.lat a, k2.lat a⟩
theorem ShS.ext (k : ShS lab h sp dp c D V S kept rd wr) (e : Ext h h') : ShS lab h' sp dp c D V S kept rd wr := by
  obtain ⟨hr, hD, hkl, cp, o, g, p, k1, k2⟩ := k
  exact ⟨hr, hD, hkl, cp, o, g, p, k1.ext e, k2.ext e⟩
theorem pins_kept (hf : 8 ≤ c.frames.toNat) : ∃ Ps : List Nat, Ps.length < c.frames.toNat ∧ ∀ j, 0 < kpin kept j → j ∈ Ps := by
  refine ⟨[kept], by simp; omega, fun j hj => ?_⟩
  unfold kpin at hj
  split at hj
  · rename_i h; simp [h.1]
  · omega
theorem Blk.old {b : Nat} {cs : List Value} {lo hi : Nat} (k : Blk h b cs) (e : Ex (Lb lab lo hi) h h') (hl : lab b = 0) (h0 : 0 < lo) : Blk h' b cs := k.ex e (nLb hl (by omega))
theorem lbx {x : Nat} (e : Ex (Lb lab 1 8) h h') : Ex (Lb lab 1 12) h h' := Lb.wide e (by decide) (by decide)
/-- A block is read, and is a leaf's. -/
theorem c_shelf_Load (k : ShS lab h sp dp c D V S kept rd wr) (h0 : 0 < i) (hi : i < c.blocks.toNat) (hV : V i = leafOf c n) (hn : n.level = 0) (ho : outerOk c allSpan n = true)
    (r : ∀ lab' h' D' rd' wr' v, Lat lab lab' h → ShS lab' h' sp dp c D' V S kept rd' wr' → Nd (Use lab') h' v n → Ex (Lb lab 1 12) h h' → (rd' = rd ∨ rd' = rd + 1) → (wr' = wr ∨ wr' = wr + 1) → K (.tuple #[v, int 0]) h') :
    Ca f_shelf_Shelf_Load #[ptr sp 0, .int .u32 i] h K := by
  have hb := blocks_eq k.right
  have kk := k
  refine m_shelf_Shelf_Load_ok (ala (cs := [int 0, .slice none 0 0, .slice none 0 0, .slice none 0 0, .slice none 0 0]) fun b1 h1 e1 hb1 kb hs1 => ?_)
  have a1 : Lat lab (loc lab h b1) h := loc_lat lab (by omega)
  obtain ⟨hr, hD, hkl, cp, o, g, p, k1, k2⟩ := (k.lat a1).ext e1
  obtain ⟨l1, hl1⟩ : ∃ l1, l1 = loc lab h b1 := ⟨_, rfl⟩
  have q1 : l1 b1 = 99 := by rw [hl1]; exact loc_at
  rw [← hl1] at a1 k1 k2
  refine c_shelf_there k1 hr h0 hi ?_
  rw [BiP_neq]
  refine cdp (fun h => absurd rfl h) fun _ => ?_
  refine k1.get (f := 9) rfl ?_
  refine c_cache_Pin k2 h0 (by omega) (pins_kept hb.2.2.2.2.2.1) (by have := kpin_bd kept i; omega) fun l2 h2 D2 rd2 wr2 a2 hD2 k2 hrd hwr e2 => ?_
  have k1 := k1.ex e2 (.inl (by decide)) (by decide) a2
  have kb := kb.ex e2 (nLb q1 (by decide))
  have hb1l : b1 < h1.size := by omega
  have q2 : l2 b1 = 99 := (a2 b1 hb1l).trans q1
  rw [BiP_neq]
  refine cdp (fun h => absurd rfl h) fun _ => ?_
  refine k1.get (f := 9) rfl ?_
  have a3 := frl_lat l2 h2
  have k1 := k1.lat a3
  have k2 := k2.lat a3
  have hh2 := e2.le
  have q3 : frl l2 h2 b1 = 99 := (a3 b1 (by omega)).trans q2
  refine c_cache_Read k2 (by rw [upd_same]; omega) fun x h3 o3 e3 => ?_
  have k1 := k1.ext e3
  have k2 := k2.ext e3
  have kb := kb.ext e3
  have hh3 := e3.le
  rw [ex20, ex21]
  refine k1.get (f := 9) rfl ?_
  refine c_cache_Unpin k2 (by rw [upd_same]; omega) (by rw [upd_same]; have := kpin_bd kept i; omega) fun h4 k4 e4 => ?_
  have k1 := k1.ex e4 (.inl (by decide)) (by decide) (Lat.refl _ h3)
  have kb := kb.ex e4 (nLb q3 (by decide))
  have k2 := k4.pin (P' := kpin kept) upd_kpin
  have hh4 := e4.le
  rw [BiP_neq]
  refine cdp (fun h => absurd rfl h) fun _ => ?_
  refine k1.cfg ?_
  have sx : Sl No h4 x (leafOf c n) := by
    rw [hV] at o3
    exact (o3.exb e4 fun b hb => nLb (frl_new (o3.block b hb)) (by decide)).sl fun _ _ h => h
  have a5 := frl_lat (frl l2 h2) h4
  have k1 := k1.lat a5
  have k2 := k2.lat a5
  have q5 : frl (frl l2 h2) h4 b1 = 99 := (a5 b1 (by omega)).trans q3
  refine c_code_Decode_leaf sx hr hn ho fun y h5 o5 e5 => ?_
  have k1 := k1.ext e5
  have k2 := k2.ext e5
  have kb := kb.ext e5
  have hh5 := e5.le
  rw [ex20, ex21]
  have hy1 : one' y = true := by rw [one_eq]; exact o5.one
  refine StA_b (vs := [int 0, .slice none 0 0, .slice none 0 0, .slice none 0 0, y]) kb rfl rfl (by
      show (true && (true && (true && (true && (one' y && true))))) = true
      rw [hy1]; rfl) fun h6 _ e6 kb' => ?_
  refine (LdA_b kb' rfl).2 ?_
  have e6' : Ex (Lb (frl (frl l2 h2) h4) 99 99) h5 h6 := one_lb e6 ⟨by rw [q5]; decide, by rw [q5]; decide⟩
  have k1 := k1.ex e6' (.inr (by decide)) (by decide) (Lat.refl _ h5)
  have k2 := k2.ex e6' (by decide) (Lat.refl _ h5)
  have a6 : Lat lab (frl (frl l2 h2) h4) h := ((a1.trans a2 e1.le).trans a3 (by omega)).trans a5 (by omega)
  have hlev : n = ⟨0, [], [], [], n.pairs⟩ := by
    obtain ⟨f1, f2, f3, f4, f5, f6, f7⟩ := outer_fits hr ho
    cases n; simp only at *; subst hn f5 f6 f7; rfl
  refine r _ h6 D2 rd2 wr2 _ a6 ⟨hr, by rw [hD2]; exact hD, hkl, cp, o, g, p, k1, k2⟩ ?_ ?_ hrd hwr
  · rw [hlev]
    refine ⟨_, _, _, _, rfl, Sl.nil _ _, Sl.nil _ _, Sl.nil _ _, ?_⟩
    exact (o5.exb e6 fun b hb hx => by have hx : b = b1 := hx; have := o5.block b hb; omega).sl fun b hb hu => hu (frl_new hb)
  · refine ⟨by have := e1.le; have := e6.le; omega, fun b hb hm => ?_⟩
    have hx : ∀ {l : Nat → Nat}, l b = lab b → ¬ Lb l 1 8 b := fun hl x => hm ⟨by rw [← hl]; exact x.1, by rw [← hl]; have := x.2; omega⟩
    have h1l := e1.le
    rw [e6.eq b (by omega) (by show ¬ b = b1; omega), e5.eq b (by omega) (fun x => x), e4.eq b (by omega) (hx (((a1.trans a2 e1.le).trans a3 (by omega)) b hb)), e3.eq b (by omega) (fun x => x), e2.eq b (by omega) (hx (a1 b hb)), e1.eq b hb (fun x => x)]
end
end Go.Sg
/-! Contracts of shelf: writing. -/
namespace Go.Sg
open Go Vc
section
variable {lab lab' : Nat → Nat} {h h' : Heap} {sp cp dp o g p kept i : Nat} {c : Config} {D D' : List (List UInt8)} {V : Nat → List UInt8} {P : Nat → Nat} {S : Nat → Bool} {rd wr rd' wr' : BitVec 64} {K : Kt} {n : Node} {U : Nat → Prop}
/-- A block has other bytes. -/
theorem c_shelf_lay (k : ShS lab h sp dp c D V S kept rd wr) (h0 : 0 < i) (hi : i < c.blocks.toNat) {x : Value} {bs : List UInt8} (sx : Sl (Use lab) h x bs) (hl : bs.length = c.bytes.toNat)
    (r : ∀ lab' h' D' wr', Lat lab lab' h → ShS lab' h' sp dp c D' (upd V i bs) S kept rd wr' → Ex (Lb lab 1 8) h h' → (wr' = wr ∨ wr' = wr + 1) → K (int 0) h') :
    Ca f_shelf_Shelf_lay #[ptr sp 0, .int .u32 i, x] h K := by
  have hb := blocks_eq k.right
  obtain ⟨hr, hD, hkl, cp, o, g, p, k1, k2⟩ := k
  refine m_shelf_Shelf_lay_ok (k1.get (f := 11) rfl ?_)
  rw [BiP_eql]
  refine cdp (fun he => ?_) (fun he => ?_)
  · have he : i = kept := by omega
    refine k1.get (f := 9) rfl ?_
    have hp : 0 < kpin kept i := by unfold kpin; rw [if_pos ⟨he, by omega⟩]; omega
    refine c_cache_Write k2 hp sx hl fun l1 h1 a1 k2 e1 => ?_
    exact r l1 h1 D wr a1 ⟨hr, hD, hkl, cp, o, g, p, k1.ex e1 (.inl (by decide)) (by decide) a1, k2⟩ e1 (.inl rfl)
  · have he : i ≠ kept := by omega
    refine k1.get (f := 9) rfl ?_
    have hp : kpin kept i = 0 := by unfold kpin; rw [if_neg (by simp [he])]
    refine c_cache_Fresh k2 h0 (by omega) (pins_kept hb.2.2.2.2.2.1) hp fun l1 h1 D1 wr1 a1 hD1 k2 hwr e1 => ?_
    have k1 := k1.ex e1 (.inl (by decide)) (by decide) a1
    rw [BiP_neq]
    refine cdp (fun h => absurd rfl h) fun _ => ?_
    refine k1.get (f := 9) rfl ?_
    refine c_cache_Write k2 (by rw [upd_same]; decide) (sx.lat e1 (by decide) a1) hl fun l2 h2 a2 k2 e2 => ?_
    have k1 := k1.ex e2 (.inl (by decide)) (by decide) a2
    refine k1.get (f := 9) rfl ?_
    refine c_cache_Unpin k2 (by rw [upd_same]; decide) (by rw [upd_same]; decide) fun h3 k2 e3 => ?_
    have k1 := k1.ex e3 (.inl (by decide)) (by decide) (Lat.refl _ _)
    have hV : upd (upd V i (List.replicate c.bytes.toNat 0)) i bs = upd V i bs := by
      funext j
      by_cases hj : j = i
      · subst hj; rw [upd_same, upd_same]
      · rw [upd_ne hj, upd_ne hj, upd_ne hj]
    rw [hV] at k2
    have a12 := a1.trans a2 e1.le
    have k2 := k2.pin (P' := kpin kept) (fun j => by
      by_cases hj : j = i
      · subst hj; rw [upd_same, upd_same, hp]
      · rw [upd_ne hj, upd_ne hj])
    exact r l2 h3 D1 wr1 a12 ⟨hr, by omega, hkl, cp, o, g, p, k1, k2⟩ (a12.ex (a1.ex e1 e2) e3) hwr
theorem Sl.l0 {α : Type} [El α] {n0 e} {v : Value} {l : List α} (o : Ow n0 e h v l) (hn : ∀ b, n0 ≤ b → lab b = 0) : Sl (Use lab) h v l := o.sl fun b hb hu => hu (hn b hb)
/-- A block has a leaf. -/
theorem c_shelf_Save (k : ShS lab h sp dp c D V S kept rd wr) (h0 : 0 < i) (hi : i < c.blocks.toNat) {x : Value} (d : Nd U h x n) (hf : n.fits) (hn : n.level = 0) (ho : outerOk c allSpan n = true)
    (r : ∀ lab' h' D' wr', Lat lab lab' h → ShS lab' h' sp dp c D' (upd V i (leafOf c n)) S kept rd wr' → Ex (Lb lab 1 12) h h' → (wr' = wr ∨ wr' = wr + 1) → K (int 0) h') :
    Ca f_shelf_Shelf_Save #[ptr sp 0, .int .u32 i, x] h K := by
  have hb := blocks_eq k.right
  have hdd := d
  obtain ⟨vk, vp, vb, vl, rfl, q1, q2, q3, q4⟩ := d.out
  refine m_shelf_Shelf_Save_ok (bxa (cs := [int n.level, vk, vp, vb, vl]) fun b1 h1 e1 hb1 kb hs1 => ?_)
  have a1 := frl_lat lab h
  have k := (k.lat a1).ext e1
  have kk := k
  obtain ⟨hr, hD, hkl, cp, o, g, p, k1, k2⟩ := k
  refine c_shelf_there k1 hr h0 hi ?_
  rw [BiP_neq]
  refine cdp (fun h => absurd rfl h) fun _ => ?_
  refine k1.cfg ((LdA_b kb rfl).2 ?_)
  refine c_code_Encode_leaf (n := n) (hdd.ext e1) hf hr hn ho fun y h2 o2 e2 => ⟨trivial, ?_⟩
  rw [ex20, ex21, BiP_neq]
  refine cdp (fun h => absurd rfl h) fun _ => ?_
  have sy : Sl (Use (frl lab h)) h2 y (leafOf c n) := Sl.l0 o2 fun b hb => frl_new (by have := e1.le; omega)
  refine c_shelf_lay (kk.ext e2) h0 hi sy (leaf_len hr ho) fun l3 h3 D3 wr3 a3 k3 e3 hwr => ?_
  have e12 := e1.trans e2
  exact r l3 h3 D3 wr3 (a1.trans a3 e12.le) k3 (Lb.wide (a1.ex (Ex.toM e12) e3) (by decide) (by decide)) hwr
/-- A free block has a leaf. -/
theorem c_shelf_Make (k : ShS lab h sp dp c D V S kept rd wr) (hf : cnt c.blocks.toNat S < c.blocks.toNat) (hkS : S kept = true) {x : Value} (d : Nd U h x n) (hfit : n.fits) (hn : n.level = 0) (ho : outerOk c allSpan n = true)
    (r : ∀ i lab' h' D' wr', 0 < i → i < c.blocks.toNat → S i = false → Lat lab lab' h → ShS lab' h' sp dp c D' (upd V i (leafOf c n)) (upd S i true) kept rd wr' → Ex (Lb lab 1 12) h h' → (wr' = wr ∨ wr' = wr + 1) → K (.tuple #[.int .u32 (i : Nat), int 0]) h') :
    Ca f_shelf_Shelf_Make #[ptr sp 0, x] h K := by
  have hb := blocks_eq k.right
  have hdd := d
  obtain ⟨vk, vp, vb, vl, rfl, q1, q2, q3, q4⟩ := d.out
  refine m_shelf_Shelf_Make_ok (bxa (cs := [int n.level, vk, vp, vb, vl]) fun b1 h1 e1 hb1 kb hs1 => ?_)
  have a1 := frl_lat lab h
  have k := (k.lat a1).ext e1
  obtain ⟨hr, hD, hkl, cp, o, g, p, k1, k2⟩ := k
  refine c_shelf_made k1 ?_
  rw [BiP_neq]
  refine cdp (fun h => absurd rfl h) fun _ => ?_
  refine k1.cfg ((LdA_b kb rfl).2 ?_)
  refine c_code_Encode_leaf (n := n) (hdd.ext e1) hfit hr hn ho fun y h2 o2 e2 => ⟨trivial, ?_⟩
  rw [ex20, ex21, BiP_neq]
  refine cdp (fun h => absurd rfl h) fun _ => ?_
  have sy : Sl (Use (frl lab h)) h2 y (leafOf c n) := Sl.l0 o2 fun b hb => frl_new (by have := e1.le; omega)
  have k1 := k1.ext e2
  have k2 := k2.ext e2
  refine k1.get (f := 10) rfl ?_
  refine c_pool_Take k1.pol hf fun i h3 hi1 hi2 hsi p3 e3 => ?_
  have e3' : Ex (Lb (frl lab h) 11 12) h2 h3 := two_lb e3 ⟨by rw [k1.l11]; decide, by rw [k1.l11]; decide⟩ ⟨by rw [k1.l12]; decide, by rw [k1.l12]; decide⟩
  have k3 : ShS (frl lab h) h3 sp dp c D V (upd S i true) kept rd wr :=
    ⟨hr, hD, hkl, cp, o, g, p, ⟨k1.blk.ex e3' (nLb k1.l9 (by decide)), p3, k1.l9, k1.l10, k1.l11, k1.l12, k1.lt⟩, k2.ex e3' (by decide) (Lat.refl _ _)⟩
  rw [ex20, ex21, BiP_neq]
  refine cdp (fun h => absurd rfl h) fun _ => ?_
  refine c_shelf_lay k3 (by omega) hi2 (sy.lat e3' (by decide) (Lat.refl _ _)) (leaf_len hr ho) fun l4 h4 D4 wr4 a4 k4 e4 hwr => ?_
  rw [BiP_neq]
  refine cdp (fun h => absurd rfl h) fun _ => ?_
  have e12 := e1.trans e2
  have e3w : Ex (Lb (frl lab h) 1 12) h2 h3 := Lb.wide e3' (by decide) (by decide)
  exact r i l4 h4 D4 wr4 (by omega) hi2 hsi (a1.trans a4 (by have := e12.le; have := e3.le; omega)) k4 (a1.ex (Ex.toM e12) (e3w.trans (lbx (x := 0) e4))) hwr
/-- A block is kept, the first one. -/
theorem c_shelf_Keep0 (k : ShS lab h sp dp c D V S 0 rd wr) (h0 : 0 < i) (hi : i < c.blocks.toNat)
    (r : ∀ lab' h' D' rd' wr', Lat lab lab' h → ShS lab' h' sp dp c D' V S i rd' wr' → Ex (Lb lab 1 12) h h' → (rd' = rd ∨ rd' = rd + 1) → (wr' = wr ∨ wr' = wr + 1) → K (int 0) h') :
    Ca f_shelf_Shelf_Keep #[ptr sp 0, .int .u32 i] h K := by
  have hb := blocks_eq k.right
  obtain ⟨hr, hD, hkl, cp, o, g, p, k1, k2⟩ := k
  refine m_shelf_Shelf_Keep_ok ?_
  unfold m_shelf_Shelf_Keep
  rw [BiP_neq]
  refine cdp (fun _ => ?_) fun h => absurd (by omega) h
  refine c_shelf_there k1 hr h0 hi ?_
  rw [BiP_neq]
  refine cdp (fun h => absurd rfl h) fun _ => ?_
  unfold m_shelf_Shelf_Keep_j6
  refine c_shelf_made k1 ?_
  rw [BiP_neq]
  refine cdp (fun h => absurd rfl h) fun _ => ?_
  refine k1.get (f := 11) rfl ?_
  rw [BiP_eql]
  unfold m_shelf_Shelf_Keep_j18
  refine cdp (fun h => absurd h (by omega)) fun _ => ?_
  unfold m_shelf_Shelf_Keep_j19
  rw [BiP_neq]
  refine cdp (fun _ => ?_) fun h => absurd (by omega) h
  refine k1.get (f := 9) rfl ?_
  have hp : kpin 0 i = 0 := by unfold kpin; rw [if_neg (by omega)]
  refine c_cache_Pin k2 h0 (by omega) (pins_kept hb.2.2.2.2.2.1) (by omega) fun l1 h1 D1 rd1 wr1 a1 hD1 k2 hrd hwr e1 => ?_
  have k1 := k1.ex e1 (.inl (by decide)) (by decide) a1
  rw [BiP_neq]
  refine cdp (fun h => absurd rfl h) fun _ => ?_
  unfold m_shelf_Shelf_Keep_j28
  refine k1.get (f := 11) rfl ?_
  rw [BiP_neq]
  refine cdp (fun h => absurd rfl h) fun _ => ?_
  unfold m_shelf_Shelf_Keep_j42
  refine Fs_b k1.blk (show 0 + 11 < 12 by decide) rfl fun h2 _ e2 kb2 => ?_
  have e2' : Ex (Lb l1 9 9) h1 h2 := one_lb e2 ⟨by rw [k1.l9]; decide, by rw [k1.l9]; decide⟩
  have k3 : ShC l1 h2 sp c cp dp o g p S i :=
    ⟨kb2, k1.pol.ex e2' (nLb k1.l10 (by decide)) (nLb k1.l11 (by decide)) (nLb k1.l12 (by decide)) (nLb k1.lt (by decide)), k1.l9, k1.l10, k1.l11, k1.l12, k1.lt⟩
  have k2 := (k2.ex e2' (by decide) (Lat.refl _ _)).pin (P' := kpin i) (fun j => by
    by_cases hj : j = i
    · subst hj; rw [upd_same, hp]; unfold kpin; rw [if_pos ⟨rfl, by omega⟩]
    · rw [upd_ne hj]; unfold kpin; rw [if_neg (by simp [hj]), if_neg (by omega)])
  exact r l1 h2 D1 rd1 wr1 a1 ⟨hr, by omega, hi, cp, o, g, p, k3, k2⟩ (a1.ex (lbx (x := 0) e1) (Lb.wide e2' (by decide) (by decide))) hrd hwr
theorem c_shelf_Left (k : ShS lab h sp dp c D V S kept rd wr) (r : K (int (c.blocks.toNat - cnt c.blocks.toNat S : Nat)) h) : Ca f_shelf_Shelf_Left #[ptr sp 0] h K := by
  obtain ⟨hr, hD, hkl, cp, o, g, p, k1, k2⟩ := k
  exact m_shelf_Shelf_Left_ok (eq_ptr_nil (by kernel_rfl) (k1.get (f := 10) rfl (c_pool_Free k1.pol r)))
theorem c_shelf_Config (k : ShS lab h sp dp c D V S kept rd wr) (r : ∀ h', Ext h h' → K c.v h') : Ca f_shelf_Shelf_Config #[ptr sp 0] h K := by
  obtain ⟨hr, hD, hkl, cp, o, g, p, k1, k2⟩ := k
  refine m_shelf_Shelf_Config_ok (ala (cs := [int 0, int 0, int 0, int 0, int 0, int 0, int 0, int 0]) fun b h1 e1 hb kb _ => ?_)
  refine eq_ptr_nil (by kernel_rfl) ((k1.ext e1).cfg ?_)
  refine StA_b (vs := c.cs) kb rfl rfl rfl fun h2 _ e2 kb2 => ?_
  refine (LdA_b kb2 rfl).2 ?_
  exact r h2 (e1.andThen e2 fun x hx => by show ¬ x = b; omega)
end
end Go.Sg
