/-
  Part 11 of a proof: own texts, merged by program.
-/
import Derived.Test.YtfdephgpijheoaaGreatDoorP10
set_option linter.unusedVariables false
set_option linter.unusedSimpArgs false
namespace Go.Sg
open Go Vc
theorem num_fold (v : Nat) : ∀ (w a : Nat), (bytesOf w v).foldl (fun v c => v * 256 + c.toNat) a = a * 256 ^ w + v % 256 ^ w
  | 0, a => by simp [bytesOf, Nat.mod_one]
  | w + 1, a => by
    rw [bytesOf, List.foldl_cons, num_fold v w]
    have h1 : (UInt8.ofNat (v / 256 ^ w)).toNat = v / 256 ^ w % 256 := by simp
    have h2 : v % 256 ^ (w + 1) = v % 256 ^ w + 256 ^ w * (v / 256 ^ w % 256) := by rw [Nat.pow_succ, Nat.mod_mul]
    rw [h1, h2, Nat.pow_succ, Nat.add_mul, Nat.mul_assoc, Nat.mul_comm (256 ^ w) 256, Nat.mul_comm (256 ^ w) (v / 256 ^ w % 256)]
    omega
theorem num_bytes {w v : Nat} (hv : v < 256 ^ w) : numOf (bytesOf w v) = v := by
  unfold numOf
  rw [num_fold, Nat.mod_eq_of_lt hv]; omega
theorem raw_app (a b : List UInt8) : rawOf (a ++ b) 0 a.length = (a, b, 0) := by
  unfold rawOf
  rw [if_neg (by simp), if_pos (by simp), List.take_left, List.drop_left]
theorem raw_bytes (w v : Nat) (b : List UInt8) : rawOf (bytesOf w v ++ b) 0 w = (bytesOf w v, b, 0) := by
  have := raw_app (bytesOf w v) b
  rwa [bytesOf_length] at this
theorem text_pad (s : Str) (n : Nat) (hn : s.length ≤ n) (b : List UInt8) : textOf (padOf s n ++ b) 0 s.length n = (s, b, 0) := by
  have hl : (padOf s n).length = n := by simp [padOf]; omega
  have hr := raw_app (padOf s n) b
  rw [hl] at hr
  unfold textOf
  rw [if_neg (by omega), hr]
  simp only
  rw [if_neg (by omega)]
  have hd : (padOf s n).drop s.length = List.replicate (n - s.length) 0 := by unfold padOf; rw [List.drop_left]
  have ht : (padOf s n).take s.length = s := by unfold padOf; rw [List.take_left]
  rw [hd, ht, if_neg]
  simp
theorem zeros_app (n : Nat) (b : List UInt8) : zerosOf (List.replicate n 0 ++ b) 0 n = (b, 0) := by
  have hr := raw_app (List.replicate n (0 : UInt8)) b
  rw [List.length_replicate] at hr
  unfold zerosOf
  rw [hr]
  simp only
  rw [if_neg]
  simp
section
variable {h : Heap} {K : Kt} {U : Nat → Prop} {x y : Value} {rb : Nat} {l : List UInt8} {c : Config} {n : Node}
theorem c_Equal_byte {m : List UInt8} (s : Sl U h x l) (s2 : Sl U h y m) (hl : l.length ≤ 2 ^ 40) (he : l = m) (r : K (.bool true) h) : Ca f_slices_Equal_byte #[x, y] h K := by
  subst he
  refine m_slices_Equal_byte_ok (s.len (s2.len ?_))
  rw [BiP_neq]
  refine cdp (fun h => absurd rfl h) fun _ => ?_
  refine s.len ?_
  refine lop (σ := Nat) (fun i => [.bool false, int i]) (fun i h' => h' = h ∧ i ≤ l.length) (fun i => l.length - i) 0 rfl ⟨rfl, Nat.zero_le _⟩ ?_
  rintro i h1 N ⟨rfl, hi⟩ hN
  simp only [m_slices_Equal_byte_l6, gv_zero, gv_succ]
  rw [BiP_lss]
  refine cdp (fun hlt => ?_) (fun hge => r)
  have hlt : i < l.length := by omega
  have hx := List.getElem?_eq_getElem hlt
  refine s.ei (x := l[i]) (by omega) (by rw [Int.toNat_natCast]; exact hx) rfl (s2.ei (x := l[i]) (by omega) (by rw [Int.toNat_natCast]; exact hx) rfl ?_)
  rw [BiP_neq]
  refine cdp (fun h => absurd rfl h) fun _ => ?_
  refine add64 (by omega) ?_
  have := hN (i + 1) h1 ⟨rfl, by omega⟩ (by omega)
  simpa using this
theorem c_Num {w v : Nat} {rest : List UInt8} (rd : Rd rb h (bytesOf w v ++ rest) 0) (hw : w = 1 ∨ w = 2 ∨ w = 4 ∨ w = 8) (hv : v < 256 ^ w) (r : ∀ h', Rd rb h' rest 0 → Ex (only rb) h h' → K (.int .u64 v) h') : Ca f_word_Reader_Num #[ptr rb 0, int w] h K := by
  refine c_word_Num rd hw fun h' rd' e' => ?_
  rw [raw_bytes] at rd' ⊢
  simp only at rd' ⊢
  rw [num_bytes hv]
  exact r h' rd' e'
theorem c_Text {s : Str} {m : Nat} {rest : List UInt8} (rd : Rd rb h (padOf s m ++ rest) 0) (hs : s.length ≤ m) (hm : m ≤ 2 ^ 24) (r : ∀ h', Rd rb h' rest 0 → Ex (only rb) h h' → K (str s) h') : Ca f_word_Reader_Text #[ptr rb 0, int s.length, int m] h K := by
  refine c_word_Text rd hm (by omega) fun h' rd' e' => ?_
  rw [text_pad s m hs] at rd' ⊢
  exact r h' rd' e'
theorem c_code_readPair {key val : Str} {rest : List UInt8} (rd : Rd rb h (pairOf c key val ++ rest) 0) (hc : c.Sized) (hk : (key.length : Int) ≤ c.key) (hv : (val.length : Int) ≤ c.val) (r : ∀ h', Rd rb h' rest 0 → Ex (only rb) h h' → K (.tuple #[str key, str val]) h') :
    Ca f_code_readPair #[c.v, ptr rb 0] h K := by
  have hs := hc
  unfold Config.Sized at hs
  have hrb := rd.ne
  refine m_code_readPair_ok (bxa (cs := c.cs) fun b h1 e1 hb k1 _ => ?_)
  have hbr : b ≠ rb := by omega
  have rd1 := rd.ext e1
  unfold pairOf at rd1
  simp only [List.append_assoc] at rd1
  refine c_Num (w := 1) rd1 (.inl rfl) (by omega) fun h2 rd2 e2 => ?_
  rw [CvP_int, wrap64 (by omega) (by omega)]
  refine c_Num (w := 2) rd2 (.inr (.inl rfl)) (by omega) fun h3 rd3 e3 => ?_
  rw [CvP_int, wrap64 (by omega) (by omega)]
  have k3 := (k1.ex e2 hbr).ex e3 hbr
  refine ⟨fun b' _ => b' = b, ?_⟩
  rw [FaP_ptr]
  refine LdX_b (v := int c.key) k3 rfl (fun _ => rfl) ?_
  rw [FaP_ptr]
  refine LdX_b (v := int c.val) k3 rfl (fun _ => rfl) ?_
  have ek : c.key = (c.key.toNat : Int) := by omega
  have ev : c.val = (c.val.toNat : Int) := by omega
  rw [ek, ev]
  refine c_Text rd3 (by omega) (by omega) fun h4 rd4 e4 => ⟨agr_b e4 k3.lt hbr, ?_⟩
  refine c_Text rd4 (by omega) (by omega) fun h5 rd5 e5 => ⟨trivial, ?_⟩
  exact r h5 rd5 ((((Ex.toM e1).trans e2).trans e3).trans e4 |>.trans e5)
theorem c_code_readOuter {ps : List Pair} {rest : List UInt8} (rd : Rd rb h ((ps.flatMap fun p => pairOf c p.key p.val) ++ rest) 0) (hc : c.Sized) (hl : (ps.length : Int) ≤ c.leaf) (hp : ∀ p ∈ ps, (p.key.length : Int) ≤ c.key ∧ (p.val.length : Int) ≤ c.val)
    (r : ∀ y h', Ow h.size t_api_Pair h' y ps → Rd rb h' rest 0 → Ex (only rb) h h' → K (.agg #[int 0, .slice none 0 0, .slice none 0 0, .slice none 0 0, y]) h') :
    Ca f_code_readOuter #[c.v, ptr rb 0, int ps.length] h K := by
  have hs := hc
  unfold Config.Sized at hs
  have hrb := rd.ne
  refine m_code_readOuter_ok (bxa (cs := c.cs) fun b1 h1 e1 hb1 k1 _ => ala (cs := [int 0, .slice none 0 0, .slice none 0 0, .slice none 0 0, .slice none 0 0]) fun b2 h2 e2 hb2 k2 _ => ?_)
  refine ⟨_, #[int 0, .slice none 0 0, .slice none 0 0, .slice none 0 0, .slice none 0 0], rfl, rfl, ?_⟩
  refine alst (vs := [int 0, .slice none 0 0, .slice none 0 0, .slice none 0 0, .slice none 0 0]) rfl rfl rfl fun b3 h3 e3 hb3 k3 _ => ?_
  have e13 := (e1.trans e2).trans e3
  have k1 := (k1.ext e2).ext e3
  have k2 := k2.ext e3
  refine fv (by rw [k1.get]; rfl) ?_
  refine min_int ?_
  have hmin : min (ps.length : Int) c.leaf = ps.length := by omega
  rw [hmin]
  have h12 := e1.le
  have h23 := e2.le
  have h34 := e3.le
  refine lop (σ := Nat × Value) (fun p => [int p.1]) (fun p h' => p.1 ≤ ps.length ∧ Blk h' b1 c.cs ∧ Blk h' b2 [int 0, .slice none 0 0, .slice none 0 0, .slice none 0 0, .slice none 0 0] ∧ Blk h' b3 [int 0, .slice none 0 0, .slice none 0 0, .slice none 0 0, p.2] ∧ Ow h3.size t_api_Pair h' p.2 (ps.take p.1) ∧
    Rd rb h' (((ps.drop p.1).flatMap fun p => pairOf c p.key p.val) ++ rest) 0 ∧ Ex (fun b => b = rb ∨ b = b3) h3 h' ∧ p.2.oneCell' = true) (fun p => ps.length - p.1) (0, .slice none 0 0) rfl ⟨Nat.zero_le _, k1, k2, k3, Ow.nil _ _ _, rd.ext e13, Ex.refl _ _, rfl⟩ ?_
  rintro ⟨i, v⟩ h4 N ⟨hi, k14, k24, k34, o4, rd4, e4, hv1⟩ hN
  simp only at hi k34 o4 rd4 hv1
  simp only [m_code_readOuter_l14, gv_zero, gv_succ]
  rw [BiP_lss]
  refine cdp (fun hlt => ?_) (fun hge => ?_)
  · have hlt : i < ps.length := by omega
    have hp1 := hp ps[i] (List.getElem_mem hlt)
    refine (LdA_b k14 rfl).2 ?_
    rw [List.drop_eq_getElem_cons hlt, List.flatMap_cons, List.append_assoc] at rd4
    refine c_code_readPair rd4 hc hp1.1 hp1.2 fun h5 rd5 e5 => ?_
    rw [ex20, ex21]
    have k15 := k14.ex e5 (by omega : ¬ b1 = rb)
    have k25 := k24.ex e5 (by omega : ¬ b2 = rb)
    have k35 := k34.ex e5 (by omega : ¬ b3 = rb)
    refine fv (by rw [k35.get]; rfl) ?_
    refine ⟨_, #[str ps[i].key, str ps[i].val], rfl, rfl, ?_⟩
    refine bs (n0 := h5.size) (e := t_api_Pair) (zs := #[str [], str []]) [ps[i]] rfl (Nat.le_refl _) rfl (by decide) (cs := #[str ps[i].key, str ps[i].val]) (by kernel_rfl) rfl fun v6 h6 o6 e6 => ?_
    have s6 : Sl No h6 v6 [ps[i]] := o6.sl fun _ _ h => h
    have o5 : Ow h3.size t_api_Pair h6 v (ps.take i) := (o4.ex e5 (fun b hb _ hx => by have hx : b = rb := hx; omega)).ext e6
    have hle5 : h3.size ≤ h6.size := by have := e4.le; have := e5.le; have := e6.le; omega
    refine app T_Pair o5 s6 hle5 (by rw [List.length_take]; simp; omega) (by decide) fun v7 h7 o7 e7 _ => ?_
    have k37 := (k35.ext e6).ex e7 (by omega : ¬ h3.size ≤ b3)
    have hv7 : v7.oneCell' = true := by rcases o7.cases' with ⟨rfl, _⟩ | ⟨_, _, rfl, _⟩ <;> rfl
    rw [FaP_ptr]
    refine StP_b k37 (show 0 + 4 < 5 by decide) (by rw [one_eq]; exact hv7) fun h8 _ e8 k8 => ?_
    refine add64 (by omega) ?_
    have ht : ps.take i ++ [ps[i]] = ps.take (i + 1) := by rw [List.take_add_one, List.getElem?_eq_getElem hlt]; rfl
    rw [ht] at o7
    have := hN (i + 1, v7) h8 ⟨by show i + 1 ≤ _; omega, ((k15.ext e6).ex e7 (by omega : ¬ h3.size ≤ b1)).ex e8 (by omega : ¬ b1 = b3), ((k25.ext e6).ex e7 (by omega : ¬ h3.size ≤ b2)).ex e8 (by omega : ¬ b2 = b3), k8, o7.ex e8 (fun b hb _ hx => by have hx : b = b3 := hx; omega), ?_, ?_, hv7⟩ (by simp only; omega)
    · simpa using this
    · exact ((rd5.ext e6).ex e7 (fun b hb hx => by omega)).ex e8 (fun b hb hx => by have hx : b = b3 := hx; omega)
    · refine ⟨by have := e4.le; have := e5.le; have := e6.le; have := e7.le; have := e8.le; omega, fun b hb hm => ?_⟩
      have hm1 : ¬ b = rb := fun e => hm (.inl e)
      have hm2 : ¬ b = b3 := fun e => hm (.inr e)
      have l4 := e4.le
      have l5 := e5.le
      have l6 := e6.le
      have l7 := e7.le
      rw [e8.eq b (by omega) hm2, e7.eq b (by omega) (by omega), e6.eq b (by omega) (fun x => x), e5.eq b (by omega) hm1, e4.eq b hb hm]
  · have hin : i = ps.length := by omega
    subst hin
    rw [List.take_length] at o4
    rw [List.drop_length, List.flatMap_nil, List.nil_append] at rd4
    unfold m_code_readOuter_j33
    refine (LdA_b k34 rfl).2 ?_
    refine StA_b (vs := [int 0, .slice none 0 0, .slice none 0 0, .slice none 0 0, v]) k24 rfl rfl (by
      have hq : one' v = true := by rw [one_eq]; exact hv1
      show (true && (true && (true && (true && (one' v && true))))) = true
      rw [hq]; rfl) fun h5 _ e5 k5 => ?_
    refine (LdA_b k5 rfl).2 ?_
    refine r v h5 ((o4.ex e5 (fun b hb _ hx => by have hx : b = b2 := hx; omega)).low (by omega)) ?_ ?_
    · exact rd4.ex e5 (fun b hb hx => by have hx : b = b2 := hx; omega)
    · refine ⟨by have := e4.le; have := e5.le; omega, fun b hb hm => ?_⟩
      have hm1 : ¬ b = rb := hm
      have l4 := e4.le
      rw [e5.eq b (by omega) (by omega), e4.eq b (by omega) (by omega), e13.eq b hb (fun x => x)]
def leafOf (c : Config) (n : Node) : List UInt8 := outerOf c n ++ List.replicate (c.bytes.toNat - (outerOf c n).length) 0
theorem outer_fits (hr : c.Right) (ho : outerOk c allSpan n = true) : (∀ p ∈ n.pairs, (p.key.length : Int) ≤ c.key ∧ (p.val.length : Int) ≤ c.val) ∧ n.pairs.length ≤ 1024 ∧ (n.pairs.length : Int) ≤ c.leaf ∧ (outerOf c n).length ≤ c.bytes.toNat ∧ n.kids = [] ∧ n.pivots = [] ∧ n.buf = [] := by
  have hs := hr.1
  have hs' := hs
  unfold Config.Sized at hs
  unfold outerOk at ho
  simp only [Bool.and_eq_true, decide_eq_true_eq] at ho
  obtain ⟨⟨⟨h1, h2⟩, h3⟩, h4⟩ := ho
  have hp : ∀ p ∈ n.pairs, (p.key.length : Int) ≤ c.key ∧ (p.val.length : Int) ≤ c.val := fun p hp => by
    have h4 : n.pairs.any (badPair c allSpan) = false := by simpa using h4
    rw [List.any_eq_false] at h4
    have := h4 p hp
    unfold badPair keyOk at this
    simp only [Bool.or_eq_true, Bool.not_eq_true', Bool.and_eq_false_iff, decide_eq_false_iff_not, decide_eq_true_eq, not_or] at this
    obtain ⟨⟨q1, q2⟩, q3⟩ := this
    omega
  refine ⟨hp, by omega, h2, ?_, List.eq_nil_of_length_eq_zero (by omega), List.eq_nil_of_length_eq_zero (by omega), List.eq_nil_of_length_eq_zero (by omega)⟩
  have hb : c.outer ≤ c.bytes := by have := hr.2.2.2.2.2.2; unfold Config.leastBytes at this; omega
  unfold Config.outer at hb
  rw [if_pos hs'] at hb
  have hl := pairs_len hs' n.pairs hp
  unfold outerOf
  rw [List.length_append, hl]
  have hf : (frontOf 1 0 n.pairs.length 0).length = 8 := by simp [frontOf, bytesOf_length]
  rw [hf]
  have hm : n.pairs.length * (3 + c.key.toNat + c.val.toNat) ≤ c.leaf.toNat * (3 + c.key.toNat + c.val.toNat) := Nat.mul_le_mul_right _ (by omega)
  have hc : ((c.leaf.toNat * (3 + c.key.toNat + c.val.toNat) : Nat) : Int) = c.leaf * (3 + c.key + c.val) := by
    rw [Int.natCast_mul]
    have e1 : ((c.leaf.toNat : Nat) : Int) = c.leaf := by omega
    have e2 : ((3 + c.key.toNat + c.val.toNat : Nat) : Int) = 3 + c.key + c.val := by omega
    rw [e1, e2]
  omega
theorem leaf_len (hr : c.Right) (ho : outerOk c allSpan n = true) : (leafOf c n).length = c.bytes.toNat := by
  have := (outer_fits hr ho).2.2.2.1
  unfold leafOf
  rw [List.length_append, List.length_replicate]; omega
theorem c_node_Right_leaf {s : Span} {v : Value} (d : Nd U h v n) (hf : n.fits) (h0 : n.level = 0) (r : ∀ h', Ext h h' → K (.bool (outerOk c s n)) h') : Ca f_node_Right #[c.v, s.v, v] h K := by
  obtain ⟨vk, vp, vb, vl, rfl, q1, q2, q3, q4⟩ := d.out
  refine m_node_Right_ok (bxa (cs := c.cs) fun b1 h1 e1 hb1 k1 _ => bxa (cs := s.cs) fun b2 h2 e2 hb2 k2 _ => bxa (cs := [int n.level, vk, vp, vb, vl]) fun b3 h3 e3 hb3 k3 _ => ?_)
  have e13 := (e1.trans e2).trans e3
  refine fv (by rw [k3.get]; rfl) ?_
  rw [h0, BiP_lss]
  refine cdp (fun h => absurd h (by omega)) fun _ => ?_
  refine fv (by rw [k3.get]; rfl) ?_
  rw [h0, BiP_eql]
  refine cdp (fun _ => ?_) fun h => absurd rfl h
  refine (LdA_b ((k1.ext e2).ext e3) rfl).2 ((LdA_b (k2.ext e3) rfl).2 ((LdA_b k3 rfl).2 ?_))
  exact c_node_outer (d.ext e13) hf fun h' e' => r h' (e13.trans e')
theorem c_code_Encode_leaf {v : Value} (d : Nd U h v n) (hf : n.fits) (hr : c.Right) (h0 : n.level = 0) (ho : outerOk c allSpan n = true) (r : ∀ y h', Ow h.size t_uint8 h' y (leafOf c n) → Ext h h' → K (.tuple #[y, int 0]) h') : Ca f_code_Encode #[c.v, v] h K := by
  have hfit := outer_fits hr ho
  have hd := d
  obtain ⟨vk, vp, vb, vl, rfl, q1, q2, q3, q4⟩ := d.out
  refine m_code_Encode_ok (bxa (cs := c.cs) fun b1 h1 e1 hb1 k1 _ => bxa (cs := [int n.level, vk, vp, vb, vl]) fun b2 h2 e2 hb2 k2 _ => ?_)
  have e12 := e1.trans e2
  refine (LdA_b (k1.ext e2) rfl).2 (c_conf_Check (c := c) fun h3 e3 => ?_)
  rw [if_pos hr, BiP_neq]
  refine cdp (fun h => absurd rfl h) fun _ => ?_
  have e13 := e12.trans e3
  have k1 := (k1.ext e2).ext e3
  have k2 := k2.ext e3
  refine ⟨fun b' _ => b' = b1 ∨ b' = b2, ?_⟩
  refine LaX_b k1 rfl (fun _ => .inl rfl) (LaX_b k2 rfl (fun _ => .inr rfl) ?_)
  refine c_lex_All fun h4 e4 => ⟨?_, ?_⟩
  · rintro x o _
    rename_i hx
    exact hget_eq (e4.eq _ (by rcases hx with rfl | rfl; exact k1.lt; exact k2.lt) (fun x => x)) o
  have e14 := e13.trans e4
  refine c_node_Right_leaf (n := n) (hd.ext e14) hf h0 fun h5 e5 => ⟨trivial, ?_⟩
  rw [ho, UnP_not]
  show CdP (.bool false) _ _
  rw [CdP_false]
  have e15 := e14.trans e5
  have k1 := (k1.ext e4).ext e5
  have k2 := (k2.ext e4).ext e5
  refine fv (by rw [k2.get]; rfl) ?_
  rw [h0, BiP_gtr]
  refine cdp (fun h => absurd h (by omega)) fun _ => ?_
  unfold m_code_Encode_j23
  refine (LdA_b k1 rfl).2 ((LdA_b k2 rfl).2 ?_)
  refine cvhc (by kernel_rfl) ?_
  show Ca f_code_writeOuter #[c.v, .agg [int n.level, vk, vp, vb, vl].toArray] h5 _
  refine c_code_writeOuter (n := n) (hd.ext e15) hr.1 hfit.2.1 hfit.1 fun y h6 o6 e6 => ?_
  refine fv (by rw [(k1.ext e6).get]; rfl) ?_
  have s6 : Sl No h6 y (outerOf c n) := o6.sl fun _ _ h => h
  refine s6.len ?_
  have hb := hr.2.2.2.2.2.1
  have hb0 : 0 ≤ c.bytes := by have := hr.2.2.2.2.2.2; unfold Config.leastBytes at this; omega
  have hle := hfit.2.2.2.1
  refine sub64 (by omega) ?_
  have eb : c.bytes - ((outerOf c n).length : Int) = ((c.bytes.toNat - (outerOf c n).length : Nat) : Int) := by omega
  rw [eb]
  refine bld_zer (o6.low (Nat.zero_le _)) (by omega) fun y7 h7 o7 b7 => ?_
  have hy : ∀ b, y.ownBlock = some b → h5.size ≤ b := o6.block
  have e57 : Ex (fun b => h5.size ≤ b) h6 h7 := b7.ex.mono fun b _ hb => hy b hb
  refine r y7 h7 (o7.anew fun b hb => ?_) ((e15.trans e6).own e57 e15.le)
  have hl5 := e15.le
  rcases b7.at_ with h | ⟨g, h, hg⟩
  · rw [h] at hb; have := hy b hb; omega
  · rw [h] at hb; cases hb; have := e6.le; omega
end
end Go.Sg
namespace Go.Sg
open Go Vc
section
variable {h : Heap} {K : Kt} {U : Nat → Prop} {x : Value} {c : Config} {n : Node}
theorem Sl.no {α : Type} [El α] {U : Nat → Prop} {h : Heap} {v : Value} {l : List α} (s : Sl U h v l) : Sl No h v l := s.ex (Ex.refl No h) (fun _ _ x => x.elim) (fun _ _ x => x.elim)
theorem z2 : bytesOf 2 0 = List.replicate 2 0 := by decide
theorem c_code_Decode_leaf (s : Sl U h x (leafOf c n)) (hr : c.Right) (h0 : n.level = 0) (ho : outerOk c allSpan n = true)
    (r : ∀ y h', Ow h.size t_api_Pair h' y n.pairs → Ext h h' → K (.tuple #[.agg #[int 0, .slice none 0 0, .slice none 0 0, .slice none 0 0, y], int 0]) h') : Ca f_code_Decode #[c.v, x] h K := by
  obtain ⟨f1, f2, f3, f4, f5, f6, f7⟩ := outer_fits hr ho
  have hlen := leaf_len hr ho
  have hb := hr.2.2.2.2.2.1
  have hlv : n = ⟨0, [], [], [], n.pairs⟩ := by cases n; simp only at *; subst h0 f5 f6 f7; rfl
  refine m_code_Decode_ok (bxa (cs := c.cs) fun b1 h1 e1 hb1 k1 _ => ala (cs := [int 0, .slice none 0 0, .slice none 0 0, .slice none 0 0, .slice none 0 0]) fun b2 h2 e2 hb2 k2 _ => ?_)
  have k1 := k1.ext e2
  refine (LdA_b k1 rfl).2 (c_conf_Check (c := c) fun h3 e3 => ?_)
  rw [if_pos hr, BiP_neq]
  refine cdp (fun h => absurd rfl h) fun _ => ?_
  have e13 := (e1.trans e2).trans e3
  have k1 := k1.ext e3
  have k2 := k2.ext e3
  refine c_word_Open (s.ext e13) (by omega) fun rb h4 hrb rd4 e4 => ?_
  have k1 := k1.ext e4
  have k2 := k2.ext e4
  have hl4 := e4.le
  have n1 : ¬ b1 = rb := by have := e2.le; have := e3.le; omega
  have n2 : ¬ b2 = rb := by have := e3.le; omega
  have e14 := e13.trans e4
  have hbs : leafOf c n = bytesOf 1 1 ++ (bytesOf 1 0 ++ (bytesOf 2 n.pairs.length ++ (bytesOf 2 0 ++ (List.replicate 2 0 ++ ((n.pairs.flatMap fun p => pairOf c p.key p.val) ++ List.replicate (c.bytes.toNat - (outerOf c n).length) 0))))) := by
    unfold leafOf outerOf frontOf
    rw [← z2]; simp only [List.append_assoc]
  rw [hbs] at rd4
  refine c_Num (w := 1) (v := 1) rd4 (.inl rfl) (by decide) fun h5 rd5 e5 => ?_
  refine c_Num (w := 1) (v := 0) rd5 (.inl rfl) (by decide) fun h6 rd6 e6 => ?_
  rw [CvP_int, wrap64 (by decide) (by decide)]
  refine c_Num (w := 2) (v := n.pairs.length) rd6 (.inr (.inl rfl)) (by omega) fun h7 rd7 e7 => ?_
  rw [CvP_int, wrap64 (by omega) (by omega)]
  refine c_Num (w := 2) (v := 0) rd7 (.inr (.inl rfl)) (by decide) fun h8 rd8 e8 => ?_
  rw [CvP_int, wrap64 (by decide) (by decide)]
  refine c_word_Zeros (n := 2) rd8 (by decide) fun h9 rd9 e9 => ?_
  rw [zeros_app] at rd9
  simp only at rd9
  have e49 : Ex (only rb) h4 h9 := (((e5.trans e6).trans e7).trans e8).trans e9
  have k1 := k1.ex e49 n1
  have k2 := k2.ex e49 n2
  refine ⟨_, #[int (-1), .slice none 0 0, .slice none 0 0, .slice none 0 0, .slice none 0 0], rfl, rfl, ?_⟩
  refine alst (vs := [int (-1), .slice none 0 0, .slice none 0 0, .slice none 0 0, .slice none 0 0]) rfl rfl rfl fun b3 h10 e10 hb3 k3 _ => ?_
  have k1 := k1.ext e10
  have k2 := k2.ext e10
  have rd10 := rd9.ext e10
  rw [BiP_eql]
  refine cdp (fun _ => ?_) fun h => absurd rfl h
  refine (LdA_b k1 rfl).2 ?_
  have hrl := rd9.ne
  have n3 : ¬ b3 = rb := by omega
  refine c_code_readOuter rd10 hr.1 f3 f1 fun y h11 o11 rd11 e11 => ?_
  have k1 := k1.ex e11 n1
  have k2 := k2.ex e11 n2
  have k3 := k3.ex e11 n3
  have hy1 : one' y = true := by rcases o11.cases' with ⟨rfl, _⟩ | ⟨_, _, rfl, _⟩ <;> rfl
  refine StA_b (vs := [int 0, .slice none 0 0, .slice none 0 0, .slice none 0 0, y]) k3 rfl rfl (by
      show (true && (true && (true && (true && (one' y && true))))) = true
      rw [hy1]; rfl) fun h12 _ e12 k3' => ?_
  have l2 := e2.le
  have l3 := e3.le
  have l9 := e49.le
  have l10 := e10.le
  have l11 := e11.le
  have k1 := k1.ex e12 (by omega : ¬ b1 = b3)
  have k2 := k2.ex e12 (by omega : ¬ b2 = b3)
  have rd12 := rd11.ex e12 (fun b hb hx => by have hx : b = b3 := hx; omega)
  have o12 := o11.ex e12 (fun b hb _ hx => by have hx : b = b3 := hx; omega)
  have eAll : Ext h h12 := by
    refine ⟨by have := e14.le; have := e12.le; omega, fun b hb _ => ?_⟩
    have hlt : b < h3.size := Nat.lt_of_lt_of_le hb e13.le
    rw [e12.eq b (by omega) (by show ¬ b = b3; omega), e11.eq b (by omega) (by show ¬ b = rb; omega), e10.eq b (by omega) (fun x => x), e49.eq b (by omega) (by show ¬ b = rb; omega), e14.eq b hb (fun x => x)]
  unfold m_code_Decode_j44
  refine c_word_Err rd12 ?_
  rw [BiP_neq]
  refine cdp (fun h => absurd rfl h) fun _ => ?_
  refine (LdA_b k1 rfl).2 ((LdA_b k3' rfl).2 ?_)
  have d12 : Nd No h12 (.agg [int 0, .slice none 0 0, .slice none 0 0, .slice none 0 0, y].toArray) n := by
    rw [hlv]
    exact ⟨_, _, _, _, rfl, Sl.nil _ _, Sl.nil _ _, Sl.nil _ _, o12.sl fun _ _ h => h⟩
  have hf : n.fits := by
    refine ⟨by rw [f5]; simp, by rw [f6]; simp, by rw [f7]; simp, by omega⟩
  refine c_code_Encode_leaf d12 hf hr h0 ho fun z h13 o13 e13' => ?_
  rw [ex20, ex21, BiP_neq]
  refine cdp (fun h => absurd rfl h) fun _ => ?_
  have k2 := k2.ext e13'
  have k3' := k3'.ext e13'
  refine c_Equal_byte (o13.sl (U := No) fun _ _ h => h) ((s.ext eAll).ext e13').no (by omega) rfl ?_
  rw [UnP_not]
  show m_code_Decode_j65 _ _ (.bool false) _ _
  unfold m_code_Decode_j65
  rw [CdP_false]
  unfold m_code_Decode_j69
  refine (LdA_b k3' rfl).2 ?_
  refine StA_b (vs := [int 0, .slice none 0 0, .slice none 0 0, .slice none 0 0, y]) k2 rfl rfl (by
      show (true && (true && (true && (true && (one' y && true))))) = true
      rw [hy1]; rfl) fun h14 _ e14' k2' => ?_
  refine (LdA_b k2' rfl).2 ?_
  have o14 := (o12.ext e13').ex e14' (fun b hb _ hx => by have hx : b = b2 := hx; omega)
  refine r y h14 (o14.low (by have := e14.le; omega)) ?_
  exact (eAll.trans e13').andThen e14' fun b hb => by show ¬ b = b2; have := e1.le; omega
end
end Go.Sg
namespace Go.Sg
open Go Vc
def kpin (kept i : Nat) : Nat := if i = kept ∧ i ≠ 0 then 1 else 0
structure ShC (lab : Nat → Nat) (h : Heap) (sp : Nat) (c : Config) (cp dp o g p : Nat) (S : Nat → Bool) (kept : Nat) : Prop where
  blk : Blk h sp (c.cs ++ [ptr dp 0, ptr cp 0, ptr o 0, .int .u32 kept])
  pol : Pol o g p h c.blocks.toNat S
  l9 : lab sp = 9
  l10 : lab o = 10
  l11 : lab p = 11
  l12 : lab g = 12
  lt : lab gTab = 0
structure ShS (lab : Nat → Nat) (h : Heap) (sp dp : Nat) (c : Config) (D : List (List UInt8)) (V : Nat → List UInt8) (S : Nat → Bool) (kept : Nat) (rd wr : BitVec 64) : Prop where
  right : c.Right
  dl : D.length = c.blocks.toNat
  kl : kept < c.blocks.toNat
  out : ∃ cp o g p, ShC lab h sp c cp dp o g p S kept ∧ CaS lab h cp dp c.frames.toNat c.bytes.toNat D V (kpin kept) rd wr
section
variable {lab lab' : Nat → Nat} {h h' : Heap} {sp cp dp o g p kept i : Nat} {c : Config} {D D' : List (List UInt8)} {V : Nat → List UInt8} {P : Nat → Nat} {S : Nat → Bool} {rd wr rd' wr' : BitVec 64} {K : Kt} {n : Node}
theorem ShC.ex {lo hi : Nat} (k : ShC lab h sp c cp dp o g p S kept) (e : Ex (Lb lab lo hi) h h') (h8 : hi ≤ 8 ∨ 13 ≤ lo) (h0 : 0 < lo) (a : Lat lab lab' h) : ShC lab' h' sp c cp dp o g p S kept := by
  have r := k.pol.row.lt
  have ot := k.pol.blk.lt
  have tt := k.pol.tz.lt
  exact ⟨k.blk.ex e (nLb k.l9 (by omega)), k.pol.ex e (nLb k.l10 (by omega)) (nLb k.l11 (by omega)) (nLb k.l12 (by omega)) (nLb k.lt (by omega)), (a _ k.blk.lt).trans k.l9, (a _ ot).trans k.l10, (a _ r.1).trans k.l11, (a _ r.2).trans k.l12, (a _ tt).trans k.lt⟩
def loc (lab : Nat → Nat) (h : Heap) (b : Nat) : Nat → Nat := upd (frl lab h) b 99
theorem loc_lat {b : Nat} (lab : Nat → Nat) (hb : h.size ≤ b) : Lat lab (loc lab h b) h := fun x hx => (upd_ne (by omega)).trans (frl_lat lab h x hx)
theorem loc_at {b : Nat} : loc lab h b b = 99 := upd_same
theorem ShC.ext (k : ShC lab h sp c cp dp o g p S kept) (e : Ext h h') : ShC lab h' sp c cp dp o g p S kept :=
  k.ex (lo := 1) (hi := 1) e.toM (.inl (by decide)) (by decide) (Lat.refl _ _)
theorem Lat.fw {lo hi : Nat} (a : Lat lab lab' h) (e : Ex (Lb lab lo hi) h h') : Ex (Lb lab' lo hi) h h' :=
  e.mono fun x hx y => by show lo ≤ lab' x ∧ lab' x ≤ hi; rw [a x hx]; exact y
theorem Cok.ex9 {s : CSt} {nf m : Nat} (k : Cok lab h s nf m D rd wr) {lo hi : Nat} (e : Ex (Lb lab lo hi) h h') (h9 : 9 ≤ lo) : Cok lab h' s nf m D rd wr :=
  ⟨k.blk.ex e (nLb k.l1 (by omega)), k.dev.ex e (nLb k.l6 (by omega)) (nLb k.l7 (by omega)), k.fr.ex e (nLb k.l2 (by omega)), k.fl, k.f64, by
    obtain ⟨es, cl, q1, q2⟩ := k.mp; exact ⟨es, cl, e.get q1 (nLb k.l3 (by omega)), q2⟩, k.em.exb e (fun b hb => nLb (k.l8 b hb) (by omega)),
    k.row.ex e (nLb k.l4 (by omega)) (nLb k.l5 (by omega)), k.l1, k.l2, k.l3, k.l4, k.l5, k.l6, k.l7, k.l8⟩
theorem CaS.ex {nf m : Nat} (k : CaS lab h cp dp nf m D V P rd wr) {lo hi : Nat} (e : Ex (Lb lab lo hi) h h') (h9 : 9 ≤ lo) (a : Lat lab lab' h) : CaS lab' h' cp dp nf m D V P rd wr := by
  obtain ⟨s, E, q1, q2, q3, q4, q5⟩ := k.out
  exact ⟨s, E, q1, q2, (q3.lat a).ex9 (a.fw e) h9, q4.ex e (by omega) a, q5⟩
theorem CaS.ext {nf m : Nat} (k : CaS lab h cp dp nf m D V P rd wr) (e : Ext h h') : CaS lab h' cp dp nf m D V P rd wr := k.ex (lo := 9) (hi := 9) e.toM (by decide) (Lat.refl _ _)
theorem CaS.pin {nf m : Nat} {P' : Nat → Nat} (k : CaS lab h cp dp nf m D V P rd wr) (e : ∀ j, P' j = P j) : CaS lab h cp dp nf m D V P' rd wr := by
  have : P' = P := funext e
  rw [this]; exact k
theorem blocks_eq (hr : c.Right) : c.blocks = (c.blocks.toNat : Int) ∧ c.bytes = (c.bytes.toNat : Int) ∧ c.frames = (c.frames.toNat : Int) ∧ 5 ≤ c.blocks.toNat ∧ c.blocks.toNat ≤ 65536 ∧ 8 ≤ c.frames.toNat ∧ c.frames.toNat ≤ 64 := by
  have h1 := hr.2.1
  have h2 := hr.2.2.1
  have h3 := hr.2.2.2.1
  have h4 := hr.2.2.2.2.1
  have h5 := hr.2.2.2.2.2.2
  unfold Config.leastBytes at h5
  omega
theorem c_shelf_made (k : ShC lab h sp c cp dp o g p S kept) (r : K (int 0) h) : Ca f_shelf_Shelf_made #[ptr sp 0] h K := by
  refine m_shelf_Shelf_made_ok (eq_ptr_nil (by kernel_rfl) (fl (by rw [k.blk.get]; rfl) ?_))
  refine eq_ptr_nil (by kernel_rfl) ?_
  exact r
theorem c_shelf_there (k : ShC lab h sp c cp dp o g p S kept) (hr : c.Right) (h0 : 0 < i) (hi : i < c.blocks.toNat) (r : K (int 0) h) : Ca f_shelf_Shelf_there #[ptr sp 0, .int .u32 i] h K := by
  have hb := blocks_eq hr
  refine m_shelf_Shelf_there_ok (eq_ptr_nil (by kernel_rfl) (fl (by rw [k.blk.get]; rfl) ?_))
  refine eq_ptr_nil (by kernel_rfl) ?_
  unfold m_shelf_Shelf_there_j12
  show BiP .eql (.int .u32 i) (.int .u32 0) _
  rw [BiP_eql]
  refine cdp (fun h => absurd h (by omega)) fun _ => ?_
  rw [CvP_int, wrap64 (by omega) (by omega), NilP_ptr, FaP_ptr]
  refine fv (v := int c.blocks) (by rw [k.blk.get]; rfl) ?_
  rw [BiP_geq]
  unfold m_shelf_Shelf_there_j23
  exact cdp (fun h => absurd h (by omega)) fun _ => r
theorem kpin_bd (kept j : Nat) : kpin kept j ≤ 1 := by unfold kpin; split <;> omega
theorem upd_kpin {Q : Nat → Nat} {i : Nat} : ∀ j, Q j = upd (upd Q i (Q i + 1)) i (upd Q i (Q i + 1) i - 1) j := fun j => by
  by_cases hj : j = i
  · subst hj; rw [upd_same, upd_same]; omega
  · rw [upd_ne hj, upd_ne hj]
theorem ShC.get {f : Nat} {v : Value} (k : ShC lab h sp c cp dp o g p S kept) (hf : (c.cs ++ [ptr dp 0, ptr cp 0, ptr o 0, .int .u32 kept])[f]? = some v) {R : Value → Prop} (r : R v) : Fl f (ptr sp 0) h R := fl (by rw [k.blk.get, Nat.zero_add]; exact hf) r
theorem ShC.cfg (k : ShC lab h sp c cp dp o g p S kept) {R : Value → Prop} (r : R c.v) : Fla 0 8 (ptr sp 0) h R := by
  unfold Fla
  rw [NilP_ptr, FaP_ptr]
  refine LdA_at (cs := c.cs) (fun j v hj => ?_) rfl r
  rw [k.blk.get]
  have hlt := (List.getElem?_eq_some_iff.1 hj).1
  rw [Nat.zero_add, List.getElem?_append_left hlt]; exact hj
theorem ShC.lat (k : ShC lab h sp c cp dp o g p S kept) (a : Lat lab lab' h) : ShC lab' h sp c cp dp o g p S kept := k.ex (lo := 1) (hi := 1) (Ex.refl _ _) (.inl (by decide)) (by decide) a
theorem CaS.lat {nf m : Nat} (k : CaS lab h cp dp nf m D V P rd wr) (a : Lat lab lab' h) : CaS lab' h cp dp nf m D V P rd wr := k.ex (lo := 9) (hi := 9) (Ex.refl _ _) (by decide) a
theorem ShS.lat (k : ShS lab h sp dp c D V S kept rd wr) (a : Lat lab lab' h) : ShS lab' h sp dp c D V S kept rd wr := by
  obtain ⟨hr, hD, hkl, cp, o, g, p, k1, k2⟩ := k
  exact ⟨hr, hD, hkl, cp, o, g, p, k1.lat a, k2.lat a⟩
theorem ShS.ext (k : ShS lab h sp dp c D V S kept rd wr) (e : Ext h h') : ShS lab h' sp dp c D V S kept rd wr := by
  obtain ⟨hr, hD, hkl, cp, o, g, p, k1, k2⟩ := k
  exact ⟨hr, hD, hkl, cp, o, g, p, k1.ext e, k2.ext e⟩
theorem pins_kept (hf : 8 ≤ c.frames.toNat) : ∃ Ps : List Nat, Ps.length < c.frames.toNat ∧ ∀ j, 0 < kpin kept j → j ∈ Ps := by
  refine ⟨[kept], by simp; omega, fun j hj => ?_⟩
  unfold kpin at hj
  split at hj
  · rename_i h; simp [h.1]
  · omega
theorem lbx {x : Nat} (e : Ex (Lb lab 1 8) h h') : Ex (Lb lab 1 12) h h' := Lb.wide e (by decide) (by decide)
theorem c_shelf_Load (k : ShS lab h sp dp c D V S kept rd wr) (h0 : 0 < i) (hi : i < c.blocks.toNat) (hV : V i = leafOf c n) (hn : n.level = 0) (ho : outerOk c allSpan n = true)
    (r : ∀ lab' h' D' rd' wr' v, Lat lab lab' h → ShS lab' h' sp dp c D' V S kept rd' wr' → Nd (Use lab') h' v n → Ex (Lb lab 1 12) h h' → (rd' = rd ∨ rd' = rd + 1) → (wr' = wr ∨ wr' = wr + 1) → K (.tuple #[v, int 0]) h') :
    Ca f_shelf_Shelf_Load #[ptr sp 0, .int .u32 i] h K := by
  have hb := blocks_eq k.right
  have kk := k
  refine m_shelf_Shelf_Load_ok (ala (cs := [int 0, .slice none 0 0, .slice none 0 0, .slice none 0 0, .slice none 0 0]) fun b1 h1 e1 hb1 kb hs1 => ?_)
  have a1 : Lat lab (loc lab h b1) h := loc_lat lab (by omega)
  obtain ⟨hr, hD, hkl, cp, o, g, p, k1, k2⟩ := (k.lat a1).ext e1
  obtain ⟨l1, hl1⟩ : ∃ l1, l1 = loc lab h b1 := ⟨_, rfl⟩
  have q1 : l1 b1 = 99 := by rw [hl1]; exact loc_at
  rw [← hl1] at a1 k1 k2
  refine c_shelf_there k1 hr h0 hi ?_
  rw [BiP_neq]
  refine cdp (fun h => absurd rfl h) fun _ => ?_
  refine k1.get (f := 9) rfl ?_
  refine c_cache_Pin k2 h0 (by omega) (pins_kept hb.2.2.2.2.2.1) (by have := kpin_bd kept i; omega) fun l2 h2 D2 rd2 wr2 a2 hD2 k2 hrd hwr e2 => ?_
  have k1 := k1.ex e2 (.inl (by decide)) (by decide) a2
  have kb := kb.ex e2 (nLb q1 (by decide))
  have hb1l : b1 < h1.size := by omega
  have q2 : l2 b1 = 99 := (a2 b1 hb1l).trans q1
  rw [BiP_neq]
  refine cdp (fun h => absurd rfl h) fun _ => ?_
  refine k1.get (f := 9) rfl ?_
  have a3 := frl_lat l2 h2
  have k1 := k1.lat a3
  have k2 := k2.lat a3
  have hh2 := e2.le
  have q3 : frl l2 h2 b1 = 99 := (a3 b1 (by omega)).trans q2
  refine c_cache_Read k2 (by rw [upd_same]; omega) fun x h3 o3 e3 => ?_
  have k1 := k1.ext e3
  have k2 := k2.ext e3
  have kb := kb.ext e3
  have hh3 := e3.le
  rw [ex20, ex21]
  refine k1.get (f := 9) rfl ?_
  refine c_cache_Unpin k2 (by rw [upd_same]; omega) (by rw [upd_same]; have := kpin_bd kept i; omega) fun h4 k4 e4 => ?_
  have k1 := k1.ex e4 (.inl (by decide)) (by decide) (Lat.refl _ h3)
  have kb := kb.ex e4 (nLb q3 (by decide))
  have k2 := k4.pin (P' := kpin kept) upd_kpin
  have hh4 := e4.le
  rw [BiP_neq]
  refine cdp (fun h => absurd rfl h) fun _ => ?_
  refine k1.cfg ?_
  have sx : Sl No h4 x (leafOf c n) := by
    rw [hV] at o3
    exact (o3.exb e4 fun b hb => nLb (frl_new (o3.block b hb)) (by decide)).sl fun _ _ h => h
  have a5 := frl_lat (frl l2 h2) h4
  have k1 := k1.lat a5
  have k2 := k2.lat a5
  have q5 : frl (frl l2 h2) h4 b1 = 99 := (a5 b1 (by omega)).trans q3
  refine c_code_Decode_leaf sx hr hn ho fun y h5 o5 e5 => ?_
  have k1 := k1.ext e5
  have k2 := k2.ext e5
  have kb := kb.ext e5
  have hh5 := e5.le
  rw [ex20, ex21]
  have hy1 : one' y = true := by rw [one_eq]; exact o5.one
  refine StA_b (vs := [int 0, .slice none 0 0, .slice none 0 0, .slice none 0 0, y]) kb rfl rfl (by
      show (true && (true && (true && (true && (one' y && true))))) = true
      rw [hy1]; rfl) fun h6 _ e6 kb' => ?_
  refine (LdA_b kb' rfl).2 ?_
  have e6' : Ex (Lb (frl (frl l2 h2) h4) 99 99) h5 h6 := one_lb e6 ⟨by rw [q5]; decide, by rw [q5]; decide⟩
  have k1 := k1.ex e6' (.inr (by decide)) (by decide) (Lat.refl _ h5)
  have k2 := k2.ex e6' (by decide) (Lat.refl _ h5)
  have a6 : Lat lab (frl (frl l2 h2) h4) h := ((a1.trans a2 e1.le).trans a3 (by omega)).trans a5 (by omega)
  have hlev : n = ⟨0, [], [], [], n.pairs⟩ := by
    obtain ⟨f1, f2, f3, f4, f5, f6, f7⟩ := outer_fits hr ho
    cases n; simp only at *; subst hn f5 f6 f7; rfl
  refine r _ h6 D2 rd2 wr2 _ a6 ⟨hr, by rw [hD2]; exact hD, hkl, cp, o, g, p, k1, k2⟩ ?_ ?_ hrd hwr
  · rw [hlev]
    refine ⟨_, _, _, _, rfl, Sl.nil _ _, Sl.nil _ _, Sl.nil _ _, ?_⟩
    exact (o5.exb e6 fun b hb hx => by have hx : b = b1 := hx; have := o5.block b hb; omega).sl fun b hb hu => hu (frl_new hb)
  · refine ⟨by have := e1.le; have := e6.le; omega, fun b hb hm => ?_⟩
    have hx : ∀ {l : Nat → Nat}, l b = lab b → ¬ Lb l 1 8 b := fun hl x => hm ⟨by rw [← hl]; exact x.1, by rw [← hl]; have := x.2; omega⟩
    have h1l := e1.le
    rw [e6.eq b (by omega) (by show ¬ b = b1; omega), e5.eq b (by omega) (fun x => x), e4.eq b (by omega) (hx (((a1.trans a2 e1.le).trans a3 (by omega)) b hb)), e3.eq b (by omega) (fun x => x), e2.eq b (by omega) (hx (a1 b hb)), e1.eq b hb (fun x => x)]
end
end Go.Sg
namespace Go.Sg
open Go Vc
section
variable {lab lab' : Nat → Nat} {h h' : Heap} {sp cp dp o g p kept i : Nat} {c : Config} {D D' : List (List UInt8)} {V : Nat → List UInt8} {P : Nat → Nat} {S : Nat → Bool} {rd wr rd' wr' : BitVec 64} {K : Kt} {n : Node} {U : Nat → Prop}
theorem c_shelf_lay (k : ShS lab h sp dp c D V S kept rd wr) (h0 : 0 < i) (hi : i < c.blocks.toNat) {x : Value} {bs : List UInt8} (sx : Sl (Use lab) h x bs) (hl : bs.length = c.bytes.toNat)
    (r : ∀ lab' h' D' wr', Lat lab lab' h → ShS lab' h' sp dp c D' (upd V i bs) S kept rd wr' → Ex (Lb lab 1 8) h h' → (wr' = wr ∨ wr' = wr + 1) → K (int 0) h') :
    Ca f_shelf_Shelf_lay #[ptr sp 0, .int .u32 i, x] h K := by
  have hb := blocks_eq k.right
  obtain ⟨hr, hD, hkl, cp, o, g, p, k1, k2⟩ := k
  refine m_shelf_Shelf_lay_ok (k1.get (f := 11) rfl ?_)
  rw [BiP_eql]
  refine cdp (fun he => ?_) (fun he => ?_)
  · have he : i = kept := by omega
    refine k1.get (f := 9) rfl ?_
    have hp : 0 < kpin kept i := by unfold kpin; rw [if_pos ⟨he, by omega⟩]; omega
    refine c_cache_Write k2 hp sx hl fun l1 h1 a1 k2 e1 => ?_
    exact r l1 h1 D wr a1 ⟨hr, hD, hkl, cp, o, g, p, k1.ex e1 (.inl (by decide)) (by decide) a1, k2⟩ e1 (.inl rfl)
  · have he : i ≠ kept := by omega
    refine k1.get (f := 9) rfl ?_
    have hp : kpin kept i = 0 := by unfold kpin; rw [if_neg (by simp [he])]
    refine c_cache_Fresh k2 h0 (by omega) (pins_kept hb.2.2.2.2.2.1) hp fun l1 h1 D1 wr1 a1 hD1 k2 hwr e1 => ?_
    have k1 := k1.ex e1 (.inl (by decide)) (by decide) a1
    rw [BiP_neq]
    refine cdp (fun h => absurd rfl h) fun _ => ?_
    refine k1.get (f := 9) rfl ?_
    refine c_cache_Write k2 (by rw [upd_same]; decide) (sx.lat e1 (by decide) a1) hl fun l2 h2 a2 k2 e2 => ?_
    have k1 := k1.ex e2 (.inl (by decide)) (by decide) a2
    refine k1.get (f := 9) rfl ?_
    refine c_cache_Unpin k2 (by rw [upd_same]; decide) (by rw [upd_same]; decide) fun h3 k2 e3 => ?_
    have k1 := k1.ex e3 (.inl (by decide)) (by decide) (Lat.refl _ _)
    have hV : upd (upd V i (List.replicate c.bytes.toNat 0)) i bs = upd V i bs := by
      funext j
      by_cases hj : j = i
      · subst hj; rw [upd_same, upd_same]
      · rw [upd_ne hj, upd_ne hj, upd_ne hj]
    rw [hV] at k2
    have a12 := a1.trans a2 e1.le
    have k2 := k2.pin (P' := kpin kept) (fun j => by
      by_cases hj : j = i
      · subst hj; rw [upd_same, upd_same, hp]
      · rw [upd_ne hj, upd_ne hj])
    exact r l2 h3 D1 wr1 a12 ⟨hr, by omega, hkl, cp, o, g, p, k1, k2⟩ (a12.ex (a1.ex e1 e2) e3) hwr
theorem Sl.l0 {α : Type} [El α] {n0 e} {v : Value} {l : List α} (o : Ow n0 e h v l) (hn : ∀ b, n0 ≤ b → lab b = 0) : Sl (Use lab) h v l := o.sl fun b hb hu => hu (hn b hb)
theorem c_shelf_Save (k : ShS lab h sp dp c D V S kept rd wr) (h0 : 0 < i) (hi : i < c.blocks.toNat) {x : Value} (d : Nd U h x n) (hf : n.fits) (hn : n.level = 0) (ho : outerOk c allSpan n = true)
    (r : ∀ lab' h' D' wr', Lat lab lab' h → ShS lab' h' sp dp c D' (upd V i (leafOf c n)) S kept rd wr' → Ex (Lb lab 1 12) h h' → (wr' = wr ∨ wr' = wr + 1) → K (int 0) h') :
    Ca f_shelf_Shelf_Save #[ptr sp 0, .int .u32 i, x] h K := by
  have hb := blocks_eq k.right
  have hdd := d
  obtain ⟨vk, vp, vb, vl, rfl, q1, q2, q3, q4⟩ := d.out
  refine m_shelf_Shelf_Save_ok (bxa (cs := [int n.level, vk, vp, vb, vl]) fun b1 h1 e1 hb1 kb hs1 => ?_)
  have a1 := frl_lat lab h
  have k := (k.lat a1).ext e1
  have kk := k
  obtain ⟨hr, hD, hkl, cp, o, g, p, k1, k2⟩ := k
  refine c_shelf_there k1 hr h0 hi ?_
  rw [BiP_neq]
  refine cdp (fun h => absurd rfl h) fun _ => ?_
  refine k1.cfg ((LdA_b kb rfl).2 ?_)
  refine c_code_Encode_leaf (n := n) (hdd.ext e1) hf hr hn ho fun y h2 o2 e2 => ⟨trivial, ?_⟩
  rw [ex20, ex21, BiP_neq]
  refine cdp (fun h => absurd rfl h) fun _ => ?_
  have sy : Sl (Use (frl lab h)) h2 y (leafOf c n) := Sl.l0 o2 fun b hb => frl_new (by have := e1.le; omega)
  refine c_shelf_lay (kk.ext e2) h0 hi sy (leaf_len hr ho) fun l3 h3 D3 wr3 a3 k3 e3 hwr => ?_
  have e12 := e1.trans e2
  exact r l3 h3 D3 wr3 (a1.trans a3 e12.le) k3 (Lb.wide (a1.ex (Ex.toM e12) e3) (by decide) (by decide)) hwr
theorem c_shelf_Make (k : ShS lab h sp dp c D V S kept rd wr) (hf : cnt c.blocks.toNat S < c.blocks.toNat) (hkS : S kept = true) {x : Value} (d : Nd U h x n) (hfit : n.fits) (hn : n.level = 0) (ho : outerOk c allSpan n = true)
    (r : ∀ i lab' h' D' wr', 0 < i → i < c.blocks.toNat → S i = false → Lat lab lab' h → ShS lab' h' sp dp c D' (upd V i (leafOf c n)) (upd S i true) kept rd wr' → Ex (Lb lab 1 12) h h' → (wr' = wr ∨ wr' = wr + 1) → K (.tuple #[.int .u32 (i : Nat), int 0]) h') :
    Ca f_shelf_Shelf_Make #[ptr sp 0, x] h K := by
  have hb := blocks_eq k.right
  have hdd := d
  obtain ⟨vk, vp, vb, vl, rfl, q1, q2, q3, q4⟩ := d.out
  refine m_shelf_Shelf_Make_ok (bxa (cs := [int n.level, vk, vp, vb, vl]) fun b1 h1 e1 hb1 kb hs1 => ?_)
  have a1 := frl_lat lab h
  have k := (k.lat a1).ext e1
  obtain ⟨hr, hD, hkl, cp, o, g, p, k1, k2⟩ := k
  refine c_shelf_made k1 ?_
  rw [BiP_neq]
  refine cdp (fun h => absurd rfl h) fun _ => ?_
  refine k1.cfg ((LdA_b kb rfl).2 ?_)
  refine c_code_Encode_leaf (n := n) (hdd.ext e1) hfit hr hn ho fun y h2 o2 e2 => ⟨trivial, ?_⟩
  rw [ex20, ex21, BiP_neq]
  refine cdp (fun h => absurd rfl h) fun _ => ?_
  have sy : Sl (Use (frl lab h)) h2 y (leafOf c n) := Sl.l0 o2 fun b hb => frl_new (by have := e1.le; omega)
  have k1 := k1.ext e2
  have k2 := k2.ext e2
  refine k1.get (f := 10) rfl ?_
  refine c_pool_Take k1.pol hf fun i h3 hi1 hi2 hsi p3 e3 => ?_
  have e3' : Ex (Lb (frl lab h) 11 12) h2 h3 := two_lb e3 ⟨by rw [k1.l11]; decide, by rw [k1.l11]; decide⟩ ⟨by rw [k1.l12]; decide, by rw [k1.l12]; decide⟩
  have k3 : ShS (frl lab h) h3 sp dp c D V (upd S i true) kept rd wr :=
    ⟨hr, hD, hkl, cp, o, g, p, ⟨k1.blk.ex e3' (nLb k1.l9 (by decide)), p3, k1.l9, k1.l10, k1.l11, k1.l12, k1.lt⟩, k2.ex e3' (by decide) (Lat.refl _ _)⟩
  rw [ex20, ex21, BiP_neq]
  refine cdp (fun h => absurd rfl h) fun _ => ?_
  refine c_shelf_lay k3 (by omega) hi2 (sy.lat e3' (by decide) (Lat.refl _ _)) (leaf_len hr ho) fun l4 h4 D4 wr4 a4 k4 e4 hwr => ?_
  rw [BiP_neq]
  refine cdp (fun h => absurd rfl h) fun _ => ?_
  have e12 := e1.trans e2
  have e3w : Ex (Lb (frl lab h) 1 12) h2 h3 := Lb.wide e3' (by decide) (by decide)
  exact r i l4 h4 D4 wr4 (by omega) hi2 hsi (a1.trans a4 (by have := e12.le; have := e3.le; omega)) k4 (a1.ex (Ex.toM e12) (e3w.trans (lbx (x := 0) e4))) hwr
theorem c_shelf_Keep0 (k : ShS lab h sp dp c D V S 0 rd wr) (h0 : 0 < i) (hi : i < c.blocks.toNat)
    (r : ∀ lab' h' D' rd' wr', Lat lab lab' h → ShS lab' h' sp dp c D' V S i rd' wr' → Ex (Lb lab 1 12) h h' → (rd' = rd ∨ rd' = rd + 1) → (wr' = wr ∨ wr' = wr + 1) → K (int 0) h') :
    Ca f_shelf_Shelf_Keep #[ptr sp 0, .int .u32 i] h K := by
  have hb := blocks_eq k.right
  obtain ⟨hr, hD, hkl, cp, o, g, p, k1, k2⟩ := k
  refine m_shelf_Shelf_Keep_ok ?_
  unfold m_shelf_Shelf_Keep
  rw [BiP_neq]
  refine cdp (fun _ => ?_) fun h => absurd (by omega) h
  refine c_shelf_there k1 hr h0 hi ?_
  rw [BiP_neq]
  refine cdp (fun h => absurd rfl h) fun _ => ?_
  unfold m_shelf_Shelf_Keep_j6
  refine c_shelf_made k1 ?_
  rw [BiP_neq]
  refine cdp (fun h => absurd rfl h) fun _ => ?_
  refine k1.get (f := 11) rfl ?_
  rw [BiP_eql]
  unfold m_shelf_Shelf_Keep_j18
  refine cdp (fun h => absurd h (by omega)) fun _ => ?_
  unfold m_shelf_Shelf_Keep_j19
  rw [BiP_neq]
  refine cdp (fun _ => ?_) fun h => absurd (by omega) h
  refine k1.get (f := 9) rfl ?_
  have hp : kpin 0 i = 0 := by unfold kpin; rw [if_neg (by omega)]
  refine c_cache_Pin k2 h0 (by omega) (pins_kept hb.2.2.2.2.2.1) (by omega) fun l1 h1 D1 rd1 wr1 a1 hD1 k2 hrd hwr e1 => ?_
  have k1 := k1.ex e1 (.inl (by decide)) (by decide) a1
  rw [BiP_neq]
  refine cdp (fun h => absurd rfl h) fun _ => ?_
  unfold m_shelf_Shelf_Keep_j28
  refine k1.get (f := 11) rfl ?_
  rw [BiP_neq]
  refine cdp (fun h => absurd rfl h) fun _ => ?_
  unfold m_shelf_Shelf_Keep_j42
  refine Fs_b k1.blk (show 0 + 11 < 12 by decide) rfl fun h2 _ e2 kb2 => ?_
  have e2' : Ex (Lb l1 9 9) h1 h2 := one_lb e2 ⟨by rw [k1.l9]; decide, by rw [k1.l9]; decide⟩
  have k3 : ShC l1 h2 sp c cp dp o g p S i :=
    ⟨kb2, k1.pol.ex e2' (nLb k1.l10 (by decide)) (nLb k1.l11 (by decide)) (nLb k1.l12 (by decide)) (nLb k1.lt (by decide)), k1.l9, k1.l10, k1.l11, k1.l12, k1.lt⟩
  have k2 := (k2.ex e2' (by decide) (Lat.refl _ _)).pin (P' := kpin i) (fun j => by
    by_cases hj : j = i
    · subst hj; rw [upd_same, hp]; unfold kpin; rw [if_pos ⟨rfl, by omega⟩]
    · rw [upd_ne hj]; unfold kpin; rw [if_neg (by simp [hj]), if_neg (by omega)])
  exact r l1 h2 D1 rd1 wr1 a1 ⟨hr, by omega, hi, cp, o, g, p, k3, k2⟩ (a1.ex (lbx (x := 0) e1) (Lb.wide e2' (by decide) (by decide))) hrd hwr
theorem c_shelf_Left (k : ShS lab h sp dp c D V S kept rd wr) (r : K (int (c.blocks.toNat - cnt c.blocks.toNat S : Nat)) h) : Ca f_shelf_Shelf_Left #[ptr sp 0] h K := by
  obtain ⟨hr, hD, hkl, cp, o, g, p, k1, k2⟩ := k
  exact m_shelf_Shelf_Left_ok (eq_ptr_nil (by kernel_rfl) (k1.get (f := 10) rfl (c_pool_Free k1.pol r)))
theorem c_shelf_Config (k : ShS lab h sp dp c D V S kept rd wr) (r : ∀ h', Ext h h' → K c.v h') : Ca f_shelf_Shelf_Config #[ptr sp 0] h K := by
  obtain ⟨hr, hD, hkl, cp, o, g, p, k1, k2⟩ := k
  refine m_shelf_Shelf_Config_ok (ala (cs := [int 0, int 0, int 0, int 0, int 0, int 0, int 0, int 0]) fun b h1 e1 hb kb _ => ?_)
  refine eq_ptr_nil (by kernel_rfl) ((k1.ext e1).cfg ?_)
  refine StA_b (vs := c.cs) kb rfl rfl rfl fun h2 _ e2 kb2 => ?_
  refine (LdA_b kb2 rfl).2 ?_
  exact r h2 (e1.andThen e2 fun x hx => by show ¬ x = b; omega)
end
end Go.Sg
namespace Go.Sg
open Go Vc
def nl (ps : List Pair) : Node := ⟨0, [], [], [], ps⟩
abbrev lok (c : Config) (ps : List Pair) : Prop := outerOk c allSpan (nl ps) = true
structure TrS (lab : Nat → Nat) (h : Heap) (tp sp dp : Nat) (c : Config) (D : List (List UInt8)) (V : Nat → List UInt8) (S : Nat → Bool) (root : Nat) (ps : List Pair) (rd wr : BitVec 64) : Prop where
  blk : ∃ u, Blk h tp [ptr sp 0, .int .u32 root, int 0, int u, int 0, int 0]
  sh : ShS lab h sp dp c D V S root rd wr
  l13 : lab tp = 13
  r0 : 0 < root
  leaf : V root = leafOf c (nl ps)
  ok : lok c ps
section
variable {lab lab' : Nat → Nat} {h h' : Heap} {tp sp cp dp o g p kept i root : Nat} {c : Config} {D D' : List (List UInt8)} {V : Nat → List UInt8} {S : Nat → Bool} {rd wr rd' wr' : BitVec 64} {K : Kt} {n : Node} {U : Nat → Prop} {ps : List Pair} {m : Msg}
theorem lok_fits (hr : c.Right) (h : lok c ps) : (nl ps).fits := by
  have := (outer_fits hr h).2.1
  refine ⟨by simp [nl], by simp [nl], by simp [nl], ?_⟩
  show ps.length ≤ _
  have : ps.length ≤ 1024 := this
  omega
theorem lok_asc (h : lok c ps) : Asc Pair.key ps := by
  unfold lok outerOk at h
  simp only [Bool.and_eq_true] at h
  exact rises_asc.1 h.1.2
theorem ShS.ex13 {hi : Nat} {lo : Nat} (k : ShS lab h sp dp c D V S kept rd wr) (e : Ex (Lb lab lo hi) h h') (hl : 13 ≤ lo) : ShS lab h' sp dp c D V S kept rd wr := by
  obtain ⟨hr, hD, hkl, cp, o, g, p, k1, k2⟩ := k
  exact ⟨hr, hD, hkl, cp, o, g, p, k1.ex e (.inr hl) (by omega) (Lat.refl _ _), k2.ex e (by omega) (Lat.refl _ _)⟩
theorem c_tree_none {cs : List Value} (k : Blk h tp (ptr sp 0 :: cs)) (r : K (.bool false) h) : Ca f_tree_Tree_none #[ptr tp 0] h K := by
  refine m_tree_Tree_none_ok (eq_ptr_nil (by kernel_rfl) (fl (by rw [k.get]; rfl) ?_))
  unfold m_tree_Tree_none_j11
  exact eq_ptr_nil (by kernel_rfl) r
theorem c_tree_New (k : ShS lab h sp dp c D V S 0 rd wr) (hf : cnt c.blocks.toNat S < c.blocks.toNat) (hS0 : S 0 = true) (ho : lok c [])
    (r : ∀ tp root lab' h' D' V' rd' wr', Lat lab lab' h → h.size ≤ tp → root < c.blocks.toNat → S root = false → TrS lab' h' tp sp dp c D' V' (upd S root true) root [] rd' wr' → Ex (Lb lab 1 12) h h' → K (.tuple #[ptr tp 0, int 0]) h') : Ca f_tree_New #[ptr sp 0] h K := by
  refine m_tree_New_ok ?_
  refine ⟨_, #[int 0, .slice none 0 0, .slice none 0 0, .slice none 0 0, .slice none 0 0], rfl, rfl, ?_⟩
  have d0 : Nd No h (.agg #[int 0, .slice none 0 0, .slice none 0 0, .slice none 0 0, .slice none 0 0]) (nl []) := ⟨_, _, _, _, rfl, Sl.nil _ _, Sl.nil _ _, Sl.nil _ _, Sl.nil _ _⟩
  refine c_shelf_Make (n := nl []) k hf hS0 d0 (lok_fits k.right ho) rfl ho fun i l1 h1 D1 wr1 hi0 hi hsi a1 k1 e1 hwr => ?_
  rw [ex20, ex21, BiP_neq]
  refine cdp (fun h => absurd rfl h) fun _ => ?_
  refine ⟨_, #[ptr sp 0, .int .u32 i, int 0, int 0, int 0, int 0], rfl, rfl, ?_⟩
  refine bxa (cs := [ptr sp 0, .int .u32 i, int 0, int 0, int 0, int 0]) fun tp h2 e2 htp kb _ => ?_
  have hl1 := e1.le
  let l2 := upd (frl l1 h1) tp 13
  have a2 : Lat l1 l2 h1 := fun b hb => (upd_ne (by omega)).trans (frl_lat l1 h1 b hb)
  have k2 := (k1.lat a2).ext e2
  have q2 : l2 tp = 13 := upd_same
  refine c_shelf_Keep0 k2 hi0 hi fun l3 h3 D3 rd3 wr3 a3 k3 e3 hrd3 hwr3 => ?_
  have htl := kb.lt
  have a12 := a1.trans a2 e1.le
  refine r tp i l3 h3 D3 _ rd3 wr3 (a12.trans a3 (by have := e2.le; omega)) (by omega) hi hsi ⟨⟨0, kb.ex e3 (nLb q2 (by decide))⟩, k3, (a3 tp htl).trans q2, hi0, upd_same, ho⟩ ?_
  exact a12.ex (e1.trans (Ex.toM e2)) e3
theorem c_tree_may {cs : List Value} (kb : Blk h tp (ptr sp 0 :: cs)) (k : ShS lab h sp dp c D V S kept rd wr) (hk : keyOk c m.key = true) (hv : (m.val.length : Int) ≤ c.val) (hd : m.del = true → m.val = []) (r : ∀ h', Ext h h' → K (.bool true) h') : Ca f_tree_Tree_may #[ptr tp 0, m.v] h K := by
  refine m_tree_Tree_may_ok (bxa (cs := [str m.key, .bool m.del, str m.val]) fun b h1 e1 hb k1 _ => ?_)
  refine fl (by rw [(kb.ext e1).get]; rfl) ?_
  refine c_shelf_Config (k.ext e1) fun h2 e2 => ?_
  refine alst (vs := c.cs) rfl rfl rfl fun b2 h3 e3 hb2 k3 _ => ?_
  have e13 := e2.trans e3
  have k1 := k1.ext e13
  refine (LdA_b k3 rfl).2 (fv (by rw [k1.get]; rfl) ?_)
  refine c_node_Key (c := c) fun h4 e4 => ?_
  have k1 := k1.ext e4
  have k3 := k3.ext e4
  rw [hk, CdP_true]
  refine fv (by rw [k1.get]; rfl) ?_
  rw [LenP_str]
  refine fv (v := int c.val) (by rw [k3.get]; rfl) ?_
  rw [BiP_leq, decide_eq_true hv, CdP_true]
  refine fv (by rw [k1.get]; rfl) ?_
  have e14 := (e1.trans e13).trans e4
  refine cd (fun hx => ?_) (fun hx => ?_)
  · refine fv (by rw [k1.get]; rfl) ?_
    rw [hd hx]
    show BiP .neq (str []) (str []) _
    rw [BiP_sneq, UnP_not]
    exact r h4 e14
  · rw [UnP_not]
    exact r h4 e14
theorem c_tree_direct (kb : ∃ u, Blk h tp [ptr sp 0, .int .u32 root, int 0, int u, int 0, int 0]) (k : ShS lab h sp dp c D V S root rd wr) (hl13 : lab tp = 13) (h0 : 0 < root) {x : Value} (d : Nd (Use lab) h x (nl ps)) (ha : Asc Pair.key ps) (hlen : ps.length ≤ 2 ^ 30) (ho : lok c (applyP ps m))
    (r : ∀ lab' h' D' wr' y, Lat lab lab' h → ShS lab' h' sp dp c D' (upd V root (leafOf c (nl (applyP ps m)))) S root rd wr' → Ex (Lb lab 1 12) h h' → (∃ cs, y = .agg cs ∧ cs.size = 5 ∧ cs.toList.all one' = true) → (wr' = wr ∨ wr' = wr + 1) → K (.tuple #[.bool true, y, int 0]) h') :
    Ca f_tree_Tree_direct #[ptr tp 0, x, m.v] h K := by
  have hr := k.right
  have hb := blocks_eq hr
  obtain ⟨u, kb⟩ := kb
  have htl0 := kb.lt
  obtain ⟨vk, vp, vb, vl, rfl, q1, q2, q3, q4⟩ := d.out
  refine m_tree_Tree_direct_ok (bxa (cs := [int 0, vk, vp, vb, vl]) fun b1 h1 e1 hb1 k1 hs1 => bxa (cs := [str m.key, .bool m.del, str m.val]) fun b2 h2 e2 hb2 k2 hs2 => ala (cs := [int 0, .slice none 0 0, .slice none 0 0, .slice none 0 0, .slice none 0 0]) fun b3 h3 e3 hb3 k3 hs3 => ?_)
  have e12 := e1.trans e2
  have e13 := e12.trans e3
  let l3 : Nat → Nat := upd (upd (frl lab h) b1 99) b3 99
  have a3 : Lat lab l3 h := fun b hb => (upd_ne (by omega)).trans ((upd_ne (by omega)).trans (frl_lat lab h b hb))
  have w1 : l3 b1 = 99 := (upd_ne (by omega)).trans upd_same
  have w3 : l3 b3 = 99 := upd_same
  have kk := (k.lat a3).ext e13
  have kb := kb.ext e13
  have k1 := (k1.ext e2).ext e3
  have k2 := k2.ext e3
  have htl := kb.lt
  refine fl (by rw [kb.get]; rfl) ?_
  refine c_shelf_Config kk fun h4 e4 => ?_
  refine alst (vs := c.cs) rfl rfl rfl fun b4 h5 e5 hb4 k4 _ => ?_
  have e35 := e4.trans e5
  have e15 := e13.trans e35
  have kk := kk.ext e35
  have kb := kb.ext e35
  have k1 := k1.ext e35
  have k2 := k2.ext e35
  have k3 := k3.ext e35
  refine fv (by rw [k1.get]; rfl) ?_
  rw [BiP_eql]
  refine cdp (fun _ => ?_) fun h => absurd rfl h
  refine fv (by rw [k1.get]; rfl) ((LdA_b k2 rfl).2 ?_)
  refine bs (n0 := h5.size) (e := t_api_Msg) (zs := #[str [], .bool false, str []]) [m] rfl (Nat.le_refl _) rfl (by decide) (cs := #[str m.key, .bool m.del, str m.val]) (by kernel_rfl) rfl fun v6 h6 o6 e6 => ?_
  have s6 : Sl No h6 v6 [m] := o6.sl fun _ _ h => h
  have sl6 : Sl No h6 vl ps := ((q4.ext e15).ext e6).no
  refine c_leaf_Apply sl6 s6 ha (by simp; omega) fun v7 h7 o7 e7 => ?_
  simp only [List.foldl_cons, List.foldl_nil] at o7
  have e57 := e6.trans e7
  have hv7 : v7.oneCell' = true := o7.one
  have kk := kk.ext e57
  have kb := kb.ext e57
  have k1 := k1.ext e57
  have k3 := k3.ext e57
  have k4 := k4.ext e57
  have hsz5 : h5.size ≤ h6.size := e6.le
  have hsz15 := e15.le
  have l34 := e4.le
  have l45 := e5.le
  have l56 := e6.le
  have l67 := e7.le
  rw [FaP_ptr]
  refine StP_b k1 (show 0 + 4 < 5 by decide) (by rw [one_eq]; exact hv7) fun h8 _ e8 k1' => ?_
  have e8' : Ex (Lb l3 99 99) h7 h8 := one_lb e8 ⟨by rw [w1]; decide, by rw [w1]; decide⟩
  have kk := kk.ex13 e8' (by decide)
  have kb := kb.ex e8 (by show ¬ tp = b1; omega)
  have k3 := k3.ex e8 (by show ¬ b3 = b1; omega)
  have k4 := k4.ex e8 (by show ¬ b4 = b1; omega)
  have o8 := o7.exb e8 (fun b hb => by have := o7.block b hb; show ¬ b = b1; omega)
  have s8 : Sl No h8 v7 (applyP ps m) := o8.sl fun _ _ h => h
  refine fv (v := v7) (by rw [k1'.get]; rfl) (s8.len ?_)
  refine fv (v := int c.leaf) (by rw [k4.get]; rfl) ?_
  have hfit := outer_fits hr ho
  have hle : ((applyP ps m).length : Int) ≤ c.leaf := hfit.2.2.1
  rw [BiP_leq, decide_eq_true hle]
  unfold m_tree_Tree_direct_j62
  rw [UnP_not]
  show CdP (.bool false) _ _
  rw [CdP_false]
  refine ⟨fun b' _ => b' = b1 ∨ b' = tp, ?_⟩
  refine LaX_b (cs := [int 0, vk, vp, vb, v7]) k1' rfl (fun _ => .inl rfl) ?_
  rw [NilP_ptr, FaP_ptr]
  refine LdX_b kb rfl (fun _ => .inr rfl) ?_
  rw [NilP_ptr, FaP_ptr]
  refine LdX_b kb rfl (fun _ => .inr rfl) ?_
  refine LaX_b (cs := [int 0, vk, vp, vb, v7]) k1' rfl (fun _ => .inl rfl) ?_
  have d8 : Nd No h8 (.agg [int 0, vk, vp, vb, v7].toArray) (nl (applyP ps m)) := by
    have z1 := ((q1.ext e15).ext e57).no
    have z2 := ((q2.ext e15).ext e57).no
    have z3 := ((q3.ext e15).ext e57).no
    have emp : ∀ {α : Type} [El α] {v : Value}, Sl No h7 v ([] : List α) → Sl No h8 v ([] : List α) := fun {α} _ {v} s => by
      obtain ⟨a, cap, r1, r2, r3, r4⟩ := s.out
      exact ⟨a, cap, r1, r2, r3, fun x hx => ⟨(r4 x hx).1, fun h => absurd rfl h⟩⟩
    exact ⟨_, _, _, _, rfl, emp z1, emp z2, emp z3, s8⟩
  have wtp : l3 tp = 13 := (a3 tp htl0).trans hl13
  refine c_shelf_Save (n := nl (applyP ps m)) kk h0 kk.kl d8 (lok_fits hr ho) rfl ho fun l9 h9 D9 wr9 a9 k9 e9 hwr => ⟨?_, ?_⟩
  · rintro b o (rfl | rfl)
    · exact hget_eq (e9.eq _ k1'.lt (nLb w1 (by decide))) o
    · exact hget_eq (e9.eq _ kb.lt (nLb wtp (by decide))) o
  have k3 := k3.ex e9 (nLb w3 (by decide))
  have b3l : b3 < h8.size := by have := e8.le; have := e7.le; omega
  have w9 : l9 b3 = 99 := (a9 b3 b3l).trans w3
  have hall : [int 0, vk, vp, vb, v7].all one' = true := by
    obtain ⟨a1, c1, r1, _⟩ := q1.out
    obtain ⟨a2, c2, r2, _⟩ := q2.out
    obtain ⟨a3, c3, r3, _⟩ := q3.out
    have hv : one' v7 = true := by rw [one_eq]; exact hv7
    rw [r1, r2, r3]
    show (true && (true && (true && (true && (one' v7 && true))))) = true
    rw [hv]; rfl
  refine StA_b (vs := [int 0, vk, vp, vb, v7]) k3 rfl rfl hall fun h10 _ e10 k3' => ⟨trivial, ?_⟩
  refine (LdA_b k3' rfl).2 ?_
  have e10' : Ex (Lb l9 99 99) h9 h10 := one_lb e10 ⟨by rw [w9]; decide, by rw [w9]; decide⟩
  have h8le : h.size ≤ h8.size := by have := e57.le; have := e8.le; omega
  refine r l9 h10 D9 wr9 _ (a3.trans a9 h8le) (k9.ex13 e10' (by decide)) ?_ ⟨_, rfl, rfl, hall⟩ hwr
  refine ⟨by have := e9.le; have := e10.le; omega, fun b hb hm => ?_⟩
  have h5l := e57.le
  rw [e10.eq b (by have := e9.le; omega) (by show ¬ b = b3; omega), e9.eq b (by omega) (fun x => hm (by show 1 ≤ lab b ∧ lab b ≤ 12; rw [← a3 b hb]; exact x)), e8.eq b (by omega) (by show ¬ b = b1; omega), e57.eq b (by omega) (fun x => x), e15.eq b hb (fun x => x)]
end
end Go.Sg
namespace Go.Sg
open Go Vc
section
variable {lab lab' : Nat → Nat} {h h' : Heap} {tp sp cp dp o g p kept i root : Nat} {c : Config} {D D' : List (List UInt8)} {V : Nat → List UInt8} {S : Nat → Bool} {rd wr rd' wr' : BitVec 64} {K : Kt} {n : Node} {U : Nat → Prop} {ps : List Pair} {m : Msg}
theorem addw {a b : Int} {K : Value → Prop} (r : ∀ x, K (int x)) : BiP .add (int a) (int b) K := ⟨_, by simp [binVal]; rfl, r _⟩
theorem put_j32 (kb : ∃ u, Blk h tp [ptr sp 0, .int .u32 root, int 0, int u, int 0, int 0]) (k : ShS lab h sp dp c D V S root rd wr) (hl13 : lab tp = 13) (h0 : 0 < root) {b1 b2 : Nat} (k1 : Blk h b1 [str m.key, .bool m.del, str m.val]) {cs : List Value} (k2 : Blk h b2 cs) (d : Nd (Use lab) h (.agg cs.toArray) (nl ps))
    (hcs : cs.length = 5) (ha : Asc Pair.key ps) (hlen : ps.length ≤ 2 ^ 30) (ho : lok c (applyP ps m))
    (r : ∀ lab' h' D' V' wr', Lat lab lab' h → TrS lab' h' tp sp dp c D' V' S root (applyP ps m) rd wr' → Ex (Lb lab 1 13) h h' → K (int 0) h') :
    m_tree_Tree_Put_j32 (ptr tp 0) (ptr b1 0) (ptr b2 0) (int 0) h K := by
  unfold m_tree_Tree_Put_j32
  rw [BiP_neq]
  refine cdp (fun h => absurd rfl h) fun _ => ?_
  refine (LdA_b k2 hcs).2 ((LdA_b k1 rfl).2 ?_)
  refine c_tree_direct (m := m) kb k hl13 h0 d ha hlen ho fun l1 h1 D1 wr1 y a1 s1 e1 hy hwr => ?_
  obtain ⟨u, kb⟩ := kb
  obtain ⟨ys, rfl, hys1, hys2⟩ := hy
  rw [ex30, ex31, ex32]
  have htl := kb.lt
  have kb := kb.ex e1 (nLb hl13 (by decide))
  have w1 : l1 tp = 13 := (a1 tp htl).trans hl13
  have hyy : ys = ys.toList.toArray := by simp
  rw [hyy]
  refine alst (vs := ys.toList) rfl (by simpa using hys1) hys2 fun b3 h2 e2 hb3 k3 _ => ?_
  rw [BiP_neq]
  refine cdp (fun h => absurd rfl h) fun _ => ?_
  rw [CdP_true]
  have kb := kb.ext e2
  have s1 := s1.ext e2
  rw [NilP_ptr, FaP_ptr]
  refine fv (v := int u) (by rw [kb.get]; rfl) ?_
  refine addw fun u' => ?_
  rw [NilP_ptr, FaP_ptr, FaP_ptr]
  refine StP_b kb (show 0 + 3 + 0 < 6 by decide) rfl fun h3 _ e3 kb' => ?_
  have e3' : Ex (Lb l1 13 13) h2 h3 := one_lb e3 ⟨by rw [w1]; decide, by rw [w1]; decide⟩
  refine r l1 h3 D1 _ wr1 a1 ⟨⟨u', kb'⟩, s1.ex13 e3' (by decide), w1, h0, upd_same, ho⟩ ?_
  exact a1.ex ((Lb.wide e1 (by decide) (by decide)).trans (Ex.toM e2)) (Lb.wide e3' (by decide) (by decide))
theorem agr1 {M : Nat → Prop} {X : Nat → Nat → Prop} {h h' : Heap} {b : Nat} (hX : ∀ b' o, X b' o → b' = b) (e : Ex M h h') (hb : b < h.size) (hm : ¬ M b) : Agr X h h' := by
  intro b' o hx
  rw [hX b' o hx]
  exact hget_eq (e.eq _ hb hm) o
theorem c_tree_Put (k : TrS lab h tp sp dp c D V S root ps rd wr) (hk : keyOk c m.key = true) (hv : (m.val.length : Int) ≤ c.val) (hd : m.del = true → m.val = []) (ho : lok c (applyP ps m))
    (r : ∀ lab' h' D' V' rd' wr', Lat lab lab' h → TrS lab' h' tp sp dp c D' V' S root (applyP ps m) rd' wr' → Ex (Lb lab 1 13) h h' → K (int 0) h') : Ca f_tree_Tree_Put #[ptr tp 0, m.v] h K := by
  obtain ⟨⟨u, kb⟩, ks, hl13, h0, hleaf, hok⟩ := k
  have hr := ks.right
  have hb := blocks_eq hr
  have htl := kb.lt
  have hasc := lok_asc hok
  have hps : ps.length ≤ 2 ^ 30 := by have : ps.length ≤ 1024 := (outer_fits hr hok).2.1; omega
  refine m_tree_Tree_Put_ok (bxa (cs := [str m.key, .bool m.del, str m.val]) fun b1 h1 e1 hb1 k1 hs1 => ?_)
  have a1 : Lat lab (loc lab h b1) h := loc_lat lab (by omega)
  have ks1 := (ks.lat a1).ext e1
  have kb1 := kb.ext e1
  have w1 : loc lab h b1 b1 = 99 := loc_at
  have wt : loc lab h b1 tp = 13 := (a1 tp htl).trans hl13
  refine c_tree_none kb1 ?_
  rw [CdP_false]
  refine (LdA_b k1 rfl).2 ?_
  refine c_tree_may (m := m) kb1 ks1 hk hv hd fun h2 e2 => ?_
  have ks2 := ks1.ext e2
  have kb2 := kb1.ext e2
  have k12 := k1.ext e2
  have e12 := e1.trans e2
  rw [UnP_not]
  show CdP (.bool false) _ _
  rw [CdP_false]
  refine ⟨fun b' _ => b' = tp, ?_⟩
  rw [NilP_ptr, FaP_ptr]
  refine LdX_b kb2 rfl (fun _ => rfl) ?_
  rw [NilP_ptr, FaP_ptr]
  refine LdX_b kb2 rfl (fun _ => rfl) ?_
  have hl12 := e12.le
  have b1l : b1 < h2.size := k12.lt
  have tpl : tp < h2.size := kb2.lt
  refine ⟨?_, ?_⟩
  · refine c_shelf_Load (n := nl ps) ks2 h0 ks.kl hleaf rfl hok fun l3 h3 D3 rd3 wr3 v a3 s3 d3 e3 _ _ => ⟨trivial, ?_⟩
    obtain ⟨vk, vp, vb, vl, rfl, q1, q2, q3, q4⟩ := d3.out
    have d3' := d3
    rw [ex20, ex21]
    have hall : [int (nl ps).level, vk, vp, vb, vl].all one' = true := by
      obtain ⟨x1, c1, r1, _⟩ := q1.out
      obtain ⟨x2, c2, r2, _⟩ := q2.out
      obtain ⟨x3, c3, r3, _⟩ := q3.out
      obtain ⟨x4, c4, r4, _⟩ := q4.out
      rw [r1, r2, r3, r4]; rfl
    refine ala (cs := [int 0, .slice none 0 0, .slice none 0 0, .slice none 0 0, .slice none 0 0]) fun b4 h4 e4 hb4 k4 _ => ?_
    have w3t : l3 tp = 13 := (a3 tp tpl).trans wt
    refine ⟨?_, ?_⟩
    · refine agr1 (b := tp) (fun b' o hx => hx) (e3.trans (Ex.toM e4)) tpl (nLb wt (by decide))
    refine StA_b (vs := [int (nl ps).level, vk, vp, vb, vl]) k4 rfl rfl hall fun h5 _ e5 k5 => ⟨trivial, ?_⟩
    have e45 : Ext h3 h5 := e4.andThen e5 fun x hx => by show ¬ x = b4; omega
    have kb5 := (kb2.ex e3 (nLb wt (by decide))).ext e45
    have k15 := (k12.ex e3 (nLb w1 (by decide))).ext e45
    refine put_j32 ⟨u, kb5⟩ (s3.ext e45) w3t h0 k15 k5 (d3'.ext e45) rfl hasc hps ho fun l6 h6 D6 V6 wr6 a6 t6 e6 => ?_
    have hl3 := e3.le
    have hl45 := e45.le
    have a13 : Lat lab l3 h := a1.trans a3 (by omega)
    refine r l6 h6 D6 V6 rd3 wr6 (a13.trans a6 (by omega)) t6 ?_
    exact a13.ex ((a1.ex (Ex.toM e12) (Lb.wide e3 (by decide) (by decide))).trans (Ex.toM e45)) e6
  · refine ala (cs := [int 0, .slice none 0 0, .slice none 0 0, .slice none 0 0, .slice none 0 0]) fun b4 h3 e3 hb4 k4 _ => ⟨?_, ?_⟩
    · exact agr1 (b := tp) (fun b' o hx => hx) e3 tpl (fun x => x)
    have a3 : Lat (loc lab h b1) (loc (loc lab h b1) h2 b4) h2 := loc_lat _ (by omega)
    have ks3 := (ks2.lat a3).ext e3
    have w4 : loc (loc lab h b1) h2 b4 b4 = 99 := loc_at
    have w14 : loc (loc lab h b1) h2 b4 b1 = 99 := (a3 b1 b1l).trans w1
    have wt4 : loc (loc lab h b1) h2 b4 tp = 13 := (a3 tp tpl).trans wt
    refine c_shelf_Load (n := nl ps) ks3 h0 ks.kl hleaf rfl hok fun l5 h5 D5 rd5 wr5 v a5 s5 d5 e5 _ _ => ⟨trivial, ?_⟩
    obtain ⟨vk, vp, vb, vl, rfl, q1, q2, q3, q4⟩ := d5.out
    have d5' := d5
    rw [ex20, ex21]
    have hall : [int (nl ps).level, vk, vp, vb, vl].all one' = true := by
      obtain ⟨x1, c1, r1, _⟩ := q1.out
      obtain ⟨x2, c2, r2, _⟩ := q2.out
      obtain ⟨x3, c3, r3, _⟩ := q3.out
      obtain ⟨x4, c4, r4, _⟩ := q4.out
      rw [r1, r2, r3, r4]; rfl
    have b4l := k4.lt
    have k4 := k4.ex e5 (nLb w4 (by decide))
    have w5 : l5 b4 = 99 := (a5 b4 b4l).trans w4
    refine StA_b (vs := [int (nl ps).level, vk, vp, vb, vl]) k4 rfl rfl hall fun h6 _ e6 k6 => ⟨trivial, ?_⟩
    have e6' : Ex (Lb l5 99 99) h5 h6 := one_lb e6 ⟨by rw [w5]; decide, by rw [w5]; decide⟩
    have hl3 := e3.le
    have kb5 := (kb2.ext e3).ex e5 (nLb wt4 (by decide))
    have k15 := (k12.ext e3).ex e5 (nLb w14 (by decide))
    have kb6 := kb5.ex e6 (by show ¬ tp = b4; omega)
    have k16 := k15.ex e6 (by show ¬ b1 = b4; omega)
    have w5t : l5 tp = 13 := (a5 tp (by omega)).trans wt4
    have d6 : Nd (Use l5) h6 (.agg [int (nl ps).level, vk, vp, vb, vl].toArray) (nl ps) := d5'.keep e6' (fun b hb => by show l5 b ≠ 0; have := hb.1; omega)
    refine put_j32 ⟨u, kb6⟩ (s5.ex13 e6' (by decide)) w5t h0 k16 k6 d6 rfl hasc hps ho fun l7 h7 D7 V7 wr7 a7 t7 e7 => ?_
    have hl5 := e5.le
    have hl6 := e6.le
    have a15 : Lat lab l5 h := (a1.trans a3 (by omega)).trans a5 (by omega)
    refine r l7 h7 D7 V7 rd5 wr7 (a15.trans a7 (by omega)) t7 ?_
    have a13 : Lat lab (loc (loc lab h b1) h2 b4) h := a1.trans a3 (by omega)
    refine a15.ex ?_ e7
    refine ⟨by omega, fun b hb hm => ?_⟩
    rw [e6.eq b (by omega) (by show ¬ b = b4; omega), e5.eq b (by omega) (fun x => hm (by show 1 ≤ lab b ∧ lab b ≤ 13; rw [← a13 b hb]; exact ⟨x.1, by have := x.2; omega⟩)), e3.eq b (by omega) (fun x => x), e12.eq b hb (fun x => x)]
end
end Go.Sg
namespace Go.Sg
open Go Vc
structure Nv where
  cs : List Value
  len : cs.length = 5
  one : ∀ v ∈ cs, v.oneCell' = true
instance : El Nv := ⟨5, fun n => n.cs, fun n => n.len, by decide, fun n => n.one⟩
end Go.Sg
