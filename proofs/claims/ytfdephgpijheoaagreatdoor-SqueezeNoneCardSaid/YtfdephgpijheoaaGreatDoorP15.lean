/-
  Part 15 of a proof: own texts, merged by program.
-/
import Derived.Shelf.Strings.Repeat
import Derived.Test.YtfdephgpijheoaaGreatDoorP14
set_option linter.unusedVariables false
set_option linter.unusedSimpArgs false
namespace Go.Sg
open Go Vc
structure Opx where
  kind : Int
  key : Str
  val : Str
  n : Int
instance : El Opx := ⟨4, fun o => [int o.kind, str o.key, str o.val, int o.n], fun _ => rfl, by decide, fun _ v h => by simp at h; rcases h with rfl | rfl | rfl | rfl <;> rfl⟩
def Opx.v (o : Opx) : Value := .agg #[int o.kind, str o.key, str o.val, int o.n]
section
variable {h : Heap} {K : Kt} {c : Config} {U : Nat → Prop} {x : Value} {l : List Pair} {k v : Str} {a b : Str} {o : Opx}
theorem cmp_drop {i : Nat} {x y : UInt8} (ha : a[i]? = some x) (hb : b[i]? = some y) : cmp (a.drop i) (b.drop i) = if x < y then -1 else if y < x then 1 else cmp (a.drop (i + 1)) (b.drop (i + 1)) := by
  have e1 : a.drop i = x :: a.drop (i + 1) := by
    have hi := (List.getElem?_eq_some_iff.1 ha)
    obtain ⟨h1, h2⟩ := hi
    rw [List.drop_eq_getElem_cons h1, h2]
  have e2 : b.drop i = y :: b.drop (i + 1) := by
    obtain ⟨h1, h2⟩ := List.getElem?_eq_some_iff.1 hb
    rw [List.drop_eq_getElem_cons h1, h2]
  rw [e1, e2]; rfl
theorem c_ref01_Compare (hla : a.length < 2 ^ 62) (r : K (int (cmp a b)) h) : Ca f_ref01_Compare #[str a, str b] h K := by
  refine m_ref01_Compare_ok ?_
  unfold m_ref01_Compare
  refine lop (σ := Nat) (fun i => [int 0, int i]) (fun i h' => h' = h ∧ i ≤ a.length ∧ i ≤ b.length ∧ cmp a b = cmp (a.drop i) (b.drop i)) (fun i => a.length - i) 0 rfl ⟨rfl, Nat.zero_le _, Nat.zero_le _, rfl⟩ ?_
  rintro i h1 N ⟨rfl, hia, hib, hc⟩ hN
  simp only [m_ref01_Compare_l2, gv_zero, gv_succ]
  have fin : (i = a.length ∨ i = b.length) → m_ref01_Compare_j22 (str a) (str b) h1 K := fun hi => by
    unfold m_ref01_Compare_j22
    rw [LenP_str, LenP_str, BiP_lss]
    refine cdp (fun hlt => ?_) (fun hge => ?_)
    · have : cmp a b = -1 := by
        rw [hc]
        have e1 : a.drop i = [] := List.drop_eq_nil_of_le (by omega)
        have hbd : (b.drop i).length ≠ 0 := by rw [List.length_drop]; omega
        rw [e1]
        cases hq : b.drop i with
        | nil => rw [hq] at hbd; simp at hbd
        | cons y t => rfl
      rw [this] at r; exact r
    · rw [LenP_str, LenP_str, BiP_gtr]
      refine cdp (fun hlt => ?_) (fun hge2 => ?_)
      · have : cmp a b = 1 := by
          rw [hc]
          have e1 : b.drop i = [] := List.drop_eq_nil_of_le (by omega)
          have hbd : (a.drop i).length ≠ 0 := by rw [List.length_drop]; omega
          rw [e1]
          cases hq : a.drop i with
          | nil => rw [hq] at hbd; simp at hbd
          | cons y t => rfl
        rw [this] at r; exact r
      · have : cmp a b = 0 := by
          rw [hc]
          have e1 : b.drop i = [] := List.drop_eq_nil_of_le (by omega)
          have e2 : a.drop i = [] := List.drop_eq_nil_of_le (by omega)
          rw [e1, e2]; rfl
        rw [this] at r; exact r
  rw [LenP_str, BiP_lss]
  unfold m_ref01_Compare_j12
  refine cdp (fun hlt => ?_) (fun hge => ?_)
  · rw [LenP_str, BiP_lss]
    refine cdp (fun hlt2 => ?_) (fun hge => fin (.inr (by omega)))
    have g1 : a[i]? = some (a[i]'(by omega)) := List.getElem?_eq_getElem (by omega)
    have g2 : b[i]? = some (b[i]'(by omega)) := List.getElem?_eq_getElem (by omega)
    have hd := cmp_drop g1 g2
    unfold m_ref01_Compare_j13
    refine isp (by omega) (by rw [Int.toNat_natCast]; exact g1) (isp (by omega) (by rw [Int.toNat_natCast]; exact g2) ?_)
    rw [BiP_lss]
    refine cdp (fun h1' => ?_) (fun h1' => ?_)
    · have hq : a[i]'(by omega) < b[i]'(by omega) := UInt8.lt_iff_toNat_lt.2 (by omega)
      rw [hc, hd, if_pos hq] at r; exact r
    have hq : ¬ a[i]'(by omega) < b[i]'(by omega) := fun q => h1' (by have := UInt8.lt_iff_toNat_lt.1 q; omega)
    rw [if_neg hq] at hd
    refine isp (by omega) (by rw [Int.toNat_natCast]; exact g1) (isp (by omega) (by rw [Int.toNat_natCast]; exact g2) ?_)
    rw [BiP_gtr]
    refine cdp (fun h2' => ?_) (fun h2' => ?_)
    · have hq2 : b[i]'(by omega) < a[i]'(by omega) := UInt8.lt_iff_toNat_lt.2 (by omega)
      rw [hc, hd, if_pos hq2] at r; exact r
    have hq2 : ¬ b[i]'(by omega) < a[i]'(by omega) := fun q => h2' (by have := UInt8.lt_iff_toNat_lt.1 q; omega)
    rw [if_neg hq2] at hd
    refine add64 (by omega) ?_
    have := hN (i + 1) h1 ⟨rfl, by omega, by omega, hc.trans hd⟩ (by omega)
    simpa using this
  · rw [CdP_false]; exact fin (.inl (by omega))
theorem c_ref13_Key (r : ∀ h', Ext h h' → K (.bool (keyOk c k)) h') : Ca f_ref13_Key #[c.v, str k] h K := by
  refine m_ref13_Key_ok (bxa (cs := c.cs) fun b h1 e1 hb k1 _ => ?_)
  have r := r h1 e1
  unfold keyOk at r
  rw [LenP_str, BiP_geq]
  refine cdp (fun hx => ?_) (fun hx => ?_)
  · rw [LenP_str]
    refine fv (v := int c.key) (by rw [k1.get]; rfl) ?_
    rw [BiP_leq]
    rw [decide_eq_true (show 1 ≤ k.length by omega), Bool.true_and] at r
    exact r
  · rw [decide_eq_false (show ¬ 1 ≤ k.length by omega), Bool.false_and] at r
    exact r
def mayOp (c : Config) (o : Opx) : Bool := keyOk c o.key && (decide (o.kind ≠ 1) || decide ((o.val.length : Int) ≤ c.val))
theorem c_ref27_May (r : ∀ h', Ext h h' → K (.bool (mayOp c o)) h') : Ca f_ref27_May #[c.v, o.v] h K := by
  refine m_ref27_May_ok (bxa (cs := c.cs) fun b1 h1 e1 hb1 k1 _ => bxa (cs := [int o.kind, str o.key, str o.val, int o.n]) fun b2 h2 e2 hb2 k2 _ => ?_)
  have k1 := k1.ext e2
  refine (LdA_b k1 rfl).2 (fv (v := str o.key) (by rw [k2.get]; rfl) (c_ref13_Key (c := c) fun h3 e3 => ?_))
  have k1 := k1.ext e3
  have k2 := k2.ext e3
  have r := r h3 ((e1.trans e2).trans e3)
  unfold mayOp at r
  refine cd (fun hk => ?_) (fun hk => ?_)
  · rw [hk, Bool.true_and] at r
    refine fv (v := int o.kind) (by rw [k2.get]; rfl) ?_
    rw [BiP_neq]
    refine cdp (fun h1 => ?_) (fun h1 => ?_)
    · rw [decide_eq_true h1, Bool.true_or] at r; exact r
    · rw [decide_eq_false h1, Bool.false_or] at r
      refine fv (v := str o.val) (by rw [k2.get]; rfl) ?_
      rw [LenP_str]
      refine fv (v := int c.val) (by rw [k1.get]; rfl) ?_
      rw [BiP_leq]; exact r
  · rw [hk, Bool.false_and] at r
    exact ⟨rfl, rfl, rfl, rfl, rfl, rfl, r⟩
theorem c_ref11_Cut (s : Sl U h x l) (hl : l.length ≤ 2 ^ 30) (r : ∀ y h', Ow h.size t_api_Pair h' y (cutP l k) → Ext h h' → K y h') : Ca f_ref11_Cut #[x, str k] h K := by
  refine m_ref11_Cut_ok (bs (n0 := h.size) (e := t_api_Pair) (zs := #[str [], str []]) ([] : List Pair) rfl (Nat.le_refl _) rfl (by decide) (cs := #[]) (by kernel_rfl) rfl fun v1 h1 o1 e1 => ?_)
  refine lop (σ := Value × Nat) (fun p => [p.1, int p.2]) (fun p h' => Ext h h' ∧ p.2 ≤ l.length ∧ Ow h.size t_api_Pair h' p.1 (cutP (l.take p.2) k)) (fun p => l.length - p.2) (v1, 0) rfl ⟨e1, Nat.zero_le _, o1⟩ ?_
  rintro ⟨w, i⟩ h2 N ⟨e2, hi, o2⟩ hN
  simp only at hi o2
  simp only [m_ref11_Cut_l4, gv_zero, gv_succ]
  have s2 := s.ext e2
  refine s2.len ?_
  rw [BiP_lss]
  refine cdp (fun hlt => ?_) (fun hge => ?_)
  · have hlt : i < l.length := by omega
    have hx := List.getElem?_eq_getElem hlt
    have htk : l.take (i + 1) = l.take i ++ [l[i]] := by rw [List.take_add_one, hx]; rfl
    have hct : cutP (l.take (i + 1)) k = cutP (l.take i) k ++ (if l[i].key ≠ k then [l[i]] else []) := by
      rw [htk]; unfold cutP; rw [List.filter_append]
      congr 1
      by_cases hk : l[i].key = k <;> simp [hk]
    have hcl : (cutP (l.take i) k).length ≤ 2 ^ 30 := by
      unfold cutP
      exact Nat.le_trans (List.length_filter_le _ _) (by rw [List.length_take]; omega)
    refine s2.ef (f := 0) (w := str l[i].key) (by omega) (by rw [Int.toNat_natCast]; exact hx) rfl ?_
    rw [BiP_sneq]
    refine cdp (fun hk => ?_) (fun hk => ?_)
    · refine s2.ea (x := l[i]) (by omega) (by rw [Int.toNat_natCast]; exact hx) ?_
      refine bs (n0 := h2.size) (e := t_api_Pair) (zs := #[str [], str []]) [l[i]] rfl (Nat.le_refl _) rfl (by decide) (cs := #[str l[i].key, str l[i].val]) (by kernel_rfl) rfl fun v3 h3 o3 e3 => ?_
      have s3 : Sl No h3 v3 [l[i]] := o3.sl fun _ _ h => h
      have hs2 : h.size ≤ h2.size := e2.le
      have hs3 := e3.le
      refine app T_Pair (o2.ext e3) s3 (by omega) (by simp; omega) (by decide) fun v4 h4 o4 e4 _ => ?_
      unfold m_ref11_Cut_j19
      refine add64 (by omega) ?_
      have := hN (v4, i + 1) h4 ⟨(e2.trans e3).own e4 (Nat.le_refl _), by show i + 1 ≤ _; omega, by show Ow _ _ _ _ (cutP (l.take (i + 1)) k); rw [hct, if_pos hk]; exact o4⟩ (by simp only; omega)
      simpa using this
    · unfold m_ref11_Cut_j19
      refine add64 (by omega) ?_
      have := hN (w, i + 1) h2 ⟨e2, by show i + 1 ≤ _; omega, by show Ow _ _ _ _ (cutP (l.take (i + 1)) k); rw [hct, if_neg hk, List.append_nil]; exact o2⟩ (by simp only; omega)
      simpa using this
  · have hin : i = l.length := by omega
    subst hin
    rw [List.take_length] at o2
    unfold m_ref11_Cut_j21
    exact r w h2 o2 e2
end
end Go.Sg
namespace Go.Sg
open Go Vc
section
variable {lab lab' : Nat → Nat} {h h' : Heap} {K : Kt} {c : Config} {U : Nat → Prop} {x : Value} {l : List Pair} {k v : Str} {o : Opx} {s : Nat} {ps : List Pair}
theorem ahead_at {l : List Pair} {k : Str} (ha : Asc Pair.key l) {i : Nat} {a : Pair} (hi : (cutP l k)[i]? = some a) : (a.key < k ↔ i < pos Pair.key l k) := by
  rw [cut_parts ha] at hi
  constructor
  · intro hlt
    rcases Nat.lt_or_ge i (pos Pair.key l k) with h | h
    · exact h
    · rw [List.getElem?_append_right h] at hi
      have := (List.mem_filter.1 (List.mem_of_getElem? hi)).2
      exact absurd hlt (slt_asymm (of_decide_eq_true this))
  · intro hlt
    rw [List.getElem?_append_left hlt] at hi
    have := (List.mem_filter.1 (List.mem_of_getElem? hi)).2
    exact of_decide_eq_true this
theorem c_ref11_Put (s : Sl U h x l) (ha : Asc Pair.key l) (hl : l.length ≤ 2 ^ 30) (hk : ∀ p ∈ l, p.key.length < 2 ^ 62) (r : ∀ y h', Ow h.size t_api_Pair h' y (applyP l ⟨k, false, v⟩) → Ext h h' → K y h') : Ca f_ref11_Put #[x, str k, str v] h K := by
  refine m_ref11_Put_ok (c_ref11_Cut s hl fun y h1 o1 e1 => ?_)
  have hcl : (cutP l k).length ≤ 2 ^ 30 := Nat.le_trans (by unfold cutP; exact List.length_filter_le _ _) hl
  have hpl : pos Pair.key l k ≤ (cutP l k).length := by rw [cut_parts ha, List.length_append]; unfold pos; omega
  have s1 : Sl No h1 y (cutP l k) := o1.sl fun _ _ h => h
  refine lop (σ := Nat) (fun i => [int i]) (fun i h' => h' = h1 ∧ i ≤ pos Pair.key l k) (fun i => pos Pair.key l k - i) 0 rfl ⟨rfl, Nat.zero_le _⟩ ?_
  rintro i h2 N ⟨rfl, hi⟩ hN
  simp only [m_ref11_Put_l4, gv_zero]
  have fin : i = pos Pair.key l k → m_ref11_Put_j21 y (str k) (str v) (int i) h2 K := fun hip => by
    unfold m_ref11_Put_j21
    refine bs (n0 := h2.size) (e := t_api_Pair) (zs := #[str [], str []]) ([] : List Pair) rfl (Nat.le_refl _) rfl (by decide) (cs := #[]) (by kernel_rfl) rfl fun v3 h3 o3 e3 => ?_
    have s3 := s1.ext e3
    refine s3.part (a := 0) (b := i) rfl bnd_nat (Nat.zero_le _) (by omega) fun x4 s4 => ?_
    refine app T_Pair o3 s4 e3.le (by simp; omega) (by decide) fun v5 h5 o5 e5 _ => ?_
    have e25 : Ext h2 h5 := e3.own e5 (Nat.le_refl _)
    refine ⟨_, #[str k, str v], rfl, rfl, ?_⟩
    refine bs (n0 := h5.size) (e := t_api_Pair) (zs := #[str [], str []]) [(⟨k, v⟩ : Pair)] rfl (Nat.le_refl _) rfl (by decide) (cs := #[str k, str v]) (by kernel_rfl) rfl fun v6 h6 o6 e6 => ?_
    have s6 : Sl No h6 v6 [(⟨k, v⟩ : Pair)] := o6.sl fun _ _ h => h
    have hl25 := e25.le
    have hl56 := e6.le
    refine app T_Pair (o5.ext e6) s6 (by omega) (by simp; omega) (by decide) fun v7 h7 o7 e7 _ => ?_
    have e27 : Ext h2 h7 := (e25.trans e6).own e7 (Nat.le_refl _)
    have s7 := s1.ext e27
    have hl27 := e27.le
    refine s7.part (a := i) (b := (cutP l k).length) bnd_nat rfl (by omega) (Nat.le_refl _) fun x8 s8 => ?_
    refine app T_Pair o7 s8 hl27 (by simp; omega) (by decide) fun v9 h9 o9 e9 _ => ?_
    have e29 : Ext h2 h9 := e27.own e9 (Nat.le_refl _)
    refine r v9 h9 ?_ (e1.trans e29)
    have he : ([] : List Pair) ++ ((cutP l k).take i).drop 0 ++ [⟨k, v⟩] ++ ((cutP l k).take (cutP l k).length).drop i = applyP l ⟨k, false, v⟩ := by
      rw [List.nil_append, List.drop_zero, List.take_length, hip]; exact put_apply ha
    rw [he] at o9
    exact o9.low e1.le
  refine s1.len ?_
  rw [BiP_lss]
  unfold m_ref11_Put_j18
  refine cdp (fun hlt => ?_) (fun hge => ?_)
  · have hlt : i < (cutP l k).length := by omega
    have hx := List.getElem?_eq_getElem hlt
    have hm : (cutP l k)[i] ∈ l := (List.mem_filter.1 (List.getElem_mem hlt)).1
    refine s1.ef (f := 0) (w := str ((cutP l k)[i]).key) (by omega) (by rw [Int.toNat_natCast]; exact hx) rfl ?_
    refine c_ref01_Compare (hk _ hm) ?_
    rw [BiP_lss]
    have hpa := ahead_at ha hx
    refine cdp (fun hc => ?_) (fun hc => ?_)
    · have hip := hpa.1 (cmp_lt.1 hc)
      unfold m_ref11_Put_j19
      refine add64 (by omega) ?_
      have := hN (i + 1) h2 ⟨rfl, by omega⟩ (by omega)
      simpa using this
    · have hip : ¬ i < pos Pair.key l k := fun q => hc (cmp_lt.2 (hpa.2 q))
      exact fin (by omega)
  · rw [CdP_false]; exact fin (by omega)
def Opx.msg (o : Opx) : Msg := if o.kind = 1 then ⟨o.key, false, o.val⟩ else ⟨o.key, true, []⟩
def chg (c : Config) (o : Opx) : Prop := (o.kind = 1 ∨ o.kind = 2) ∧ mayOp c o = true
theorem c_ref27_Do (sl : Sl U h x l) (ha : Asc Pair.key l) (hl : l.length ≤ 2 ^ 30) (hk : ∀ p ∈ l, p.key.length < 2 ^ 62) (hc : chg c o)
    (r : ∀ y h', Ow h.size t_api_Pair h' y (applyP l o.msg) → Ext h h' → K (.tuple #[y, .agg #[int 0, str [], .slice none 0 0]]) h') : Ca f_ref27_Do #[c.v, x, o.v] h K := by
  refine m_ref27_Do_ok (bxa (cs := c.cs) fun b1 h1 e1 hb1 k1 _ => bxa (cs := [int o.kind, str o.key, str o.val, int o.n]) fun b2 h2 e2 hb2 k2 _ => ala (cs := [int 0, str [], .slice none 0 0]) fun b3 h3 e3 hb3 k3 _ => ?_)
  have k1 := (k1.ext e2).ext e3
  have k2 := k2.ext e3
  have e13 := (e1.trans e2).trans e3
  have hl1 := e1.le
  have hl2 := e2.le
  refine fv (v := int o.kind) (by rw [k2.get]; rfl) ?_
  rw [BiP_eql]
  obtain ⟨hkd, hmay⟩ := hc
  have fin : ∀ (h5 : Heap) (y : Value), Ext h3 h5 → Ow h3.size t_api_Pair h5 y (applyP l o.msg) → StA 3 (ptr b3 0) (.agg #[int 0, str [], .slice none 0 0]) h5 fun h26 => LdA 3 (ptr b3 0) h26 fun x27 => K (.tuple #[y, x27]) h26 := fun h5 y e5 o5 => by
    refine StA_b (vs := [int 0, str [], .slice none 0 0]) (k3.ext e5) rfl rfl rfl fun h6 _ e6 k6 => ?_
    have ob := o5.block
    refine (LdA_b k6 rfl).2 (r y h6 ((o5.exb e6 fun z hz he => by have := ob z hz; have := k3.lt; omega).low e13.le) ?_)
    exact (e13.trans e5).andThen e6 fun z hz he => by omega
  refine cdp (fun h1k => ?_) (fun h1k => ?_)
  · refine (LdA_b k1 rfl).2 ((LdA_b k2 rfl).2 (c_ref27_May (c := c) (o := o) fun h4 e4 => ?_))
    rw [hmay, UnP_not]
    refine cd (fun h => absurd h (by decide)) fun _ => ?_
    have k2 := k2.ext e4
    refine fv (v := str o.key) (by rw [k2.get]; rfl) (fv (v := str o.val) (by rw [k2.get]; rfl) ?_)
    refine c_ref11_Put ((sl.ext e13).ext e4) ha hl hk fun y h5 o5 e5 => ?_
    refine ⟨_, #[int 0, str [], .slice none 0 0], rfl, rfl, ?_⟩
    have hm : o.msg = ⟨o.key, false, o.val⟩ := if_pos h1k
    exact fin h5 y (e4.trans e5) (by rw [hm]; exact o5.low e4.le)
  · rw [BiP_eql]
    have h2k : o.kind = 2 := hkd.resolve_left h1k
    refine cdp (fun _ => ?_) (fun h => absurd h2k h)
    refine (LdA_b k1 rfl).2 ((LdA_b k2 rfl).2 (c_ref27_May (c := c) (o := o) fun h4 e4 => ?_))
    rw [hmay, UnP_not]
    refine cd (fun h => absurd h (by decide)) fun _ => ?_
    have k2 := k2.ext e4
    refine fv (v := str o.key) (by rw [k2.get]; rfl) ?_
    refine c_ref11_Cut ((sl.ext e13).ext e4) hl fun y h5 o5 e5 => ?_
    refine ⟨_, #[int 0, str [], .slice none 0 0], rfl, rfl, ?_⟩
    have hm : o.msg = ⟨o.key, true, []⟩ := if_neg h1k
    exact fin h5 y (e4.trans e5) (by rw [hm, ← cut_apply ha]; exact o5.low e4.le)
def Config.Light (c : Config) : Prop := c.Right ∧ c.bytes ≤ 3000 ∧ c.blocks ≤ 400
instance (c : Config) : Decidable c.Light := by unfold Config.Light; infer_instance
theorem c_law18_Light (r : ∀ h', Ext h h' → K (.bool (decide c.Light)) h') : Ca f_law18_Light #[c.v] h K := by
  refine m_law18_Light_ok (bxa (cs := c.cs) fun b h1 e1 hb k1 _ => (LdA_b k1 rfl).2 (c_ref09_Right (c := c) fun h2 e2 => ?_))
  have k2 := k1.ext e2
  have r := r h2 (e1.trans e2)
  refine cdp (fun g1 => ?_) (fun g1 => ?_)
  · refine fv (v := int c.bytes) (by rw [k2.get]; rfl) ?_
    rw [BiP_leq]
    refine cdp (fun g2 => ?_) (fun g2 => ?_)
    · refine fv (v := int c.blocks) (by rw [k2.get]; rfl) ?_
      rw [BiP_leq]
      have : decide (c.blocks ≤ 400) = decide c.Light := decide_eq_decide.2 ⟨fun q => ⟨g1, g2, q⟩, fun q => q.2.2⟩
      rw [this]; exact r
    · rw [decide_eq_false fun q : c.Light => g2 q.2.1] at r; exact r
  · rw [decide_eq_false fun q : c.Light => g1 q.1] at r; exact r
theorem c_law27_Long (r : ∀ h', Ext h h' → K (.bool (decide (200 < o.key.length) || decide (400 < o.val.length))) h') : Ca f_law27_Long #[o.v] h K := by
  refine m_law27_Long_ok (bxa (cs := [int o.kind, str o.key, str o.val, int o.n]) fun b h1 e1 hb k1 _ => ?_)
  have r := r h1 e1
  refine fv (v := str o.key) (by rw [k1.get]; rfl) ?_
  rw [LenP_str, BiP_gtr]
  refine cdp (fun g => ?_) (fun g => ?_)
  · rw [decide_eq_true (show 200 < o.key.length by omega), Bool.true_or] at r; exact r
  · rw [decide_eq_false (show ¬ 200 < o.key.length by omega), Bool.false_or] at r
    refine fv (v := str o.val) (by rw [k1.get]; rfl) ?_
    rw [LenP_str, BiP_gtr]
    have : decide ((400 : Int) < (o.val.length : Int)) = decide (400 < o.val.length) := decide_eq_decide.2 (by omega)
    rw [this]; exact r
theorem KvS.ex16 {lo hi : Nat} (k : KvS lab h s c ps) (e : Ex (Lb lab lo hi) h h') (hl : 16 ≤ lo) : KvS lab h' s c ps := by
  obtain ⟨mp, tp, sp, dp, D, V, S, root, rd, wr, a, b, d, e', k1, k2, k3⟩ := k
  exact ⟨mp, tp, sp, dp, D, V, S, root, rd, wr, a, b, d, e', k1.ex e (nLb k3 (by omega)), k2.ex15 e (by omega), k3⟩
theorem c_law27_Step (kk : KvS lab h s c ps) (h0 : 0 ≤ c.val) (hc : chg c o) (hv : (o.msg.val.length : Int) ≤ c.val) (ho : lok c (applyP ps o.msg))
    (r : ∀ lab' h', Lat lab lab' h → KvS lab' h' s c (applyP ps o.msg) → Ex (Lb lab 1 15) h h' → K (.agg #[int 0, str [], .slice none 0 0]) h') : Ca f_law27_Step #[ptr s 0, o.v] h K := by
  refine m_law27_Step_ok (bxa (cs := [int o.kind, str o.key, str o.val, int o.n]) fun b1 h1 e1 hb1 k1 _ => ala (cs := [int 0, str [], .slice none 0 0]) fun b2 h2 e2 hb2 k2 _ => ?_)
  have k1 := k1.ext e2
  have e12 := e1.trans e2
  have hl1 := e1.le
  obtain ⟨hkd, hmay⟩ := hc
  unfold mayOp at hmay
  simp only [Bool.and_eq_true] at hmay
  have a0 : Lat lab (loc lab h b2) h := loc_lat lab (by omega)
  have kk2 := (kk.lat a0).ext e12
  have w2 : loc lab h b2 b2 = 99 := loc_at
  have fin : ∀ l3 h3, Lat (loc lab h b2) l3 h2 → KvS l3 h3 s c (applyP ps o.msg) → Ex (Lb (loc lab h b2) 1 15) h2 h3 → StA 3 (ptr b2 0) (.agg #[int 0, str [], .slice none 0 0]) h3 fun h26 => LdA 3 (ptr b2 0) h26 fun x27 => K x27 h26 := fun l3 h3 a3 k3 e3 => by
    have k23 := k2.ex e3 (nLb w2 (by decide))
    refine StA_b (vs := [int 0, str [], .slice none 0 0]) k23 rfl rfl rfl fun h4 _ e4 k4 => ?_
    have w3 : l3 b2 = 99 := (a3 b2 k2.lt).trans w2
    have e4' : Ex (Lb l3 99 99) h3 h4 := one_lb e4 ⟨by rw [w3]; decide, by rw [w3]; decide⟩
    have hl12 := e12.le
    refine (LdA_b k4 rfl).2 (r l3 h4 (a0.trans a3 hl12) (k3.ex16 e4' (by decide)) ?_)
    have e03 : Ex (Lb lab 1 15) h h3 := a0.ex (Ex.toM e12) e3
    exact e03.fresh e4 fun y hy he => by omega
  refine fv (v := int o.kind) (by rw [k1.get]; rfl) ?_
  rw [BiP_eql]
  refine cdp (fun h1k => ?_) (fun h1k => ?_)
  · have hm : o.msg = ⟨o.key, false, o.val⟩ := if_pos h1k
    refine fv (v := str o.key) (by rw [k1.get]; rfl) (fv (v := str o.val) (by rw [k1.get]; rfl) ?_)
    rw [hm] at ho hv
    refine c_kv_Put kk2 hmay.1 hv ho fun l3 h3 a3 k3 e3 => ?_
    refine ⟨_, #[int 0, str [], .slice none 0 0], rfl, rfl, ?_⟩
    exact fin l3 h3 a3 (by rw [hm]; exact k3) e3
  · rw [BiP_eql]
    have hm : o.msg = ⟨o.key, true, []⟩ := if_neg h1k
    refine cdp (fun _ => ?_) (fun h => absurd (hkd.resolve_left h1k) h)
    refine fv (v := str o.key) (by rw [k1.get]; rfl) ?_
    rw [hm] at ho
    refine c_kv_Delete kk2 hmay.1 h0 ho fun l3 h3 a3 k3 e3 => ?_
    refine ⟨_, #[int 0, str [], .slice none 0 0], rfl, rfl, ?_⟩
    exact fin l3 h3 a3 (by rw [hm]; exact k3) e3
end
end Go.Sg
namespace Go.Sg
open Go Vc
def psOf (L : List Opx) (i : Nat) : List Pair := ((L.take i).map Opx.msg).foldl applyP []
theorem psOf_succ {L : List Opx} {i : Nat} {o : Opx} (h : L[i]? = some o) : psOf L (i + 1) = applyP (psOf L i) o.msg := by
  unfold psOf
  rw [List.take_add_one, h]
  simp
def goodOps (c : Config) (L : List Opx) : Prop := ∀ i o, L[i]? = some o → chg c o ∧ o.key.length ≤ 200 ∧ o.val.length ≤ 400 ∧ (o.msg.val.length : Int) ≤ c.val ∧ lok c (psOf L (i + 1))
section
variable {lab lab' : Nat → Nat} {h h' : Heap} {K : Kt} {c : Config} {U : Nat → Prop} {x : Value} {L : List Opx}
theorem lok_bounds (hr : c.Right) {ps : List Pair} (ho : lok c ps) : ps.length ≤ 2 ^ 30 ∧ ∀ p ∈ ps, p.key.length < 2 ^ 62 := by
  have hf := outer_fits hr ho
  have hk := hr.1
  unfold Config.Sized at hk
  refine ⟨by have : ps.length ≤ 1024 := hf.2.1; omega, fun p hp => ?_⟩
  have := (hf.1 p hp).1
  omega
end
end Go.Sg
set_option maxRecDepth 100000
namespace Go.Sg
open Go Vc Go.Proofs
def m_cursor_Cursor_Next_j45 (x0_ x2_ : Value) (h : Heap) (K : Kt) : Prop :=
 Fl 6 x0_ h fun x48 =>
 Ea 2 x48 (.int .i64 0) h fun x50 =>
 AlP t_api_Pair zt_api_Pair h fun x52 h51 =>
 StA 2 x52 x50 h51 fun h53 =>
 Fl 6 x0_ h53 fun x56 =>
 SlP 2 x56 (some (.int .i64 1)) none fun x57 =>
 Fs 6 x0_ x57 h53 fun h60 =>
 Fv 0 x52 h60 fun x62 =>
 Ca f_lex_Next #[x62] h60 fun x64 h63 =>
 Fs 2 x0_ x64 h63 fun h67 =>
 Fl 5 x0_ h67 fun x70 =>
 BiP .add x70 (.int .i64 1) fun x71 =>
 Fs 5 x0_ x71 h67 fun h74 =>
 LdA 2 x52 h74 fun x75 =>
 StA 2 x2_ x75 h74 fun h76 =>
 LdA 2 x2_ h76 fun x77 =>
 K (.tuple #[x77, (.bool true), (.int .i64 0)]) h76
def m_cursor_Cursor_Next_j41 (x0_ x2_ x5_ : Value) (h : Heap) (K : Kt) : Prop :=
 Fs 6 x0_ x5_ h fun h44 =>
 m_cursor_Cursor_Next_j45 x0_ x2_ h44 K
def m_cursor_Cursor_Next_j37 (x0_ x2_ x5_ x6_ x43_ : Value) (h : Heap) (K : Kt) : Prop :=
 CdP x43_
 (BlP bt_api_Pair [] fun x38 =>
 StA 2 x2_ x38 h fun h39 =>
 LdA 2 x2_ h39 fun x40 =>
 K (.tuple #[x40, (.bool false), x6_]) h39)
 (m_cursor_Cursor_Next_j41 x0_ x2_ x5_ h K)
def m_cursor_Cursor_Next (x0_ : Value) (h : Heap) (K : Kt) : Prop :=
 AlP t_api_Pair zt_api_Pair h fun x2 h1 =>
 Ca f_cursor_Cursor_none #[x0_] h1 fun x4 h3 =>
 CdP x4
 (BlP bt_api_Pair [] fun x5 =>
 StA 2 x2 x5 h3 fun h6 =>
 LdA 2 x2 h6 fun x7 =>
 K (.tuple #[x7, (.bool false), (.int .i64 1)]) h6)
 (Fl 6 x0_ h3 fun x11 =>
 LenP (some true) x11 fun x12 =>
 BiP .eql x12 (.int .i64 0) fun x13 =>
 CdP x13
 (Fl 0 x0_ h3 fun x16 =>
 Fl 2 x0_ h3 fun x19 =>
 Fl 3 x0_ h3 fun x22 =>
 Fl 4 x0_ h3 fun x25 =>
 Ca f_kv_Store_Range #[x16, x19, x22, x25] h3 fun x27 h26 =>
 True ∧ (ExP x27 0 fun x28 =>
 ExP x27 1 fun x29 =>
 BiP .neq x29 (.int .i64 0) fun x32 =>
 CdP x32
 (m_cursor_Cursor_Next_j37 x0_ x2 x28 x29 (.bool true) h26 K)
 (LenP (some true) x28 fun x34 =>
 BiP .eql x34 (.int .i64 0) fun x35 =>
 m_cursor_Cursor_Next_j37 x0_ x2 x28 x29 x35 h26 K)))
 (m_cursor_Cursor_Next_j45 x0_ x2 h3 K))
theorem m_cursor_Cursor_Next_ok {x0_ : Value} {h : Heap} {K : Kt} (hh : m_cursor_Cursor_Next x0_ h K) : Ca f_cursor_Cursor_Next #[x0_] h K := cv Tryz.func6 (by kernel_rfl) hh
def m_cursor_Cursor_All_j24 (x0_ x1_ x4_ x7_ x25_ : Value) (h : Heap) (nx5 : Nt) (K : Kt) : Prop :=
 CdP x25_
 (K x7_ h)
 (nx5 [x4_] h)
def m_cursor_Cursor_All_j25 (h : Heap) (K : Kt) : Prop :=
 K (.int .i64 0) h
def m_cursor_Cursor_All_l4 (vs : List Value) (x0_ x1_ : Value) (h : Heap) (nx5 : Nt) (K : Kt) : Prop :=
 EqP .neq t_func_8e0de9 (.tmp 10) (.const .nilFunc) x1_ .nilFunc h fun x7 h6 =>
 CdP x7
 (Ca f_cursor_Cursor_Next #[x0_] h6 fun x9 h8 =>
 ExP x9 0 fun x10 =>
 ExP x9 1 fun x11 =>
 ExP x9 2 fun x12 =>
 AlP t_api_Pair zt_api_Pair h8 fun x14 h13 =>
 StA 2 x14 x10 h13 fun h15 =>
 UnP .not x11 fun x17 =>
 CdP x17
 (m_cursor_Cursor_All_j24 x0_ x1_ (gv vs 0) x12 (.bool true) h15 nx5 K)
 (LdA 2 x14 h15 fun x19 =>
 CvH Pg x1_ #[x19] h15 fun x21 h20 =>
 UnP .not x21 fun x22 =>
 m_cursor_Cursor_All_j24 x0_ x1_ (gv vs 0) x12 x22 h20 nx5 K))
 (m_cursor_Cursor_All_j25 h6 K)
def m_cursor_Cursor_All (x0_ x1_ : Value) (h : Heap) (K : Kt) : Prop :=
 Ca f_cursor_Cursor_none #[x0_] h fun x2 h1 =>
 CdP x2
 (K (.int .i64 1) h1)
 (LoP (fun vt h nx5 => m_cursor_Cursor_All_l4 vt x0_ x1_ h nx5 K) [(.int .i64 0)] h1)
theorem m_cursor_Cursor_All_ok {x0_ x1_ : Value} {h : Heap} {K : Kt} (hh : m_cursor_Cursor_All x0_ x1_ h K) : Ca f_cursor_Cursor_All #[x0_, x1_] h K := cv Tryz.func9 (by kernel_rfl) hh
def m_cursor_New_j10 (x0_ x1_ x2_ x3_ : Value) (h : Heap) (K : Kt) : Prop :=
 BlP bt_cursor_Cursor [(0, x0_), (1, x1_), (2, x1_), (3, x2_), (4, x3_)] fun x11 =>
 BxP t_cursor_Cursor x11 h fun x13 h12 =>
 K (.tuple #[x13, (.int .i64 0)]) h12
def m_cursor_New_j9 (x0_ x1_ x2_ x3_ x13_ : Value) (h : Heap) (K : Kt) : Prop :=
 CdP x13_
 (K (.tuple #[(.pointer none), (.int .i64 2)]) h)
 (m_cursor_New_j10 x0_ x1_ x2_ x3_ h K)
def m_cursor_New (x0_ x1_ x2_ x3_ : Value) (h : Heap) (K : Kt) : Prop :=
 EqP .eql t_P_kv_Store (.tmp 11) (.const (.pointer none)) x0_ (.pointer none) h fun x3 h2 =>
 CdP x3
 (K (.tuple #[(.pointer none), (.int .i64 1)]) h2)
 (BiP .lss x3_ (.int .i64 1) fun x5 =>
 CdP x5
 (m_cursor_New_j9 x0_ x1_ x2_ x3_ (.bool true) h2 K)
 (BiP .gtr x3_ (.int .i64 1000) fun x7 =>
 m_cursor_New_j9 x0_ x1_ x2_ x3_ x7 h2 K))
theorem m_cursor_New_ok {x0_ x1_ x2_ x3_ : Value} {h : Heap} {K : Kt} (hh : m_cursor_New x0_ x1_ x2_ x3_ h K) : Ca f_cursor_New #[x0_, x1_, x2_, x3_] h K := cv Tryz.func10 (by kernel_rfl) hh
def m_squeeze_Pairs (x0_ : Value) (h : Heap) (K : Kt) : Prop :=
 Ca f_kv_Store_Config #[x0_] h fun x2 h1 =>
 FdT (some 6) .one x2 fun x3 =>
 BiP .add x3 (.int .i64 1) fun x4 =>
 Ca f_strings_Repeat #[(.string { data := #[255] }), x4] h1 fun x6 h5 =>
 Ca f_cursor_New #[x0_, (.string { data := #[] }), x6, (.int .i64 64)] h5 fun x8 h7 =>
 ExP x8 0 fun x9 =>
 ExP x8 1 fun x10 =>
 BiP .neq x10 (.int .i64 0) fun x11 =>
 CdP x11
 (K (.tuple #[(.slice none 0 0), x10]) h7)
 (AlP t_S_api_Pair zt_S_api_Pair h7 fun x13 h12 =>
 Ca f_cursor_Cursor_All #[x9, (.func (.func f_squeeze_Pairs_1) #[] #[x13])] h12 fun x15 h14 =>
 BiP .neq x15 (.int .i64 0) fun x16 =>
 CdP x16
 (K (.tuple #[(.slice none 0 0), x15]) h14)
 (LdP x13 h14 fun x17 =>
 K (.tuple #[x17, (.int .i64 0)]) h14))
theorem m_squeeze_Pairs_ok {x0_ : Value} {h : Heap} {K : Kt} (hh : m_squeeze_Pairs x0_ h K) : Ca f_squeeze_Pairs #[x0_] h K := cv Tryz.func24 (by kernel_rfl) hh
def m_squeeze_Squeeze (x0_ x1_ x2_ : Value) (h : Heap) (K : Kt) : Prop :=
 BxP t_api_Config x1_ h fun x2 h1 =>
 Ca f_squeeze_Pairs #[x0_] h1 fun x4 h3 =>
 ExP x4 0 fun x5 =>
 ExP x4 1 fun x6 =>
 BiP .neq x6 (.int .i64 0) fun x7 =>
 CdP x7
 (K (.tuple #[(.pointer none), x6]) h3)
 (LdA 8 x2 h3 fun x8 =>
 Ca f_squeeze_lay #[x8, x5, x2_] h3 fun x10 h9 =>
 ExP x10 0 fun x11 =>
 ExP x10 1 fun x12 =>
 K (.tuple #[x11, x12]) h9)
theorem m_squeeze_Squeeze_ok {x0_ x1_ x2_ : Value} {h : Heap} {K : Kt} (hh : m_squeeze_Squeeze x0_ x1_ x2_ h K) : Ca f_squeeze_Squeeze #[x0_, x1_, x2_] h K := cv Tryz.func25 (by kernel_rfl) hh
def m_squeeze_Union_j21 (x1_ x3_ x8_ : Value) (h : Heap) (K : Kt) : Prop :=
 ∃ X23 : XS,
 LaX X23 8 x3_ h fun x24 =>
 Ca f_mix_Merge #[x8_] h fun x26 h25 =>
 Agr X23 h h25 ∧ (Ca f_squeeze_lay #[x24, x26, x1_] h25 fun x28 h27 =>
 True ∧ (ExP x28 0 fun x29 =>
 ExP x28 1 fun x30 =>
 K (.tuple #[x29, x30]) h27))
def m_squeeze_Union_l5 (vs : List Value) (x1_ x3_ x13_ x14_ : Value) (h : Heap) (nx6 : Nt) (K : Kt) : Prop :=
 BiP .lss (gv vs 3) x14_ fun x7 =>
 CdP x7
 (Ei 1 x13_ (gv vs 3) h fun x10 =>
 Ca f_squeeze_Pairs #[x10] h fun x12 h11 =>
 ExP x12 0 fun x13 =>
 ExP x12 1 fun x14 =>
 BiP .neq x14 (.int .i64 0) fun x15 =>
 CdP x15
 (K (.tuple #[(.pointer none), x14]) h11)
 (BsP st_S_S_api_Pair 1 [(0, x13)] h11 fun x17 h16 =>
 VH Pg (Builtin.append_ #[t_S_S_api_Pair, t_S_S_api_Pair] t_S_S_api_Pair #[(gv vs 2), x17]) h16 fun x19 h18 =>
 BiP .add (gv vs 3) (.int .i64 1) fun x20 =>
 nx6 [(gv vs 0), (gv vs 1), x19, x20] h18))
 (m_squeeze_Union_j21 x1_ x3_ (gv vs 2) h K)
def m_squeeze_Union (x0_ x1_ x2_ : Value) (h : Heap) (K : Kt) : Prop :=
 BxP t_api_Config x0_ h fun x2 h1 =>
 LenP (some true) x2_ fun x4 =>
 LoP (fun vt h nx6 => m_squeeze_Union_l5 vt x1_ x2 x2_ x4 h nx6 K) [(.pointer none), (.int .i64 0), (.slice none 0 0), (.int .i64 0)] h1
theorem m_squeeze_Union_ok {x0_ x1_ x2_ : Value} {h : Heap} {K : Kt} (hh : m_squeeze_Union x0_ x1_ x2_ h K) : Ca f_squeeze_Union #[x0_, x1_, x2_] h K := cv Tryz.func26 (by kernel_rfl) hh
def m_squeeze_Missing (x0_ x1_ : Value) (h : Heap) (K : Kt) : Prop :=
 Ca f_squeeze_Pairs #[x0_] h fun x2 h1 =>
 ExP x2 0 fun x3 =>
 ExP x2 1 fun x4 =>
 BiP .neq x4 (.int .i64 0) fun x5 =>
 CdP x5
 (K (.tuple #[(.slice none 0 0), x4]) h1)
 (Ca f_squeeze_Pairs #[x1_] h1 fun x7 h6 =>
 ExP x7 0 fun x8 =>
 ExP x7 1 fun x9 =>
 BiP .neq x9 (.int .i64 0) fun x10 =>
 CdP x10
 (K (.tuple #[(.slice none 0 0), x9]) h6)
 (Ca f_mix_Unlike #[x3, x8] h6 fun x12 h11 =>
 K (.tuple #[x12, (.int .i64 0)]) h11))
theorem m_squeeze_Missing_ok {x0_ x1_ : Value} {h : Heap} {K : Kt} (hh : m_squeeze_Missing x0_ x1_ h K) : Ca f_squeeze_Missing #[x0_, x1_] h K := cv Tryz.func27 (by kernel_rfl) hh
def m_cursor_Cursor_none_j11 (x2_ : Value) (h : Heap) (K : Kt) : Prop :=
 K x2_ h
def m_cursor_Cursor_none (x0_ : Value) (h : Heap) (K : Kt) : Prop :=
 EqP .eql t_P_cursor_Cursor (.tmp 3) (.const (.pointer none)) x0_ (.pointer none) h fun x3 h2 =>
 CdP x3
 (m_cursor_Cursor_none_j11 (.bool true) h2 K)
 (Fl 0 x0_ h2 fun x7 =>
 EqP .eql t_P_kv_Store (.tmp 9) (.const (.pointer none)) x7 (.pointer none) h2 fun x9 h8 =>
 m_cursor_Cursor_none_j11 x9 h8 K)
theorem m_cursor_Cursor_none_ok {x0_ : Value} {h : Heap} {K : Kt} (hh : m_cursor_Cursor_none x0_ h K) : Ca f_cursor_Cursor_none #[x0_] h K := cv Tryz.func29 (by kernel_rfl) hh
def m_squeeze_Pairs_1 (x0_ x1_ : Value) (h : Heap) (K : Kt) : Prop :=
 BxP t_api_Pair x0_ h fun x2 h1 =>
 LdP x1_ h1 fun x3 =>
 LdA 2 x2 h1 fun x4 =>
 BsP st_S_api_Pair 1 [(0, x4)] h1 fun x6 h5 =>
 VH Pg (Builtin.append_ #[t_S_api_Pair, t_S_api_Pair] t_S_api_Pair #[x3, x6]) h5 fun x8 h7 =>
 StP x1_ x8 h7 fun h9 =>
 K (.bool true) h9
theorem m_squeeze_Pairs_1_ok {x0_ x1_ : Value} {h : Heap} {K : Kt} (hh : m_squeeze_Pairs_1 x0_ x1_ h K) : Ca f_squeeze_Pairs_1 #[x0_, x1_] h K := cv Tryz.func52 (by kernel_rfl) hh
def m_squeeze_lay (x0_ x1_ x2_ : Value) (h : Heap) (K : Kt) : Prop :=
 BxP t_api_Config x0_ h fun x2 h1 =>
 LdA 8 x2 h1 fun x3 =>
 Ca f_bulk_Lay #[x3, x1_, x2_] h1 fun x5 h4 =>
 ExP x5 0 fun x6 =>
 ExP x5 1 fun x7 =>
 BiP .neq x7 (.int .i64 0) fun x8 =>
 CdP x8
 (K (.tuple #[(.pointer none), x7]) h4)
 (Fv 1 x2 h4 fun x10 =>
 Ca f_kv_Open #[x10, x6] h4 fun x12 h11 =>
 ExP x12 0 fun x13 =>
 ExP x12 1 fun x14 =>
 K (.tuple #[x13, x14]) h11)
theorem m_squeeze_lay_ok {x0_ x1_ x2_ : Value} {h : Heap} {K : Kt} (hh : m_squeeze_lay x0_ x1_ x2_ h K) : Ca f_squeeze_lay #[x0_, x1_, x2_] h K := cv Tryz.func53 (by kernel_rfl) hh
def m_bulk_Lay_j37 (x3_ x9_ x11_ x12_ x13_ : Value) (h : Heap) (nx28 : Nt) (K : Kt) : Prop :=
 BiP .add x13_ (.int .i64 1) fun x38 =>
 Ca f_bulk_above #[x11_, x12_, x38] h fun x40 h39 =>
 ExP x40 0 fun x41 =>
 ExP x40 1 fun x42 =>
 nx28 [x42, x41, x38] h39
def m_bulk_Lay_j43 (x3_ x9_ x10_ x11_ x12_ x13_ : Value) (h : Heap) (K : Kt) : Prop :=
 BiP .neq x10_ (.int .i64 0) fun x44 =>
 CdP x44
 (K (.tuple #[(.slice none 0 0), x10_]) h)
 (LdA 8 x3_ h fun x45 =>
 Ef 3 0 x12_ (.int .i64 0) h fun x48 =>
 BiP .add x13_ (.int .i64 1) fun x49 =>
 BlP bt_head_Head [(0, x45), (1, x48), (2, x49)] fun x50 =>
 Ca f_head_Encode #[x50] h fun x52 h51 =>
 True ∧ (ExP x52 0 fun x53 =>
 ExP x52 1 fun x54 =>
 BiP .neq x54 (.int .i64 0) fun x55 =>
 CdP x55
 (K (.tuple #[(.slice none 0 0), x54]) h51)
 (Ca f_shelf_Shelf_Flush #[x11_] h51 fun x57 h56 =>
 Ca f_dev_Device_Write #[x9_, (.int .u32 0), x53] h56 fun x59 h58 =>
 Ca f_dev_Device_Image #[x9_] h58 fun x61 h60 =>
 K (.tuple #[x61, (.int .i64 0)]) h60)))
def m_bulk_Lay_j36 (x3_ x9_ x10_ x11_ x12_ x13_ x55_ : Value) (h : Heap) (nx28 : Nt) (K : Kt) : Prop :=
 CdP x55_
 (m_bulk_Lay_j37 x3_ x9_ x11_ x12_ x13_ h nx28 K)
 (m_bulk_Lay_j43 x3_ x9_ x10_ x11_ x12_ x13_ h K)
def m_bulk_Lay_l27 (vs : List Value) (x3_ x9_ x11_ : Value) (h : Heap) (nx28 : Nt) (K : Kt) : Prop :=
 BiP .eql (gv vs 0) (.int .i64 0) fun x31 =>
 CdP x31
 (LenP (some true) (gv vs 1) fun x32 =>
 BiP .gtr x32 (.int .i64 1) fun x33 =>
 m_bulk_Lay_j36 x3_ x9_ (gv vs 0) x11_ (gv vs 1) (gv vs 2) x33 h nx28 K)
 (m_bulk_Lay_j36 x3_ x9_ (gv vs 0) x11_ (gv vs 1) (gv vs 2) (.bool false) h nx28 K)
def m_bulk_Lay (x0_ x1_ x2_ : Value) (h : Heap) (K : Kt) : Prop :=
 BxP t_api_Config x0_ h fun x2 h1 =>
 LdA 8 x2 h1 fun x3 =>
 Ca f_bulk_may #[x3, x1_, x2_] h1 fun x5 h4 =>
 BiP .neq x5 (.int .i64 0) fun x6 =>
 CdP x6
 (K (.tuple #[(.slice none 0 0), x5]) h4)
 (Fv 0 x2 h4 fun x8 =>
 Fv 1 x2 h4 fun x10 =>
 Ca f_dev_New #[x8, x10] h4 fun x12 h11 =>
 ExP x12 0 fun x13 =>
 ExP x12 1 fun x14 =>
 BiP .neq x14 (.int .i64 0) fun x15 =>
 CdP x15
 (K (.tuple #[(.slice none 0 0), x14]) h11)
 (LdA 8 x2 h11 fun x16 =>
 Ca f_shelf_New #[x16, x13] h11 fun x18 h17 =>
 ExP x18 0 fun x19 =>
 ExP x18 1 fun x20 =>
 BiP .neq x20 (.int .i64 0) fun x21 =>
 CdP x21
 (K (.tuple #[(.slice none 0 0), x20]) h17)
 (Ca f_bulk_leaves #[x19, x1_, x2_] h17 fun x23 h22 =>
 ExP x23 0 fun x24 =>
 ExP x23 1 fun x25 =>
 LoP (fun vt h nx28 => m_bulk_Lay_l27 vt x2 x13 x19 h nx28 K) [x25, x24, (.int .i64 0)] h22)))
theorem m_bulk_Lay_ok {x0_ x1_ x2_ : Value} {h : Heap} {K : Kt} (hh : m_bulk_Lay x0_ x1_ x2_ h K) : Ca f_bulk_Lay #[x0_, x1_, x2_] h K := cv Tryz.func99 (by kernel_rfl) hh
def m_bulk_may_j38 (h : Heap) (K : Kt) : Prop :=
 K (.int .i64 0) h
def m_bulk_may_j37 (x29_ : Value) (h : Heap) (K : Kt) : Prop :=
 CdP x29_
 (K (.int .i64 11) h)
 (m_bulk_may_j38 h K)
def m_bulk_may_j18 (x1_ x2_ x3_ x7_ : Value) (h : Heap) (K : Kt) : Prop :=
 CdP x7_
 (K (.int .i64 2) h)
 (Ca f_leaf_Right #[x1_] h fun x20 h19 =>
 UnP .not x20 fun x21 =>
 CdP x21
 (K (.int .i64 14) h19)
 (Ca f_slices_ContainsFunc_api_Pair #[x1_, (.func (.func f_bulk_may_1) #[] #[x3_])] h19 fun x23 h22 =>
 CdP x23
 (K (.int .i64 3) h22)
 (∃ X25 : XS,
 LenP (some true) x1_ fun x26 =>
 BiP .gtr x26 (.int .i64 1073741824) fun x27 =>
 CdP x27
 (m_bulk_may_j37 (.bool true) h22 K)
 (LaX X25 8 x3_ h22 fun x29 =>
 LenP (some true) x1_ fun x30 =>
 FaP (some 0) x3_ fun x31 =>
 LdX X25 x31 h22 fun x32 =>
 Ca f_bulk_Blocks #[x29, x30, x2_] h22 fun x34 h33 =>
 Agr X25 h22 h33 ∧ (BiP .gtr x34 x32 fun x35 =>
 m_bulk_may_j37 x35 h33 K)))))
def m_bulk_may (x0_ x1_ x2_ : Value) (h : Heap) (K : Kt) : Prop :=
 BxP t_api_Config x0_ h fun x2 h1 =>
 LdA 8 x2 h1 fun x5 =>
 Ca f_conf_Check #[x5] h1 fun x7 h6 =>
 BiP .neq x7 (.int .i64 0) fun x8 =>
 CdP x8
 (m_bulk_may_j18 x1_ x2_ x2 (.bool true) h6 K)
 (BiP .lss x2_ (.int .i64 1) fun x11 =>
 CdP x11
 (m_bulk_may_j18 x1_ x2_ x2 (.bool true) h6 K)
 (Fv 5 x2 h6 fun x15 =>
 BiP .gtr x2_ x15 fun x16 =>
 m_bulk_may_j18 x1_ x2_ x2 x16 h6 K))
theorem m_bulk_may_ok {x0_ x1_ x2_ : Value} {h : Heap} {K : Kt} (hh : m_bulk_may x0_ x1_ x2_ h K) : Ca f_bulk_may #[x0_, x1_, x2_] h K := cv Tryz.func142 (by kernel_rfl) hh
def m_bulk_may_1_j18 (x3_ : Value) (h : Heap) (K : Kt) : Prop :=
 K x3_ h
def m_bulk_may_1 (x0_ x1_ : Value) (h : Heap) (K : Kt) : Prop :=
 BxP t_api_Pair x0_ h fun x2 h1 =>
 LdA 8 x1_ h1 fun x4 =>
 Fv 0 x2 h1 fun x6 =>
 Ca f_node_Key #[x4, x6] h1 fun x8 h7 =>
 UnP .not x8 fun x9 =>
 CdP x9
 (m_bulk_may_1_j18 (.bool true) h7 K)
 (Fv 1 x2 h7 fun x12 =>
 LenP (some false) x12 fun x13 =>
 Fv 7 x1_ h7 fun x15 =>
 BiP .gtr x13 x15 fun x16 =>
 m_bulk_may_1_j18 x16 h7 K)
theorem m_bulk_may_1_ok {x0_ x1_ : Value} {h : Heap} {K : Kt} (hh : m_bulk_may_1 x0_ x1_ h K) : Ca f_bulk_may_1 #[x0_, x1_] h K := cv Tryz.func187 (by kernel_rfl) hh
def m_bulk_Blocks_j18 (x8_ : Value) (h : Heap) (K : Kt) : Prop :=
 K x8_ h
def m_bulk_Blocks_l10 (vs : List Value) (x18_ x19_ : Value) (h : Heap) (nx11 : Nt) (K : Kt) : Prop :=
 BiP .lss (gv vs 1) x19_ fun x12 =>
 CdP x12
 (Ei 1 x18_ (gv vs 1) h fun x15 =>
 BiP .add (gv vs 0) x15 fun x16 =>
 BiP .add (gv vs 1) (.int .i64 1) fun x17 =>
 nx11 [x16, x17] h)
 (m_bulk_Blocks_j18 (gv vs 0) h K)
def m_bulk_Blocks (x0_ x1_ x2_ : Value) (h : Heap) (K : Kt) : Prop :=
 BxP t_api_Config x0_ h fun x2 h1 =>
 LdA 8 x2 h1 fun x3 =>
 Ca f_bulk_rows #[x3, x1_, x2_] h1 fun x5 h4 =>
 LenP (some true) x5 fun x6 =>
 BiP .eql x6 (.int .i64 0) fun x7 =>
 CdP x7
 (K (.int .i64 0) h4)
 (LenP (some true) x5 fun x9 =>
 LoP (fun vt h nx11 => m_bulk_Blocks_l10 vt x5 x9 h nx11 K) [(.int .i64 1), (.int .i64 0)] h4)
theorem m_bulk_Blocks_ok {x0_ x1_ x2_ : Value} {h : Heap} {K : Kt} (hh : m_bulk_Blocks x0_ x1_ x2_ h K) : Ca f_bulk_Blocks #[x0_, x1_, x2_] h K := cv Tryz.func188 (by kernel_rfl) hh
def m_bulk_rows_j53 (x8_ : Value) (h : Heap) (K : Kt) : Prop :=
 K x8_ h
def m_bulk_rows_l39 (vs : List Value) (x3_ : Value) (h : Heap) (nx40 : Nt) (K : Kt) : Prop :=
 BiP .gtr (gv vs 0) (.int .i64 1) fun x41 =>
 CdP x41
 (Fv 3 x3_ h fun x43 =>
 BiP .add (gv vs 0) x43 fun x44 =>
 BiP .sub x44 (.int .i64 1) fun x45 =>
 Fv 3 x3_ h fun x47 =>
 BiP .quo x45 x47 fun x48 =>
 BsP st_S_int 1 [(0, x48)] h fun x50 h49 =>
 VH Pg (Builtin.append_ #[t_S_int, t_S_int] t_S_int #[(gv vs 1), x50]) h49 fun x52 h51 =>
 nx40 [x48, x52] h51)
 (m_bulk_rows_j53 (gv vs 1) h K)
def m_bulk_rows_j30 (x1_ x2_ x3_ : Value) (h : Heap) (K : Kt) : Prop :=
 BiP .add x1_ x2_ fun x31 =>
 BiP .sub x31 (.int .i64 1) fun x32 =>
 BiP .quo x32 x2_ fun x33 =>
 VH Pg (Builtin.max_ #[t_int, t_int] t_int #[(.int .i64 1), x33]) h fun x35 h34 =>
 BsP st_S_int 1 [(0, x35)] h34 fun x37 h36 =>
 LoP (fun vt h nx40 => m_bulk_rows_l39 vt x3_ h nx40 K) [x35, x37] h36
def m_bulk_rows_j29 (x1_ x2_ x3_ x29_ : Value) (h : Heap) (K : Kt) : Prop :=
 CdP x29_
 (K (.slice none 0 0) h)
 (m_bulk_rows_j30 x1_ x2_ x3_ h K)
def m_bulk_rows (x0_ x1_ x2_ : Value) (h : Heap) (K : Kt) : Prop :=
 BxP t_api_Config x0_ h fun x2 h1 =>
 LdA 8 x2 h1 fun x5 =>
 Ca f_conf_Check #[x5] h1 fun x7 h6 =>
 BiP .neq x7 (.int .i64 0) fun x8 =>
 CdP x8
 (m_bulk_rows_j29 x1_ x2_ x2 (.bool true) h6 K)
 (BiP .lss x1_ (.int .i64 0) fun x13 =>
 CdP x13
 (m_bulk_rows_j29 x1_ x2_ x2 (.bool true) h6 K)
 (BiP .gtr x1_ (.int .i64 1073741824) fun x18 =>
 CdP x18
 (m_bulk_rows_j29 x1_ x2_ x2 (.bool true) h6 K)
 (BiP .lss x2_ (.int .i64 1) fun x22 =>
 CdP x22
 (m_bulk_rows_j29 x1_ x2_ x2 (.bool true) h6 K)
 (Fv 5 x2 h6 fun x26 =>
 BiP .gtr x2_ x26 fun x27 =>
 m_bulk_rows_j29 x1_ x2_ x2 x27 h6 K))))
theorem m_bulk_rows_ok {x0_ x1_ x2_ : Value} {h : Heap} {K : Kt} (hh : m_bulk_rows x0_ x1_ x2_ h K) : Ca f_bulk_rows #[x0_, x1_, x2_] h K := cv Tryz.func237 (by kernel_rfl) hh
end Go.Sg
namespace Go.Sg
open Go Vc
def cz : List Value := [.pointer none, str [], str [], str [], int 0, int 0, .slice none 0 0]
def NobC (h : Heap) (x : Value) : Prop := x = .pointer none ∨ ∃ b, x = ptr b 0 ∧ Blk h b cz
def curc (q : Nat) (first lo hi : Str) (batch told : Int) (asked : Value) : List Value := [ptr q 0, str first, str lo, str hi, int batch, int told, asked]
section
variable {lab lab' : Nat → Nat} {h h' : Heap} {K : Kt} {x : Value} {c : Config} {ps A : List Pair} {b q : Nat} {first lo hi key : Str} {batch told : Int} {v : Value}
theorem NobC.ext (n : NobC h x) (e : Ext h h') : NobC h' x := n.imp id fun ⟨b, h1, h2⟩ => ⟨b, h1, h2.ext e⟩
theorem c_cursor_New_nil (r : K (.tuple #[.pointer none, int 1]) h) : Ca f_cursor_New #[.pointer none, str lo, str hi, int batch] h K :=
  m_cursor_New_ok (eq_ptr_nil (by kernel_rfl) r)
theorem c_cursor_New (h1 : 1 ≤ batch) (h2 : batch ≤ 1000) (r : ∀ b h', Ext h h' → b = h.size → Blk h' b (curc q lo lo hi batch 0 (.slice none 0 0)) → K (.tuple #[ptr b 0, int 0]) h') : Ca f_cursor_New #[ptr q 0, str lo, str hi, int batch] h K := by
  refine m_cursor_New_ok (eq_ptr_nil (by kernel_rfl) ?_)
  show CdP (.bool false) _ _
  rw [CdP_false, BiP_lss, decide_eq_false (by omega), CdP_false, BiP_gtr, decide_eq_false (by omega)]
  unfold m_cursor_New_j9
  rw [CdP_false]
  unfold m_cursor_New_j10
  refine ⟨_, (curc q lo lo hi batch 0 (.slice none 0 0)).toArray, rfl, rfl, ?_⟩
  exact bxa (cs := curc q lo lo hi batch 0 (.slice none 0 0)) fun b h1 e1 hb k1 _ => r b h1 e1 hb k1
theorem c_cursor_none {cs : List Value} (k : Blk h b (ptr q 0 :: cs)) (r : K (.bool false) h) : Ca f_cursor_Cursor_none #[ptr b 0] h K := by
  refine m_cursor_Cursor_none_ok (eq_ptr_nil (by kernel_rfl) (fl (v := ptr q 0) (by rw [k.get]; rfl) ?_))
  exact eq_ptr_nil (by kernel_rfl) r
theorem c_cursor_Next_closed (k : Blk h b (curc q first lo hi batch told (.slice none 0 0))) (kx : KvX h q c) (hbq : b ≠ q)
    (r : ∀ h', KvX h' q c → Blk h' b (curc q first lo hi batch told (.slice none 0 0)) → Ex (fun x => x = q) h h' → K (.tuple #[.agg #[str [], str []], .bool false, int 13]) h') : Ca f_cursor_Cursor_Next #[ptr b 0] h K := by
  refine m_cursor_Cursor_Next_ok (ala (cs := [str [], str []]) fun b1 h1 e1 hb1 k1 _ => ?_)
  have k := k.ext e1
  have hq : q < h.size := by obtain ⟨_, _, _, _, z⟩ := kx; exact z.lt
  refine c_cursor_none k ?_
  rw [CdP_false]
  refine fl (v := .slice none 0 0) (by rw [k.get]; rfl) ((Sl.nil (α := Pair) No h1).len ?_)
  rw [BiP_eql]
  refine cdp (fun _ => ?_) fun h => absurd rfl h
  refine fl (v := ptr q 0) (by rw [k.get]; rfl) (fl (v := str lo) (by rw [k.get]; rfl) (fl (v := str hi) (by rw [k.get]; rfl) (fl (v := int batch) (by rw [k.get]; rfl) ?_)))
  refine c_kv_Range_closed (kx.ext e1) fun h2 kx2 e2 => ⟨trivial, ?_⟩
  rw [ex20, ex21, BiP_neq]
  refine cdp (fun _ => ?_) fun h => absurd (by decide) h
  unfold m_cursor_Cursor_Next_j37
  rw [CdP_true]
  refine ⟨_, #[str [], str []], rfl, rfl, ?_⟩
  have k12 := k1.ex e2 (show ¬ b1 = q by omega)
  have kb2 := k.ex e2 hbq
  have hb : b ≠ b1 := by have := k.lt; intro hh; subst hh; exact absurd (k.uniq k1) (by simp [curc])
  refine StA_b (vs := [str [], str []]) k12 rfl rfl rfl fun h3 _ e3 k3 => ?_
  refine (LdA_b k3 rfl).2 (r h3 ?_ (kb2.ex e3 hb) ?_)
  · obtain ⟨w1, w2, w3, w4, z⟩ := kx2
    exact ⟨w1, w2, w3, w4, z.ex e3 (by omega)⟩
  · exact ((Ex.toM e1).trans e2).fresh e3 fun y hy he => by omega
structure CuS (lab : Nat → Nat) (h : Heap) (b q : Nat) (first lo hi : Str) (batch told : Int) (A : List Pair) : Prop where
  out : ∃ v, Blk h b (curc q first lo hi batch told v) ∧ Sl (Use lab) h v A
  l60 : lab b = 60
def askedP (ps A : List Pair) (lo hi : Str) (batch : Int) : List Pair := if A = [] then rangeK ps lo hi batch else A
theorem c_cursor_Next (k : CuS lab h b q first lo hi batch told A) (kk : KvS lab h q c ps) (hn : batch < 9223372036854775808) (ht0 : 0 ≤ told) (ht : told < 2 ^ 62) (hlk : ∀ p ∈ askedP ps A lo hi batch, p.key.length ≤ 2 ^ 30)
    (r0 : askedP ps A lo hi batch = [] → ∀ lab' h', Lat lab lab' h → CuS lab' h' b q first lo hi batch told [] → KvS lab' h' q c ps → Ex (Lb lab 1 60) h h' → K (.tuple #[.agg #[str [], str []], .bool false, int 0]) h')
    (r1 : ∀ p T, askedP ps A lo hi batch = p :: T → ∀ lab' h', Lat lab lab' h → CuS lab' h' b q first (p.key ++ [0]) hi batch (told + 1) T → KvS lab' h' q c ps → Ex (Lb lab 1 60) h h' → K (.tuple #[.agg #[str p.key, str p.val], .bool true, int 0]) h') :
    Ca f_cursor_Cursor_Next #[ptr b 0] h K := by
  obtain ⟨⟨v, kb, sv⟩, l60⟩ := k
  refine m_cursor_Cursor_Next_ok (ala (cs := [str [], str []]) fun b1 h1 e1 hb1 k1 _ => ?_)
  have hbl := kb.lt
  have a1 : Lat lab (loc lab h b1) h := loc_lat lab (by omega)
  have kk1 := (kk.lat a1).ext e1
  have kb1 := kb.ext e1
  have q99 : loc lab h b1 b1 = 99 := loc_at
  have q60 : loc lab h b1 b = 60 := (a1 b hbl).trans l60
  have sv1 : Sl (Use (loc lab h b1)) h1 v A := (sv.ex e1 (fun _ _ h => h.elim) (fun y hy hm => by show lab y ≠ 0; rw [← a1 y hy]; exact hm))
  refine c_cursor_none kb1 ?_
  rw [CdP_false]
  refine fl (v := v) (by rw [kb1.get]; rfl) (sv1.len ?_)
  have tell : ∀ (l2 : Nat → Nat) (h2 : Heap) (w : Value) (p : Pair) (T : List Pair), askedP ps A lo hi batch = p :: T → Lat (loc lab h b1) l2 h1 → KvS l2 h2 q c ps → Blk h2 b (curc q first lo hi batch told w) → Sl (Use l2) h2 w (p :: T) → Blk h2 b1 [str [], str []] → Ex (Lb (loc lab h b1) 1 60) h1 h2 → m_cursor_Cursor_Next_j45 (ptr b 0) (ptr b1 0) h2 K := fun l2 h2 w p T hA a2 k2 kb2 sw k12 e2 => by
    unfold m_cursor_Cursor_Next_j45
    refine fl (v := w) (by rw [kb2.get]; rfl) (sw.ea (x := p) (by decide) rfl ?_)
    refine alst (vs := [str p.key, str p.val]) rfl rfl rfl fun b3 h3 e3 hb3 k3 _ => ?_
    have kb3 := kb2.ext e3
    have s3 := sw.ext e3
    refine fl (v := w) (by rw [kb3.get]; rfl) ?_
    refine s3.part (a := 1) (b := (p :: T).length) rfl rfl (by simp) (Nat.le_refl _) fun w4 s4 => ?_
    have hT : ((p :: T).take (p :: T).length).drop 1 = T := by rw [List.take_length]; rfl
    rw [hT] at s4
    refine Fs_b kb3 (show 0 + 6 < 7 by decide) (by rw [one_eq]; exact s4.one) fun h4 _ e4 kb4 => ?_
    have hb2l := kb2.lt
    have k34 := k3.ex e4 (show ¬ b3 = b by omega)
    refine fv (v := str p.key) (by rw [k34.get]; rfl) ?_
    have hpk : p.key.length ≤ 2 ^ 30 := hlk p (by rw [hA]; exact List.mem_cons_self ..)
    refine c_lex_Next (by omega) ?_
    refine Fs_b kb4 (show 0 + 2 < 7 by decide) rfl fun h6 _ e6 kb6 => ?_
    refine fl (v := int told) (by rw [kb6.get]; rfl) (add64 (by omega) ?_)
    refine Fs_b kb6 (show 0 + 5 < 7 by decide) rfl fun h7 _ e7 kb7 => ?_
    have kb7 : Blk h7 b (curc q first (p.key ++ [0]) hi batch (told + 1) w4) := kb7
    have k37 := (k34.ex e6 (show ¬ b3 = b by omega)).ex e7 (show ¬ b3 = b by omega)
    refine (LdA_b k37 rfl).2 ?_
    have hb1b : b1 ≠ b := by omega
    have k17 := (((k12.ext e3).ex e4 hb1b).ex e6 hb1b).ex e7 hb1b
    refine StA_b (vs := [str p.key, str p.val]) k17 rfl rfl rfl fun h8 _ e8 k8 => (LdA_b k8 rfl).2 ?_
    have l2b : l2 b = 60 := (a2 b kb1.lt).trans q60
    have l2b1 : l2 b1 = 99 := (a2 b1 k1.lt).trans q99
    have eb : ∀ {ha hc : Heap}, Ex (fun x => x = b) ha hc → Ex (Lb l2 60 60) ha hc := fun e => one_lb e ⟨by rw [l2b]; decide, by rw [l2b]; decide⟩
    have e8' : Ex (Lb l2 99 99) h7 h8 := one_lb e8 ⟨by rw [l2b1]; decide, by rw [l2b1]; decide⟩
    have k28 := (((((k2.ext e3).ex16 (eb e4) (by decide)).ex16 (eb e6) (by decide)).ex16 (eb e7) (by decide))).ex16 e8' (by decide)
    have e37 : Ex (fun x => x = b) h3 h7 := (e4.trans e6).trans e7
    have s8 : Sl (Use l2) h8 w4 T := (s4.keep e37 fun y hy => by subst hy; show l2 y ≠ 0; rw [l2b]; decide).keep e8 fun y hy => by subst hy; show l2 y ≠ 0; rw [l2b1]; decide
    have a02 : Lat lab l2 h := a1.trans a2 e1.le
    refine r1 p T hA l2 h8 a02 ⟨⟨w4, kb7.ex e8 (fun h => hb1b h.symm), s8⟩, (a02 b hbl).trans l60⟩ k28 ?_
    have e02 : Ex (Lb lab 1 60) h h2 := a1.ex (Ex.toM e1) e2
    have e07 : Ex (Lb lab 1 60) h h7 := e02.trans ((Ex.toM e3).trans (e37.mono fun y _ he => by subst he; exact ⟨by rw [l60]; decide, by rw [l60]; decide⟩))
    exact e07.fresh e8 fun y hy he => by omega
  rw [BiP_eql]
  cases hA : A with
  | cons p T =>
    refine cdp (fun h => absurd h (by simp; omega)) fun _ => ?_
    subst hA
    exact tell _ h1 v p T (if_neg (by simp)) (Lat.refl _ _) kk1 kb1 sv1 k1 (Ex.refl _ _)
  | nil =>
    subst hA
    have hask : askedP ps [] lo hi batch = rangeK ps lo hi batch := if_pos rfl
    refine cdp (fun _ => ?_) fun h => absurd rfl h
    refine fl (v := ptr q 0) (by rw [kb1.get]; rfl) (fl (v := str lo) (by rw [kb1.get]; rfl) (fl (v := str hi) (by rw [kb1.get]; rfl) (fl (v := int batch) (by rw [kb1.get]; rfl) ?_)))
    refine c_kv_Range kk1 hn fun l2 h2 w a2 k2 o2 z2 e2 => ⟨trivial, ?_⟩
    rw [ex20, ex21, BiP_neq]
    refine cdp (fun h => absurd rfl h) fun _ => ?_
    have sw : Sl (Use l2) h2 w (rangeK ps lo hi batch) := by
      have := o2.block
      have s0 : Sl No h2 w (rangeK ps lo hi batch) := o2.sl fun _ _ h => h
      obtain ⟨a, cap, hv, hc, hn0, hx⟩ := s0.out
      refine ⟨a, cap, hv, hc, hn0, fun y hy => ⟨(hx y hy).1, fun hl => ⟨((hx y hy).2 hl).1, fun hu => hu (z2 y.block ?_), ((hx y hy).2 hl).2.2⟩⟩⟩
      rw [hv, hy]; rfl
    have kb2 := kb1.ex e2 (nLb q60 (by decide))
    have k12 := k1.ex e2 (nLb q99 (by decide))
    have e2' : Ex (Lb (loc lab h b1) 1 60) h1 h2 := Lb.wide e2 (by decide) (by decide)
    refine sw.len ?_
    rw [BiP_eql]
    unfold m_cursor_Cursor_Next_j37
    cases hR : rangeK ps lo hi batch with
    | nil =>
      refine cdp (fun _ => ?_) fun h => absurd rfl h
      refine ⟨_, #[str [], str []], rfl, rfl, ?_⟩
      refine StA_b (vs := [str [], str []]) k12 rfl rfl rfl fun h3 _ e3 k3 => (LdA_b k3 rfl).2 ?_
      have l2b1 : l2 b1 = 99 := (a2 b1 k1.lt).trans q99
      have e3' : Ex (Lb l2 99 99) h2 h3 := one_lb e3 ⟨by rw [l2b1]; decide, by rw [l2b1]; decide⟩
      have a02 : Lat lab l2 h := a1.trans a2 e1.le
      have hb1b : b ≠ b1 := by omega
      refine r0 (hask.trans hR) l2 h3 a02 ⟨⟨v, kb2.ex e3 hb1b, ?_⟩, (a02 b hbl).trans l60⟩ (k2.ex16 e3' (by decide)) ?_
      · obtain ⟨a, cap, hv, hc, hn0, hx⟩ := sv.out
        exact ⟨a, cap, hv, hc, hn0, fun y hy => ⟨(hx y hy).1, fun hl => absurd rfl hl⟩⟩
      · exact (a1.ex (Ex.toM e1) e2').fresh e3 fun y hy he => by omega
    | cons p T =>
      refine cdp (fun h => absurd h (by simp; omega)) fun _ => ?_
      unfold m_cursor_Cursor_Next_j41
      refine Fs_b kb2 (show 0 + 6 < 7 by decide) (by rw [one_eq]; exact o2.one) fun h3 _ e3 kb3 => ?_
      have kb3 : Blk h3 b (curc q first lo hi batch told w) := kb3
      have l2b : l2 b = 60 := (a2 b kb1.lt).trans q60
      have e3' : Ex (Lb l2 60 60) h2 h3 := one_lb e3 ⟨by rw [l2b]; decide, by rw [l2b]; decide⟩
      rw [hR] at sw
      have s3 : Sl (Use l2) h3 w (p :: T) := sw.keep e3 fun y hy => by subst hy; show l2 y ≠ 0; rw [l2b]; decide
      have e13 : Ex (Lb (loc lab h b1) 1 60) h1 h3 := e2'.trans (e3.mono fun y hy he => by subst he; exact ⟨by rw [q60]; decide, by rw [q60]; decide⟩)
      exact tell l2 h3 w p T (hask.trans hR) a2 (k2.ex16 e3' (by decide)) kb3 s3 (k12.ex e3 (show ¬ b1 = b by omega)) e13
end
end Go.Sg
namespace Go.Sg
open Go Vc
structure BaS (lab : Nat → Nat) (h : Heap) (b : Nat) (L : List Msg) : Prop where
  out : ∃ v, Blk h b [v] ∧ Sl (Use lab) h v L
  l61 : lab b = 61
  asc : Asc Msg.key L
  few : L.length ≤ 2 ^ 30
section
variable {lab lab' : Nat → Nat} {h h' : Heap} {K : Kt} {c : Config} {b s : Nat} {L : List Msg} {m : Msg} {key val : Str} {x : Value} {ps : List Pair}
theorem BaS.ext (k : BaS lab h b L) (e : Ext h h') : BaS lab h' b L := by
  obtain ⟨⟨v, k1, k2⟩, k3, k4, k5⟩ := k
  exact ⟨⟨v, k1.ext e, k2.ext e⟩, k3, k4, k5⟩
theorem BaS.ex {lo hi : Nat} (k : BaS lab h b L) (e : Ex (Lb lab lo hi) h h') (h0 : 0 < lo) (hi60 : hi < 61) (a : Lat lab lab' h) : BaS lab' h' b L := by
  obtain ⟨⟨v, k1, k2⟩, k3, k4, k5⟩ := k
  exact ⟨⟨v, k1.ex e (nLb k3 (by omega)), k2.lat e h0 a⟩, (a b k1.lt).trans k3, k4, k5⟩
theorem BaS.lat (k : BaS lab h b L) (a : Lat lab lab' h) : BaS lab' h b L := k.ex (lo := 1) (hi := 1) (Ex.refl _ _) (by decide) (by decide) a
end
end Go.Sg
set_option maxRecDepth 100000
namespace Go.Sg
open Go Vc Go.Proofs
def repRen : Go.Shelf.Ren := ⟨fun | 105 => f_strings_Repeat | 212 => f_bits_Mul | 99 => f_strings_HasPrefix | 165 => f_strings_Builder_Grow | 166 => f_strings_Builder_WriteString | 170 => f_strings_Builder_Len | 169 => f_strings_Builder_String | 263 => f_bits_Mul32 | 264 => f_bits_Mul64 | 206 => f_stringslite_HasPrefix | 240 => f_strings_Builder_copyCheck | 241 => f_strings_Builder_grow | 276 => f_abi_NoEscape | 277 => f_bytealg_MakeNoZero | n => n, fun | 9 => t_string | 3 => t_int | 4 => t_bool | 20 => t_any | 0 => t_tuple_2e38e7 | 46 => t_uint | 109 => t_tuple_8f2d31 | 5 => t_uint8 | 72 => t_strings_Builder | 76 => t_tuple_8a788c | 51 => t_uint32 | 146 => t_tuple_d245bb | 53 => t_uint64 | 148 => t_tuple_bf5532 | 70 => t_P_strings_Builder | 37 => t_S_uint8 | 75 => t_error | 127 => t_P_uint8 | 164 => t_unsafe_Pointer | 80 => t_func_fe1f55 | n => n, fun n => n⟩
theorem repLay : Lays.n105 Tryz.prog repRen := {
  mixed := by kernel_rfl
  f99 := Tryz.func94.trans (congrArg some (by kernel_rfl))
  f105 := Tryz.func51.trans (congrArg some (by kernel_rfl))
  f165 := Tryz.func95.trans (congrArg some (by kernel_rfl))
  f166 := Tryz.func96.trans (congrArg some (by kernel_rfl))
  f169 := Tryz.func98.trans (congrArg some (by kernel_rfl))
  f170 := Tryz.func97.trans (congrArg some (by kernel_rfl))
  f206 := Tryz.func139.trans (congrArg some (by kernel_rfl))
  f212 := Tryz.func93.trans (congrArg some (by kernel_rfl))
  f240 := Tryz.func140.trans (congrArg some (by kernel_rfl))
  f241 := Tryz.func141.trans (congrArg some (by kernel_rfl))
  f263 := Tryz.func137.trans (congrArg some (by kernel_rfl))
  f264 := Tryz.func138.trans (congrArg some (by kernel_rfl))
  f276 := Tryz.func183.trans (congrArg some (by kernel_rfl))
  f277 := Tryz.func184.trans (congrArg some (by kernel_rfl))
  t0 := Tryz.underlying0
  a0 := Tryz.isAgg0
  z0 := Tryz.sizeOf0
  v0 := Tryz.zeroValue0
  t3 := Tryz.underlying3
  a3 := Tryz.isAgg3
  z3 := Tryz.sizeOf3
  v3 := Tryz.zeroValue3
  t4 := Tryz.underlying4
  a4 := Tryz.isAgg4
  z4 := Tryz.sizeOf4
  v4 := Tryz.zeroValue4
  t5 := Tryz.underlying5
  a5 := Tryz.isAgg5
  z5 := Tryz.sizeOf5
  v5 := Tryz.zeroValue5
  t9 := Tryz.underlying9
  a9 := Tryz.isAgg9
  z9 := Tryz.sizeOf9
  v9 := Tryz.zeroValue9
  t20 := Tryz.underlying20
  a20 := Tryz.isAgg20
  z20 := Tryz.sizeOf20
  v20 := Tryz.zeroValue20
  t37 := Tryz.underlying42
  a37 := Tryz.isAgg42
  z37 := Tryz.sizeOf42
  v37 := Tryz.zeroValue42
  t46 := Tryz.underlying153
  a46 := Tryz.isAgg153
  z46 := Tryz.sizeOf153
  v46 := Tryz.zeroValue153
  t51 := Tryz.underlying116
  a51 := Tryz.isAgg116
  z51 := Tryz.sizeOf116
  v51 := Tryz.zeroValue116
  t53 := Tryz.underlying59
  a53 := Tryz.isAgg59
  z53 := Tryz.sizeOf59
  v53 := Tryz.zeroValue59
  t70 := Tryz.underlying156
  a70 := Tryz.isAgg156
  z70 := Tryz.sizeOf156
  v70 := Tryz.zeroValue156
  t72 := Tryz.underlying158
  a72 := Tryz.isAgg158
  z72 := Tryz.sizeOf158
  v72 := Tryz.zeroValue158
  t75 := Tryz.underlying161
  a75 := Tryz.isAgg161
  z75 := Tryz.sizeOf161
  v75 := Tryz.zeroValue161
  t76 := Tryz.underlying162
  a76 := Tryz.isAgg162
  z76 := Tryz.sizeOf162
  v76 := Tryz.zeroValue162
  t109 := Tryz.underlying154
  a109 := Tryz.isAgg154
  z109 := Tryz.sizeOf154
  v109 := Tryz.zeroValue154
  t127 := Tryz.underlying213
  a127 := Tryz.isAgg213
  z127 := Tryz.sizeOf213
  v127 := Tryz.zeroValue213
  t146 := Tryz.underlying209
  a146 := Tryz.isAgg209
  z146 := Tryz.sizeOf209
  v146 := Tryz.zeroValue209
  t148 := Tryz.underlying211
  a148 := Tryz.isAgg211
  z148 := Tryz.sizeOf211
  v148 := Tryz.zeroValue211
  t164 := Tryz.underlying272
  a164 := Tryz.isAgg272
  z164 := Tryz.sizeOf272
  v164 := Tryz.zeroValue272
  }
theorem repX72 : Builder.X72 Tryz.prog repRen := {
  sizeBuilder := by kernel_rfl
  liesBuilder := by kernel_rfl
  }
theorem repExtra : Builder.Extra Tryz.prog repRen := { repX72 with
  t5 := Tryz.underlying5
  a5 := Tryz.isAgg5
  z5 := Tryz.sizeOf5
  v5 := Tryz.zeroValue5
  infoByte := by kernel_rfl
  cellsByte := by kernel_rfl
  sizeByte := by kernel_rfl
  neB5 := by decide
  }
end Go.Sg
namespace Go.Sg
open Go Vc
def partK (ps : List Pair) (lo hi : Str) : List Pair := if lo < hi then ps.filter fun a => inSpan ⟨lo, hi, false⟩ a.key else []
theorem rangeK_eq {ps : List Pair} {lo hi : Str} {n : Int} (hn : 1 ≤ n) : rangeK ps lo hi n = (partK ps lo hi).take n.toNat := by
  unfold rangeK partK
  split
  · rename_i h
    unfold rangeOf Span.empty partOf
    have h1 : ¬ (n < 1 ∨ (!(false : Bool) && decide (¬ lo < hi)) = true) := by
      simp [h]; omega
    rw [if_neg h1]
  · simp
theorem lt_snoc {a b : Str} : a < b ++ [0] ↔ ¬ b < a := by
  induction b generalizing a with
  | nil =>
    cases a with
    | nil => simp
    | cons x a =>
      rw [List.nil_append, List.cons_lt_cons_iff]
      have h1 : ¬ x < 0 := by simp
      have h2 : ¬ (x = 0 ∧ a < ([] : Str)) := fun h => by have := h.2; simp at this
      simp [h1, h2]
  | cons y b ih =>
    cases a with
    | nil => simp
    | cons x a =>
      rw [List.cons_append, List.cons_lt_cons_iff, List.cons_lt_cons_iff, ih]
      rcases UInt8.lt_or_le x y with h | h
      · have h1 : ¬ y < x := UInt8.not_lt.2 (UInt8.le_of_lt h)
        have h2 : ¬ y = x := fun e => by subst e; exact UInt8.lt_irrefl _ h
        simp [h, h1, h2]
      · have h1 : ¬ x < y := UInt8.not_lt.2 h
        by_cases h2 : x = y
        · subst h2; simp [h1]
        · have h3 : y < x := UInt8.lt_of_le_of_ne h (Ne.symm h2)
          simp [h1, h2, h3]
theorem partK_next {ps R T : List Pair} {lo hi : Str} {p : Pair} (ha : Asc Pair.key ps) (hR : partK ps lo hi = T ++ p :: R) : partK ps (p.key ++ [0]) hi = R := by
  unfold partK at hR
  split at hR
  case isFalse => simp at hR
  rename_i hlh
  have hm : ∀ a, a ∈ (T ++ p :: R) ↔ a ∈ ps ∧ inSpan ⟨lo, hi, false⟩ a.key = true := fun a => by rw [← hR, List.mem_filter]
  have hs : Asc Pair.key (T ++ p :: R) := by rw [← hR]; exact List.Pairwise.filter _ ha
  have hp := (hm p).1 (by simp)
  have hphi : p.key < hi := by have := hp.2; unfold inSpan at this; simpa using (by simpa using this : _ ∧ _).2
  have hplo : ¬ p.key < lo := by have := hp.2; unfold inSpan at this; simpa using (by simpa using this : _ ∧ _).1
  have hs2 := (List.pairwise_append.1 hs)
  have hs3 := List.pairwise_cons.1 hs2.2.1
  have key : partK ps (p.key ++ [0]) hi = (T ++ p :: R).filter fun a => decide (p.key < a.key) := by
    rw [← hR, List.filter_filter]
    unfold partK
    by_cases hh : p.key ++ [0] < hi
    · rw [if_pos hh]
      refine List.filter_congr fun a _ => ?_
      unfold inSpan
      simp only [Bool.false_or, lt_snoc]
      by_cases q1 : p.key < a.key
      · have q2 : ¬ a.key < lo := fun h => hplo (slt_trans q1 h)
        simp [q1, q2]
      · simp [q1]
    · rw [if_neg hh]
      symm
      rw [List.filter_eq_nil_iff]
      intro a _ h
      simp only [Bool.and_eq_true, decide_eq_true_eq] at h
      unfold inSpan at h
      simp only [Bool.false_or, Bool.and_eq_true, decide_eq_true_eq] at h
      have h4 : a.key < p.key ++ [0] := by
        rcases not_slt.1 hh with q | q
        · exact slt_trans h.2.2 q
        · rw [q]; exact h.2.2
      exact lt_snoc.1 h4 h.1
  rw [key, List.filter_append, List.filter_cons]
  have z1 : T.filter (fun a => decide (p.key < a.key)) = [] := by
    rw [List.filter_eq_nil_iff]
    intro a hT
    have := hs2.2.2 a hT p (by simp)
    simpa using slt_asymm this
  have z2 : R.filter (fun a => decide (p.key < a.key)) = R := by
    rw [List.filter_eq_self]
    intro a hR'
    simpa using hs3.1 a hR'
  rw [z1, z2]
  simp [slt_irrefl]
def tellOn (on : List Pair → Bool) : List Pair → List Pair → List Pair
  | T, [] => T
  | T, p :: R => if on (T ++ [p]) then tellOn on (T ++ [p]) R else T ++ [p]
theorem tellOn_all {on : List Pair → Bool} (h : ∀ T, on T = true) : ∀ (R T : List Pair), tellOn on T R = T ++ R
  | [], T => by simp [tellOn]
  | p :: R, T => by rw [tellOn, if_pos (h _), tellOn_all h R]; simp
theorem Ex.comp {M N : Nat → Prop} {h h1 h2 : Heap} (e : Ex M h h1) (k : Ex N h1 h2) (hn : ∀ x, x < h.size → N x → M x) : Ex M h h2 :=
  ⟨Nat.le_trans e.le k.le, fun x hx hm => (k.eq x (Nat.lt_of_lt_of_le hx e.le) fun y => hm (hn x hx y)).trans (e.eq x hx hm)⟩
section
variable {lab lab' : Nat → Nat} {h h' : Heap} {K : Kt} {c : Config} {b q : Nat} {x : Value} {ps : List Pair} {s : Str} {n : Nat}
theorem c_strings_Repeat (hn : n ≤ 2 ^ 40) (hl : s.length * n ≤ 2 ^ 40) (r : ∀ h', Ext h h' → K (str (Lib.repeatL s n)) h') : Ca f_strings_Repeat #[str s, int n] h K := by
  show CH Pg _ _ h K
  intro w hw
  subst hw
  refine Calls.mono (Go.Proofs.Any.strings_Repeat repLay repExtra ⟨s.toArray⟩ n w (by omega) ?_) fun e w' he => ?_
  · show s.toArray.size * n ≤ _
    rw [List.size_toArray]; omega
  · obtain ⟨rfl, b⟩ := he
    exact ⟨_, rfl, ⟨b.os, b.tape, b.output⟩, r _ ⟨b.size, fun x hx _ => b.block x hx⟩⟩
theorem c_kv_Config (k : ∃ m md a b d e, Blk h q (kvc c m md a b d e)) (r : ∀ h', Ext h h' → K c.v h') : Ca f_kv_Store_Config #[ptr q 0] h K := by
  obtain ⟨m, md, a1, a2, a3, a4, kb⟩ := k
  refine m_kv_Store_Config_ok (al fun b h1 e1 hb k1 _ => ?_)
  refine eq_ptr_nil (by kernel_rfl) ?_
  show CdP (.bool false) _ _
  rw [CdP_false]
  refine Kvc.cfg (kb.ext e1) ?_
  refine StA_b (vs := c.cs) k1 rfl rfl rfl fun h2 _ e2 k2 => ?_
  exact (LdA_b k2 rfl).2 (r h2 (e1.andThen e2 fun x hx he => by omega))
theorem KvS.cf (k : KvS lab h q c ps) : ∃ m md a b d e, Blk h q (kvc c m md a b d e) := by
  obtain ⟨mp, tp, sp, dp, D, V, S, root, rd, wr, a, b, d, e, k1, _⟩ := k
  exact ⟨_, _, _, _, _, _, k1⟩
theorem KvX.cf (k : KvX h q c) : ∃ m md a b d e, Blk h q (kvc c m md a b d e) := by
  obtain ⟨a, b, d, e, k1⟩ := k
  exact ⟨_, _, _, _, _, _, k1⟩
theorem c_cursor_All {first hi lo : Str} {batch told : Int} {A R : List Pair} {f : Fn} {fs cap : Array Value} {J : List Pair → (Nat → Nat) → Heap → Prop} {on : List Pair → Bool} {n0 : Nat}
    (k : CuS lab h b q first lo hi batch told A) (kk : KvS lab h q c ps) (ha : Asc Pair.key ps) (hb1 : 1 ≤ batch) (hb2 : batch ≤ 1000) (ht0 : 0 ≤ told) (ht : told + ps.length < 2 ^ 61) (hlk : ∀ p ∈ ps, p.key.length ≤ 2 ^ 30) (lo0 : Str) (hlo : partK ps lo hi = partK ps lo0 hi) (hA : A = [])
    (j0 : J [] lab h)
    (jx : ∀ T l1 l2 h1 h2, J T l1 h1 → Lat l1 l2 h1 → Ex (Lb l1 1 60) h1 h2 → J T l2 h2)
    (call : ∀ T p l1 h1 Q, T.length < ps.length → J T l1 h1 → (∀ l2 h2, Lat l1 l2 h1 → J (T ++ [p]) l2 h2 → Ex (fun x => n0 ≤ x ∧ Lb l1 61 98 x) h1 h2 → Q (.bool (on (T ++ [p]))) h2) → CvH Pg (.func f fs cap) #[p.v] h1 Q)
    (r : ∀ lab' h', Lat lab lab' h → KvS lab' h' q c ps → J (tellOn on [] (partK ps lo0 hi)) lab' h' → (∃ lo' told' A', CuS lab' h' b q first lo' hi batch told' A') → Ex (fun x => Lb lab 1 60 x ∨ n0 ≤ x) h h' → K (int 0) h') :
    Ca f_cursor_Cursor_All #[ptr b 0, .func f fs cap] h K := by
  subst hA
  have kb0 := k.out
  obtain ⟨v0, kb0, _⟩ := kb0
  refine m_cursor_Cursor_All_ok (c_cursor_none kb0 ?_)
  rw [CdP_false]
  refine lop (σ := List Pair × List Pair × List Pair × Str × Int × (Nat → Nat)) (fun _ => [int 0])
    (fun ⟨T, A, R, lo, told, l⟩ h' => CuS l h' b q first lo hi batch told A ∧ KvS l h' q c ps ∧ J T l h' ∧ Lat lab l h ∧ Ex (fun x => Lb lab 1 60 x ∨ n0 ≤ x) h h' ∧ partK ps lo0 hi = T ++ R ∧ (A = [] → partK ps lo hi = R) ∧ (∃ r', R = A ++ r') ∧ tellOn on T R = tellOn on [] (partK ps lo0 hi) ∧ 0 ≤ told ∧ told + R.length < 2 ^ 61)
    (fun ⟨T, A, R, _⟩ => R.length) ([], [], partK ps lo0 hi, lo, told, lab) rfl ⟨k, kk, j0, Lat.refl _ _, Ex.refl _ _, rfl, fun _ => hlo, ⟨_, rfl⟩, rfl, ht0, ?_⟩ ?_
  · have : (partK ps lo0 hi).length ≤ ps.length := by
      unfold partK; split
      · exact List.length_filter_le _ _
      · simp
    show told + ((partK ps lo0 hi).length : Int) < 2 ^ 61
    omega
  rintro ⟨T, A, R, lo1, told1, l1⟩ h1 N ⟨k1, kk1, j1, a1, e1, hp1, hR1, ⟨r', hr'⟩, ht1, hn1, hn2⟩ hN
  simp only [m_cursor_Cursor_All_l4, gv_zero]
  refine neq_func_nil (ts := #[t_api_Pair]) (rs := #[t_bool]) (vr := false) (by kernel_rfl) ?_
  rw [CdP_true]
  have hask : ∃ r2, R = askedP ps A lo1 hi batch ++ r2 ∧ (askedP ps A lo1 hi batch = [] → R = []) := by
    unfold askedP
    by_cases hA : A = []
    · rw [if_pos hA, rangeK_eq hb1, hR1 hA]
      refine ⟨R.drop batch.toNat, (List.take_append_drop _ _).symm, fun h => ?_⟩
      cases R with
      | nil => rfl
      | cons p R =>
        obtain ⟨m, hm⟩ : ∃ m, batch.toNat = m + 1 := ⟨batch.toNat - 1, by omega⟩
        rw [hm] at h; simp at h
    · rw [if_neg hA]; exact ⟨r', hr', fun h => absurd h hA⟩
  obtain ⟨r2, hq1, hq2⟩ := hask
  have hmem : ∀ p ∈ R, p ∈ ps := fun p hp => by
    have : p ∈ partK ps lo0 hi := by rw [hp1]; exact List.mem_append_right _ hp
    unfold partK at this
    split at this
    · exact (List.mem_filter.1 this).1
    · simp at this
  have h1le := e1.le
  refine c_cursor_Next k1 kk1 (by omega) hn1 (by omega) (fun p hp => hlk p (hmem p (by rw [hq1]; exact List.mem_append_left _ hp))) (fun he l2 h2 a2 k2 kk2 e2 => ?_) (fun p T' he l2 h2 a2 k2 kk2 e2 => ?_)
  · have hR := hq2 he
    rw [ex30, ex31, ex32]
    refine alst (vs := [str [], str []]) rfl rfl rfl fun b3 h3 e3 hb3 k3 _ => ?_
    rw [UnP_not]
    refine cd (fun _ => ?_) fun h => absurd h (by decide)
    unfold m_cursor_Cursor_All_j24
    rw [CdP_true]
    have a02 : Lat lab l2 h := a1.trans a2 h1le
    have a3 := frl_lat l2 h2
    have e02 : Ex (fun x => Lb lab 1 60 x ∨ n0 ≤ x) h h2 := e1.comp e2 fun y hy m => .inl (by show 1 ≤ lab y ∧ lab y ≤ 60; rw [← a1 y hy]; exact m)
    have h2le := e02.le
    refine r (frl l2 h2) h3 (a02.trans a3 h2le) ((kk2.lat a3).ext e3) ?_ ?_ (e02.trans (Ex.toM e3))
    · rw [← ht1, hR]
      show J T _ _
      exact jx T l2 _ h2 h3 (jx T l1 l2 h1 h2 j1 a2 e2) a3 (Ex.toM e3)
    · obtain ⟨⟨v, kb, sv⟩, l60⟩ := k2
      exact ⟨lo1, told1, [], ⟨v, kb.ext e3, (sv.ext e3).ex (Ex.refl No _) (fun _ _ h => h.elim) fun y hy hm => by
        rcases Nat.lt_or_ge y h2.size with hq | hq
        · show l2 y ≠ 0; rw [← a3 y hq]; exact hm
        · exact absurd (frl_new hq) hm⟩, (a3 b kb.lt).trans l60⟩
  · rw [ex30, ex31, ex32]
    refine alst (vs := [str p.key, str p.val]) rfl rfl rfl fun b3 h3 e3 hb3 k3 _ => ?_
    rw [UnP_not]
    refine cd (fun h => absurd h (by decide)) fun _ => (LdA_b k3 rfl).2 ?_
    have a3 := frl_lat l2 h2
    have j3 : J T (frl l2 h2) h3 := jx T l2 _ h2 h3 (jx T l1 l2 h1 h2 j1 a2 e2) a3 (Ex.toM e3)
    refine call T p (frl l2 h2) h3 _ (by
      have q1 : (partK ps lo0 hi).length ≤ ps.length := by
        unfold partK; split
        · exact List.length_filter_le _ _
        · simp
      rw [hp1, hq1, he] at q1
      simp only [List.length_append, List.length_cons] at q1
      omega) j3 fun l4 h4 a4 j4 e4 => ?_
    rw [UnP_not]
    have hRp : R = p :: (T' ++ r2) := by rw [hq1, he]; rfl
    have h2le := e2.le
    have h3le := e3.le
    have a24 : Lat l2 l4 h2 := fun y hy => (a4 y (by omega)).trans (a3 y hy)
    have a04 : Lat lab l4 h := fun y hy => by rw [a24 y (by omega), a2 y (by omega)]; exact a1 y hy
    have e02 : Ex (fun x => Lb lab 1 60 x ∨ n0 ≤ x) h h2 := e1.comp e2 fun y hy m => .inl (by show 1 ≤ lab y ∧ lab y ≤ 60; rw [← a1 y hy]; exact m)
    have a03 : Lat lab (frl l2 h2) h := fun y hy => by rw [a3 y (by omega), a2 y (by omega)]; exact a1 y hy
    have h02 : h.size ≤ h2.size := e02.le
    have e4' : Ex (Lb (frl l2 h2) 61 98) h3 h4 := e4.mono fun y _ m => m.2
    have e03 : Ex (fun x => Lb lab 1 60 x ∨ n0 ≤ x) h h3 := e02.trans (Ex.toM e3)
    have e04 : Ex (fun x => Lb lab 1 60 x ∨ n0 ≤ x) h h4 := e03.comp e4 fun y _ m => .inr m.1
    have kk4 : KvS l4 h4 q c ps := (((kk2.lat a3).ext e3).lat a4).ex16 (a4.fw e4') (by decide)
    have k4 : CuS l4 h4 b q first (p.key ++ [0]) hi batch (told1 + 1) T' := by
      obtain ⟨⟨v, kb, sv⟩, l60⟩ := k2
      have l60' : frl l2 h2 b = 60 := (a3 b kb.lt).trans l60
      have sv3 : Sl (Use (frl l2 h2)) h3 v T' := (sv.ext e3).ex (Ex.refl No _) (fun _ _ h => h.elim) fun y hy hm => by
        rcases Nat.lt_or_ge y h2.size with hq | hq
        · show l2 y ≠ 0; rw [← a3 y hq]; exact hm
        · exact absurd (frl_new hq) hm
      exact ⟨⟨v, (kb.ext e3).ex e4' (nLb l60' (by decide)), sv3.lat e4' (by decide) a4⟩, (a4 b (kb.ext e3).lt).trans l60'⟩
    have hnext : partK ps (p.key ++ [0]) hi = T' ++ r2 := by
      refine partK_next (T := T) (lo := lo0) ha ?_
      rw [hp1, hRp]
    rw [hRp] at hn2
    simp only [List.length_cons, List.length_append] at hn2
    have hto : tellOn on T R = if on (T ++ [p]) then tellOn on (T ++ [p]) (T' ++ r2) else T ++ [p] := by rw [hRp, tellOn]
    refine cd (fun ho => ?_) fun ho => ?_
    · have ho : on (T ++ [p]) = false := by simpa using ho
      refine r l4 h4 a04 kk4 ?_ ⟨_, _, _, k4⟩ e04
      rw [← ht1, hto, if_neg (by simp [ho])]
      exact j4
    · have ho : on (T ++ [p]) = true := by simpa using ho
      refine hN (T ++ [p], T', T' ++ r2, p.key ++ [0], told1 + 1, l4) h4 ⟨k4, kk4, j4, a04, e04, ?_, fun _ => hnext, ⟨r2, rfl⟩, ?_, by omega, ?_⟩ ?_
      · rw [hp1, hRp]; simp
      · rw [← ht1, hto, if_pos ho]
      · simp only [List.length_append]; omega
      · show (T' ++ r2).length < R.length
        rw [hRp]; simp
end
end Go.Sg
