/-
  Part 7 of a proof: own texts, merged by program.
-/
import Derived.MapKept
import Derived.Maps.Keyed
import Derived.Test.YtfdephgpijheoaaGreatDoorP06
set_option linter.unusedVariables false
set_option linter.unusedSimpArgs false
namespace Go.Sg
open Go Vc
theorem cvhc {f : FuncId} {args cap : Array Value} {h : Heap} {K : Kt} (hb : hasBody Pg f = true) (r : Ca f (args ++ cap) h K) : CvH Pg (.func (.func f) #[] cap) args h K := ⟨f, cap, rfl, hb, r⟩
section
variable {h : Heap} {K : Kt} {U : Nat → Prop} {x fv : Value}
theorem ge_any {i : Int} {b : Bool} (hi : 0 ≤ i ↔ b = true) : decide (0 ≤ i) = b := by
  by_cases h0 : 0 ≤ i
  · rw [decide_eq_true h0, hi.1 h0]
  · rw [decide_eq_false h0]; cases hq : b with
    | false => rfl
    | true => exact absurd (hi.2 hq) h0
theorem c_ContainsFunc_Pair {l : List Pair} {p : Pair → Bool} (hc : Tst h fv Pair.v p) (s : Sl U h x l) (hl : l.length ≤ 2 ^ 40) (r : ∀ h', Ext h h' → K (.bool (l.any p)) h') : Ca f_slices_ContainsFunc_api_Pair #[x, fv] h K :=
  m_slices_ContainsFunc_api_Pair_ok (m_slices_IndexFunc_api_Pair_ok (index_gen (K := fun x2 h1 => BiP .geq x2 (.int .i64 0) fun x3 => K x3 h1) (E := Ea 2) (ev := Pair.v) (p := p) (l := l) (fun h' i a R s h0 ha r => Sl.ea s h0 ha r) hc s hl fun i h' e hi => by
    rw [BiP_geq, ge_any hi]; exact r h' e))
def badPair (c : Config) (s : Span) (p : Pair) : Bool := !keyOk c p.key || !inSpan s p.key || decide ((p.val.length : Int) > c.val)
theorem tst_pair {c : Config} {s : Span} {b1 b2 : Nat} (k1 : Blk h b1 c.cs) (k2 : Blk h b2 s.cs) : Tst h (.func (.func f_node_outer_1) #[] #[ptr b1 0, ptr b2 0]) Pair.v (badPair c s) := by
  intro p h0 R e0 r
  refine cvhc (by kernel_rfl) ?_
  show Ca f_node_outer_1 #[p.v, ptr b1 0, ptr b2 0] h0 R
  refine m_node_outer_1_ok (bxa (cs := [str p.key, str p.val]) fun b h1 e1 hb k _ => ?_)
  have e01 := e0.trans e1
  refine (LdA_b (k1.ext e01) rfl).2 ?_
  refine fv (by rw [k.get]; rfl) ?_
  refine c_node_Key (c := c) fun h2 e2 => ?_
  have e02 := e01.trans e2
  rw [UnP_not]
  unfold badPair at r
  refine cd (fun h => ?_) (fun h => ?_)
  · have r := r h2 (e1.trans e2)
    rw [h] at r; exact r
  · have hk : keyOk c p.key = true := by simpa using h
    refine (LdA_b (k2.ext e02) rfl).2 ?_
    refine fv (by rw [(k.ext e2).get]; rfl) ?_
    refine c_lex_In (s := s) fun h3 e3 => ?_
    have e03 := e02.trans e3
    have e13 := (e1.trans e2).trans e3
    rw [UnP_not]
    refine cd (fun h => ?_) (fun h => ?_)
    · have r := r h3 e13
      rw [hk, h] at r; exact r
    · refine fv (by rw [((k.ext e2).ext e3).get]; rfl) ?_
      rw [LenP_str]
      refine fv (by rw [(k1.ext e03).get]; rfl) ?_
      rw [BiP_gtr]
      have r := r h3 e13
      rw [hk, h] at r
      unfold m_node_outer_1_j27
      simpa using r
def outerOk (c : Config) (s : Span) (n : Node) : Bool :=
  decide (n.kids.length + n.pivots.length + n.buf.length = 0) && decide ((n.pairs.length : Int) ≤ c.leaf) && rises Pair.key n.pairs && !n.pairs.any (badPair c s)
def Node.fits (n : Node) : Prop := n.kids.length ≤ 2 ^ 38 ∧ n.pivots.length ≤ 2 ^ 38 ∧ n.buf.length ≤ 2 ^ 38 ∧ n.pairs.length ≤ 2 ^ 38
theorem c_node_outer {c : Config} {s : Span} {n : Node} {v : Value} (d : Nd U h v n) (hf : n.fits) (r : ∀ h', Ext h h' → K (.bool (outerOk c s n)) h') : Ca f_node_outer #[c.v, s.v, v] h K := by
  obtain ⟨vk, vp, vb, vl, rfl, q1, q2, q3, q4⟩ := d.out
  obtain ⟨f1, f2, f3, f4⟩ := hf
  refine m_node_outer_ok (bxa (cs := c.cs) fun b1 h1 e1 hb1 k1 s1 => bxa (cs := s.cs) fun b2 h2 e2 hb2 k2 s2 => bxa (cs := [int n.level, vk, vp, vb, vl]) fun b3 h3 e3 hb3 k3 s3 => ?_)
  have e13 := (e1.trans e2).trans e3
  have k1 := (k1.ext e2).ext e3
  have k2 := k2.ext e3
  have L : ∀ {i : Nat} {v : Value} {R : Value → Prop}, [int n.level, vk, vp, vb, vl][i]? = some v → R v → Fv i (ptr b3 0) h3 R := fun hi hr => fv (by rw [k3.get, Nat.zero_add]; exact hi) hr
  unfold outerOk at r
  refine L rfl (q1.len (L rfl (q2.len (add64 (by omega) (L rfl (q3.len (add64 (by omega) ?_)))))))
  have no : ∀ h', Ext h h' → (decide (n.kids.length + n.pivots.length + n.buf.length = 0) && decide ((n.pairs.length : Int) ≤ c.leaf) && rises Pair.key n.pairs) = false → m_node_outer_j37 (ptr b1 0) (ptr b2 0) (ptr b3 0) (.bool true) h' K := by
    intro h' e hn
    have r := r h' e
    rw [hn] at r; exact r
  rw [BiP_gtr]
  refine cdp (fun h0 => ?_) (fun h0 => ?_)
  · exact no _ e13 (by rw [decide_eq_false (by omega)]; rfl)
  · refine L rfl (q4.len (fv (by rw [k1.get]; rfl) ?_))
    rw [BiP_gtr]
    have t1 : decide (n.kids.length + n.pivots.length + n.buf.length = 0) = true := decide_eq_true (by omega)
    refine cdp (fun h1 => ?_) (fun h1 => ?_)
    · exact no _ e13 (by rw [t1, decide_eq_false (by omega)]; rfl)
    · have t2 : decide ((n.pairs.length : Int) ≤ c.leaf) = true := decide_eq_true (by omega)
      refine L rfl (c_leaf_Right (q4.ext e13) (by omega) fun h4 e4 => ?_)
      have e14 := e13.trans e4
      rw [UnP_not]
      cases hr : rises Pair.key n.pairs with
      | false => exact no _ e14 (by rw [t1, t2, hr]; rfl)
      | true =>
        unfold m_node_outer_j37
        rw [Bool.not_true, CdP_false]
        unfold m_node_outer_j38
        refine fv (by rw [(k3.ext e4).get]; rfl) ?_
        refine c_ContainsFunc_Pair (tst_pair (k1.ext e4) (k2.ext e4)) (q4.ext e14) (by omega) fun h5 e5 => ?_
        rw [UnP_not]
        have r := r h5 (e14.trans e5)
        rw [t1, t2, hr] at r
        simpa using r
end
end Go.Sg
namespace Go.Sg
open Go Vc
structure Cl where
  v : Value
  one : v.oneCell' = true
instance : El Cl := ⟨1, fun s => [s.v], fun _ => rfl, by decide, fun a v h => by simp at h; subst h; exact a.one⟩
end Go.Sg
namespace Go.Sg
open Go Vc
theorem Sl.one {α : Type} [El α] {U h v} {l : List α} (s : Sl U h v l) : v.oneCell' = true := by
  obtain ⟨a, cap, rfl, _⟩ := s.out; rfl
end Go.Sg
namespace Go.Sg
open Go Vc
section
variable {h : Heap} {K : Kt} {U : Nat → Prop} {x : Value}
theorem sumMore_lt (s : Nat) (l : List UInt8) : sumMore s l < 4294967296 := by
  have := sum_fold_lt l (s % 65536 % 65521, s / 65536 % 65521) (Nat.mod_lt _ (by decide)) (Nat.mod_lt _ (by decide))
  unfold sumMore
  simp only
  omega
theorem c_check_Sum {a : Cl} {l : List UInt8} (s : Sl U h x [a]) (sa : Sl U h a.v l) (hl : l.length ≤ 2 ^ 40) (r : K (.int .u32 (sumMore 1 l)) h) : Ca f_check_Sum #[x] h K := by
  refine m_check_Sum_ok (s.len ?_)
  let tot : Nat → Nat := fun i => match i with | 0 => 1 | _ => sumMore 1 l
  refine lop (σ := Nat) (fun i => [.int .u32 (tot i), int i]) (fun i h' => h' = h ∧ i ≤ 1) (fun i => 1 - i) 0 rfl ⟨rfl, by omega⟩ ?_
  rintro i h1 N ⟨rfl, hi⟩ hN
  simp only [m_check_Sum_l3, gv_zero, gv_succ]
  have hlen : ([a] : List Cl).length = 1 := rfl
  rw [BiP_lss]
  refine cdp (fun hlt => ?_) (fun hge => ?_)
  · have h0 : i = 0 := by rw [hlen] at hlt; omega
    subst h0
    refine s.ei (x := a) (by omega) rfl rfl ?_
    refine c_check_More (s := 1) sa (by decide) hl ?_
    refine add64 (by omega) ?_
    exact hN 1 h1 ⟨rfl, by omega⟩ (by omega)
  · have h1' : i = 1 := by rw [hlen] at hge; omega
    subst h1'
    exact r
end
end Go.Sg
namespace Go.Sg
open Go Vc
structure No' (n0 : Nat) (h : Heap) (v : Value) (n : Node) : Prop where
  out : ∃ k p b l, v = .agg #[int n.level, k, p, b, l] ∧ Ow n0 t_uint32 h k n.kids ∧ Ow n0 t_string h p n.pivots ∧ Ow n0 t_api_Msg h b n.buf ∧ Ow n0 t_api_Pair h l n.pairs
section
variable {h : Heap} {K : Kt} {U : Nat → Prop} {v : Value}
theorem Ow.one {α : Type} [El α] {n0 e h v} {l : List α} (o : Ow n0 e h v l) : v.oneCell' = true := by
  rcases o with ⟨rfl, _⟩ | ⟨g, cap, cur, rfl, _⟩ <;> rfl
theorem Ow.form {α : Type} [El α] {n0 e h v} {l : List α} (o : Ow n0 e h v l) : ∃ a m c, v = .slice a m c := by
  rcases o with ⟨rfl, _⟩ | ⟨g, cap, cur, rfl, _⟩ <;> exact ⟨_, _, _, rfl⟩
end
end Go.Sg
namespace Go.Sg
def Lk (be ah : Nat → Nat) : List Nat → Prop
  | x :: y :: t => be x = y ∧ ah y = x ∧ Lk be ah (y :: t)
  | _ => True
theorem lk_split {be ah : Nat → Nat} {x : Nat} {r : List Nat} : ∀ (l : List Nat), Lk be ah (l ++ x :: r) ↔ Lk be ah (l ++ [x]) ∧ Lk be ah (x :: r)
  | [] => by simp [Lk]
  | [a] => by simp [Lk, and_assoc]
  | a :: b :: l => by
    have := lk_split (x := x) (r := r) (be := be) (ah := ah) (b :: l)
    simp only [List.cons_append] at this ⊢
    simp only [Lk, this, and_assoc]
theorem lk_congr {be ah be' ah' : Nat → Nat} : ∀ (l : List Nat), (∀ x ∈ l.dropLast, be' x = be x) → (∀ x ∈ l.tail, ah' x = ah x) → Lk be ah l → Lk be' ah' l
  | [], _, _, _ => trivial
  | [_], _, _, _ => trivial
  | a :: b :: l, h1, h2, h => by
    refine ⟨(h1 a (by simp)).trans h.1, (h2 b (by simp)).trans h.2.1, lk_congr (b :: l) (fun x hx => h1 x ?_) (fun x hx => h2 x ?_) h.2.2⟩
    · rw [List.dropLast_cons_of_ne_nil (by simp)]; exact List.mem_cons_of_mem _ hx
    · simp at hx ⊢; exact .inr hx
def upd {β : Type} (f : Nat → β) (i : Nat) (v : β) : Nat → β := fun j => if j = i then v else f j
theorem upd_same {β : Type} {f : Nat → β} {i : Nat} {v : β} : upd f i v i = v := by simp [upd]
theorem upd_ne {β : Type} {f : Nat → β} {i j : Nat} {v : β} (h : j ≠ i) : upd f i v j = f j := by simp [upd, h]
structure Ring (n : Nat) (be ah : Nat → Nat) (inn : Nat → Bool) (R : List Nat) : Prop where
  nd : R.Nodup
  lt : ∀ i ∈ R, i < n
  lk : Lk be ah (n :: R ++ [n])
  is : ∀ i, i ≤ n → (inn i = true ↔ i ∈ R)
theorem ring_new {n : Nat} {be ah : Nat → Nat} {inn : Nat → Bool} (h1 : be n = n) (h2 : ah n = n) (h3 : ∀ i, inn i = false) : Ring n be ah inn [] :=
  ⟨List.nodup_nil, by simp, ⟨h1, h2, trivial⟩, fun i _ => by simp [h3]⟩
theorem snoc_of (l : List Nat) (x : Nat) : ∃ P a, x :: l = P ++ [a] := ⟨(x :: l).dropLast, (x :: l).getLast (by simp), (List.dropLast_concat_getLast (by simp)).symm⟩
theorem cons_of (l : List Nat) (x : Nat) : ∃ b Q, l ++ [x] = b :: Q := by
  cases l with
  | nil => exact ⟨x, [], rfl⟩
  | cons b l => exact ⟨b, l ++ [x], rfl⟩
theorem ring_out {n : Nat} {be ah : Nat → Nat} {inn : Nat → Bool} {R : List Nat} {i : Nat} (F : Ring n be ah inn R) (hi : i ∈ R) :
    ah i ≤ n ∧ be i ≤ n ∧ ah i ≠ i ∧ be i ≠ i ∧ Ring n (upd (upd be (ah i) (be i)) i 0) (upd (upd ah (be i) (ah i)) i 0) (upd inn i false) (R.erase i) := by
  obtain ⟨p, q, rfl⟩ := List.append_of_mem hi
  obtain ⟨nd, lt, lk, is⟩ := F
  obtain ⟨P, a, hP⟩ := snoc_of p n
  obtain ⟨b, Q, hQ⟩ := cons_of q n
  rw [List.nodup_append, List.nodup_cons] at nd
  obtain ⟨nd1, ⟨nd2, nd3⟩, nd4⟩ := nd
  have hip : i ∉ p := fun h => nd4 i h i (by simp) rfl
  have hin : i ≠ n := by have := lt i (by simp); omega
  have hnp : n ∉ p := fun h => by have := lt n (by simp [h]); omega
  have hnq : n ∉ q := fun h => by have := lt n (by simp [h]); omega
  have hT : n :: (p ++ i :: q) ++ [n] = P ++ a :: i :: b :: Q := by
    have : n :: (p ++ i :: q) ++ [n] = (n :: p) ++ i :: (q ++ [n]) := by simp
    rw [this, hP, hQ]; simp
  rw [hT, lk_split] at lk
  obtain ⟨l1, l2, l3, l4, l5, l6⟩ := lk
  have hai : ah i = a := l3
  have hbi : be i = b := l4
  have ham : a ∈ n :: p := by rw [hP]; simp
  have hbm : b ∈ q ++ [n] := by rw [hQ]; simp
  have hndP : (P ++ [a]).Nodup := by rw [← hP]; exact List.nodup_cons.2 ⟨hnp, nd1⟩
  have hndQ : (b :: Q).Nodup := by
    rw [← hQ, List.nodup_append]
    exact ⟨nd3, by simp, fun x hx y hy => by simp at hy; subst hy; rintro rfl; exact hnq hx⟩
  have han : a ≤ n := by
    rcases List.mem_cons.1 ham with h | h
    · omega
    · have := lt a (by simp [h]); omega
  have hbn : b ≤ n := by
    rcases List.mem_append.1 hbm with h | h
    · have := lt b (by simp [h]); omega
    · simp at h; omega
  have hane : a ≠ i := fun h => by
    subst h
    rcases List.mem_cons.1 ham with h | h
    · exact hin h
    · exact hip h
  have hbne : b ≠ i := fun h => by
    subst h
    rcases List.mem_append.1 hbm with h | h
    · exact nd2 h
    · simp at h; exact hin h
  rw [hai, hbi]
  have her : (p ++ i :: q).erase i = p ++ q := by rw [List.erase_append_right _ hip]; simp
  rw [her]
  refine ⟨han, hbn, hane, hbne, ⟨?_, fun x hx => lt x (by simp only [List.mem_append, List.mem_cons] at hx ⊢; exact hx.elim Or.inl fun h => Or.inr (Or.inr h)), ?_, fun j hj => ?_⟩⟩
  · rw [List.nodup_append]
    exact ⟨nd1, nd3, fun x hx y hy => nd4 x hx y (by simp [hy])⟩
  · have hT' : n :: (p ++ q) ++ [n] = P ++ a :: b :: Q := by
      have : n :: (p ++ q) ++ [n] = (n :: p) ++ (q ++ [n]) := by simp
      rw [this, hP, hQ]; simp
    rw [hT', lk_split]
    refine ⟨lk_congr _ (fun x hx => ?_) (fun x hx => ?_) l1, ?_, ?_, lk_congr _ (fun x hx => ?_) (fun x hx => ?_) l6⟩
    · rw [List.dropLast_concat] at hx
      have hxa : x ≠ a := by
        rw [List.nodup_append] at hndP
        exact hndP.2.2 x hx a (by simp)
      have hxi : x ≠ i := fun h => by
        subst h
        have : x ∈ n :: p := by rw [hP]; simp [hx]
        rcases List.mem_cons.1 this with h | h
        · exact hin h
        · exact hip h
      rw [upd_ne hxi, upd_ne hxa]
    · rw [← hP] at hx
      simp only [List.tail_cons] at hx
      have hxi : x ≠ i := fun h => by subst h; exact hip hx
      have hxb : x ≠ b := fun h => by
        subst h
        rcases List.mem_append.1 hbm with h | h
        · exact nd4 x hx x (by simp [h]) rfl
        · simp at h; subst h; exact hnp hx
      rw [upd_ne hxi, upd_ne hxb]
    · rw [upd_ne hane, upd_same]
    · rw [upd_ne hbne, upd_same]
    · rw [← hQ, List.dropLast_concat] at hx
      have hxi : x ≠ i := fun h => by subst h; exact nd2 hx
      have hxa : x ≠ a := fun h => by
        subst h
        rcases List.mem_cons.1 ham with h | h
        · subst h; exact hnq hx
        · exact nd4 x h x (by simp [hx]) rfl
      rw [upd_ne hxi, upd_ne hxa]
    · simp only [List.tail_cons] at hx
      have hxb : x ≠ b := fun h => by subst h; exact (List.nodup_cons.1 hndQ).1 hx
      have hxi : x ≠ i := fun h => by
        subst h
        have : x ∈ q ++ [n] := by rw [hQ]; simp [hx]
        rcases List.mem_append.1 this with h | h
        · exact nd2 h
        · simp at h; exact hin h
      rw [upd_ne hxi, upd_ne hxb]
  · by_cases hji : j = i
    · subst hji
      rw [upd_same]
      simp [hip, nd2]
    · rw [upd_ne hji, is j hj]
      simp [hji]
theorem ring_put {n : Nat} {be ah : Nat → Nat} {inn : Nat → Bool} {R : List Nat} {i : Nat} (F : Ring n be ah inn R) (hi : i ∉ R) (hn : i < n) :
    be n ≤ n ∧ be n ≠ i ∧ Ring n (upd (upd be i (be n)) n i) (upd (upd ah i n) (be n) i) (upd inn i true) (i :: R) := by
  obtain ⟨nd, lt, lk, is⟩ := F
  obtain ⟨b, Q, hQ⟩ := cons_of R n
  have hnR : n ∉ R := fun h => by have := lt n h; omega
  have hT : n :: R ++ [n] = n :: b :: Q := by rw [List.cons_append, hQ]
  rw [hT] at lk
  obtain ⟨l1, l2, l3⟩ := lk
  have hbm : b ∈ R ++ [n] := by rw [hQ]; simp
  have hbn : b ≤ n := by
    rcases List.mem_append.1 hbm with h | h
    · have := lt b h; omega
    · simp at h; omega
  have hbi : b ≠ i := fun h => by
    subst h
    rcases List.mem_append.1 hbm with h | h
    · exact hi h
    · simp at h; omega
  have hndQ : (b :: Q).Nodup := by
    rw [← hQ, List.nodup_append]
    exact ⟨nd, by simp, fun x hx y hy => by simp at hy; subst hy; rintro rfl; exact hnR hx⟩
  rw [l1]
  refine ⟨hbn, hbi, ⟨List.nodup_cons.2 ⟨hi, nd⟩, fun x hx => ?_, ?_, fun j hj => ?_⟩⟩
  · rcases List.mem_cons.1 hx with rfl | h
    · exact hn
    · exact lt x h
  · have hT' : n :: (i :: R) ++ [n] = n :: i :: b :: Q := by simp only [List.cons_append, hQ]
    rw [hT']
    refine ⟨upd_same, ?_, ?_, ?_, lk_congr _ (fun x hx => ?_) (fun x hx => ?_) l3⟩
    · rw [upd_ne (Ne.symm hbi), upd_same]
    · rw [upd_ne (by omega), upd_same]
    · rw [upd_same]
    · rw [← hQ, List.dropLast_concat] at hx
      have hxn : x ≠ n := fun h => by subst h; exact hnR hx
      have hxi : x ≠ i := fun h => by subst h; exact hi hx
      rw [upd_ne hxn, upd_ne hxi]
    · simp only [List.tail_cons] at hx
      have hxb : x ≠ b := fun h => by subst h; exact (List.nodup_cons.1 hndQ).1 hx
      have hxi : x ≠ i := fun h => by
        subst h
        have : x ∈ R ++ [n] := by rw [hQ]; simp [hx]
        rcases List.mem_append.1 this with h | h
        · exact hi h
        · simp at h; omega
      rw [upd_ne hxb, upd_ne hxi]
  · by_cases hji : j = i
    · subst hji; simp [upd_same]
    · rw [upd_ne hji, is j hj]; simp [hji]
theorem ring_last {n : Nat} {be ah : Nat → Nat} {inn : Nat → Bool} {R : List Nat} (F : Ring n be ah inn R) : ∃ P, n :: R = P ++ [ah n] := by
  obtain ⟨P, a, hP⟩ := snoc_of R n
  refine ⟨P, ?_⟩
  have lk := F.lk
  have hT : n :: R ++ [n] = P ++ a :: [n] := by rw [hP]; simp
  rw [hT, lk_split] at lk
  rw [lk.2.2.1, hP]
end Go.Sg
namespace Go.Sg
open Go Vc
section
variable {β : Type} {ev : β → Value}
def Mp (ev : β → Value) (h : Array Obj) (b : Nat) (m : List (Nat × β)) : Prop :=
  ∃ es clock, h[b]? = some (.map es clock) ∧ es.toList.map (fun e => (e.key, e.val)) = m.map (fun p => (.int .u32 (p.1 : Int), ev p.2)) ∧ (es.toList.map (·.born)).Nodup ∧ (∀ e ∈ es.toList, e.born < clock) ∧ (m.map Prod.fst).Nodup
theorem Mp.lt {h : Array Obj} {b} {m : List (Nat × β)} (k : Mp ev h b m) : b < h.size := by
  obtain ⟨es, c, h1, _⟩ := k; exact (Array.getElem?_eq_some_iff.1 h1).1
theorem Mp.nodup {h : Array Obj} {b} {m : List (Nat × β)} (k : Mp ev h b m) : (m.map Prod.fst).Nodup := by
  obtain ⟨es, c, h1, h2, h3, h4, h5⟩ := k; exact h5
def mput (m : List (Nat × β)) (k : Nat) (v : β) : List (Nat × β) := if (m.lookup k).isSome then m.map (fun p => if p.1 = k then (k, v) else p) else m ++ [(k, v)]
def mdel (m : List (Nat × β)) (k : Nat) : List (Nat × β) := m.filter fun p => p.1 != k
theorem lookup_none_iff {m : List (Nat × β)} {k : Nat} : m.lookup k = none ↔ k ∉ m.map Prod.fst := by
  induction m with
  | nil => simp
  | cons p m ih =>
    obtain ⟨a, b⟩ := p
    rw [List.lookup_cons]
    by_cases hk : k = a
    · subst hk; simp
    · have : (k == a) = false := by simpa using hk
      rw [this]; simp only [List.map_cons, List.mem_cons, not_or]
      rw [ih]; simp [hk]
theorem findNow_eq {k : Nat} : ∀ (l : List MapEntry) (m : List (Nat × β)) (i : Nat), l.map (fun e => (e.key, e.val)) = m.map (fun p => (.int .u32 (p.1 : Int), ev p.2)) →
    Instr.findNow (.int .u32) (.int .u32 (k : Int)) l i = some ((m.lookup k).map fun v => (i + m.findIdx (fun p => p.1 = k), ev v))
  | [], [], i, _ => rfl
  | [], _ :: _, i, h => by simp at h
  | _ :: _, [], i, h => by simp at h
  | e :: l, p :: m, i, h => by
    obtain ⟨a, v⟩ := p
    simp only [List.map_cons, List.cons.injEq, Prod.mk.injEq] at h
    obtain ⟨⟨h1, h2⟩, h3⟩ := h
    rw [Instr.findNow, h1, List.lookup_cons, List.findIdx_cons]
    by_cases hk : k = a
    · subst hk
      simp [Instr.sameNow, h2]
    · have hk1 : (k == a) = false := by simpa using hk
      have hk2 : ((k : Int) == (a : Int)) = false := by rw [beq_eq_false_iff_ne]; omega
      have hk3 : decide ((a, v).1 = k) = false := by simpa using fun e => hk e.symm
      simp only [Instr.sameNow, if_true, hk1, hk2, hk3, cond_false]
      rw [findNow_eq l m (i + 1) h3]
      cases m.lookup k <;> simp
      omega
theorem entry_get {l : List MapEntry} {m : List (Nat × β)} (h : l.map (fun e => (e.key, e.val)) = m.map (fun p => (.int .u32 (p.1 : Int), ev p.2))) (i : Nat) : (l[i]?).map (fun e => (e.key, e.val)) = (m[i]?).map (fun p => (.int .u32 (p.1 : Int), ev p.2)) := by
  have := congrArg (·[i]?) h
  simpa using this
variable {P : Program} {t kt et ty : TypeId} {h : Array Obj} {K : Value → Array Obj → Prop} {R : Array Obj → Prop} {b : Nat} {m : List (Nat × β)} {k : Nat}
theorem isKeyU (n : Int) : MapKept.IsKey (.int .u32) (.int .u32 n) := by simp [MapKept.IsKey]
theorem vc_lookup (c : Bool) {z : Value} (ht : P.underlying t = some (.map kt et)) (hk : P.underlying kt = some (.int .u32)) (hz : (P.info? et).bind (·.zero) = some z) (o : Mp ev h b m)
    (r : K (if c then .tuple #[((m.lookup k).map ev).getD z, .bool (m.lookup k).isSome] else ((m.lookup k).map ev).getD z) h) : VH P (Instr.lookup t (.map (some b)) (.int .u32 (k : Int)) c) h K := by
  intro w hw
  subst hw
  obtain ⟨es, clock, h1, h2, h3, h4, h5⟩ := o
  have hf := findNow_eq (ev := ev) (k := k) es.toList m 0 h2
  refine ⟨_, w, ?_, Kin.refl _, r⟩
  have hzz : (zeroValue et).run P w = .ok z w := by
    cases hi : P.info? et with
    | none => rw [hi] at hz; cases hz
    | some i =>
      rw [hi] at hz
      simp only [Option.bind_some] at hz
      simp [zeroValue, typeInfo, hi, hz, Result.andThen]
  cases hl : m.lookup k with
  | none =>
    rw [hl] at hf
    simp only [Option.map_none] at hf
    simp [Instr.lookup, run_underlying ht, MapKept.run_getObj_map h1, MapKept.run_checkKey hk (isKeyU _), MapKept.run_findKey hk hf, hzz, Result.andThen]
  | some v =>
    rw [hl] at hf
    simp only [Option.map_some] at hf
    simp [Instr.lookup, run_underlying ht, MapKept.run_getObj_map h1, MapKept.run_checkKey hk (isKeyU _), MapKept.run_findKey hk hf, Result.andThen]
theorem setObj_ex {h : Array Obj} {b : Nat} {o : Obj} : (h.setIfInBounds b o).size = h.size ∧ ∀ c, c ≠ b → (h.setIfInBounds b o)[c]? = h[c]? := by
  refine ⟨by simp, fun c hc => by simp [Ne.symm hc]⟩
theorem setObj_at {h : Array Obj} {b : Nat} {o : Obj} (hb : b < h.size) : (h.setIfInBounds b o)[b]? = some o := by simp [hb]
theorem eraseIdx_map' {α γ : Type} (f : α → γ) : ∀ (l : List α) (i : Nat), (l.eraseIdx i).map f = (l.map f).eraseIdx i
  | [], i => by simp
  | a :: l, 0 => rfl
  | a :: l, i + 1 => by simp [eraseIdx_map' f l i]
theorem findIdx_at {m : List (Nat × β)} {k : Nat} {v : β} (hl : m.lookup k = some v) : m[m.findIdx (fun p => p.1 = k)]? = some (k, v) := by
  induction m with
  | nil => simp at hl
  | cons p m ih =>
    obtain ⟨a, c⟩ := p
    rw [List.lookup_cons] at hl
    rw [List.findIdx_cons]
    by_cases hk : k = a
    · subst hk; simp at hl; subst hl; simp
    · have hk1 : (k == a) = false := by simpa using hk
      have hk3 : decide ((a, c).1 = k) = false := by simpa using fun e => hk e.symm
      rw [hk1] at hl
      rw [hk3]; simpa using ih hl
theorem mput_modify {m : List (Nat × β)} {k : Nat} {v : β} (hn : (m.map Prod.fst).Nodup) (hl : (m.lookup k).isSome = true) : mput m k v = m.modify (m.findIdx (fun p => p.1 = k)) (fun _ => (k, v)) := by
  unfold mput
  rw [if_pos hl]
  induction m with
  | nil => simp at hl
  | cons p m ih =>
    obtain ⟨a, c⟩ := p
    rw [List.map_cons, List.findIdx_cons]
    simp only [List.map_cons, List.nodup_cons] at hn
    by_cases hk : a = k
    · subst hk
      simp only [if_true, decide_true, cond_true, List.modify_zero_cons, List.cons.injEq, true_and]
      conv => rhs; rw [← List.map_id m]
      apply List.map_congr_left
      intro q hq
      rw [if_neg]; rfl
      intro e; exact hn.1 (by rw [← e]; exact List.mem_map_of_mem hq)
    · have hk3 : decide ((a, c).1 = k) = false := by simpa using hk
      have hk1 : (k == a) = false := by simpa using fun e => hk e.symm
      rw [List.lookup_cons, hk1] at hl
      rw [hk3, if_neg (by simpa using hk)]
      simp only [cond_false, List.modify_succ_cons, List.cons.injEq, true_and]
      exact ih hn.2 hl
theorem mput_keys {m : List (Nat × β)} {k : Nat} {v : β} : ((mput m k v).map Prod.fst) = if k ∈ m.map Prod.fst then m.map Prod.fst else m.map Prod.fst ++ [k] := by
  unfold mput
  by_cases hl : (m.lookup k).isSome = true
  · rw [if_pos hl]
    have hm : k ∈ m.map Prod.fst := by
      refine Classical.byContradiction fun hc => ?_
      rw [lookup_none_iff.2 hc] at hl; cases hl
    rw [if_pos hm, List.map_map]
    apply List.map_congr_left
    intro p hp
    by_cases he : p.1 = k
    · simp [he]
    · simp [he]
  · rw [if_neg hl]
    have hm : k ∉ m.map Prod.fst := lookup_none_iff.1 (by cases hq : m.lookup k with
      | none => rfl
      | some _ => rw [hq] at hl; simp at hl)
    rw [if_neg hm]; simp
theorem vc_mapUpdate {v : β} (ht : P.underlying t = some (.map kt et)) (hk : P.underlying kt = some (.int .u32)) (o : Mp ev h b m)
    (r : ∀ h', Mp ev h' b (mput m k v) → h'.size = h.size → (∀ c, c ≠ b → h'[c]? = h[c]?) → R h') : UH P (Instr.mapUpdate t (.map (some b)) (.int .u32 (k : Int)) (ev v)) h R := by
  intro w hw
  subst hw
  obtain ⟨es, clock, h1, h2, h3, h4, h5⟩ := o
  have hlt : b < w.heap.size := (Array.getElem?_eq_some_iff.1 h1).1
  have hf := findNow_eq (ev := ev) (k := k) es.toList m 0 h2
  have hnd : ((mput m k v).map Prod.fst).Nodup := by
    rw [mput_keys]
    split
    · exact h5
    · rename_i hm
      rw [List.nodup_append]
      refine ⟨h5, by simp, fun a ha c hc => ?_⟩
      simp at hc; subst hc; rintro rfl; exact hm ha
  cases hl : m.lookup k with
  | none =>
    rw [hl] at hf
    simp only [Option.map_none] at hf
    refine ⟨{ w with heap := w.heap.setIfInBounds b (.map (es.push ⟨.int .u32 (k : Int), ev v, clock⟩) (clock + 1)) }, ?_, ⟨rfl, rfl, rfl⟩, r _ ?_ setObj_ex.1 setObj_ex.2⟩
    · simp [Instr.mapUpdate, run_underlying ht, MapKept.run_getObj_map h1, MapKept.run_checkKey hk (isKeyU _), MapKept.run_findKey hk hf, MapKept.run_setObj_map _ h1, Result.andThen]
    · refine ⟨_, _, setObj_at hlt, ?_, ?_, ?_, hnd⟩
      · unfold mput; rw [hl]; simp [h2]
      · simp only [Array.toList_push, List.map_append, List.map_cons, List.map_nil]
        rw [List.nodup_append]
        refine ⟨h3, by simp, fun a ha c hc => ?_⟩
        simp at hc; subst hc
        obtain ⟨e, he, rfl⟩ := List.mem_map.1 ha
        have := h4 e he; omega
      · intro e he
        simp only [Array.toList_push, List.mem_append, List.mem_singleton] at he
        rcases he with he | rfl
        · have := h4 e he; omega
        · simp
  | some u =>
    rw [hl] at hf
    simp only [Option.map_some, Nat.zero_add] at hf
    have hat := findIdx_at hl
    generalize hj : m.findIdx (fun p => p.1 = k) = j at hf hat
    have hej := entry_get h2 j
    rw [hat] at hej
    cases he : es.toList[j]? with
    | none => rw [he] at hej; cases hej
    | some e =>
      rw [he] at hej
      simp only [Option.map_some, Option.some.injEq, Prod.mk.injEq] at hej
      have hea : es[j]? = some e := by simpa using he
      have hjl : j < es.size := (Array.getElem?_eq_some_iff.1 hea).1
      refine ⟨{ w with heap := w.heap.setIfInBounds b (.map (es.modify j fun e => { e with key := .int .u32 (k : Int), val := ev v }) clock) }, ?_, ⟨rfl, rfl, rfl⟩, r _ ?_ setObj_ex.1 setObj_ex.2⟩
      · simp [Instr.mapUpdate, run_underlying ht, MapKept.run_getObj_map h1, MapKept.run_checkKey hk (isKeyU _), MapKept.run_findKey hk hf, hea, hej.1, MapKept.run_keyThatStays (isKeyU (k : Int)), MapKept.run_setObj_map _ h1, Result.andThen]
      · have hb : (es.modify j fun e => { e with key := .int .u32 (k : Int), val := ev v }).toList.map (·.born) = es.toList.map (·.born) := by
          apply List.ext_getElem?
          intro i
          simp only [List.getElem?_map, Array.getElem?_toList, Array.getElem?_modify]
          split
          · cases es[i]? <;> simp
          · rfl
        refine ⟨_, _, setObj_at hlt, ?_, by rw [hb]; exact h3, ?_, hnd⟩
        · rw [mput_modify h5 (by rw [hl]; rfl), hj]
          apply List.ext_getElem?
          intro i
          have hi := entry_get h2 i
          simp only [List.getElem?_map, Array.getElem?_toList, Array.getElem?_modify, List.getElem?_modify] at hi ⊢
          by_cases hij : j = i
          · subst hij
            simp [hea, hat]
          · simp only [if_neg hij]
            rw [hi]; simp [hij]
        · intro e' he'
          have : e'.born ∈ (es.modify j fun e => { e with key := .int .u32 (k : Int), val := ev v }).toList.map (·.born) := List.mem_map_of_mem he'
          rw [hb] at this
          obtain ⟨e2, h6, h7⟩ := List.mem_map.1 this
          rw [← h7]; exact h4 e2 h6
theorem mdel_erase {m : List (Nat × β)} {k : Nat} (hn : (m.map Prod.fst).Nodup) (hl : (m.lookup k).isSome = true) : mdel m k = m.eraseIdx (m.findIdx (fun p => p.1 = k)) := by
  unfold mdel
  induction m with
  | nil => simp at hl
  | cons p m ih =>
    obtain ⟨a, c⟩ := p
    rw [List.filter_cons, List.findIdx_cons]
    simp only [List.map_cons, List.nodup_cons] at hn
    by_cases hk : a = k
    · subst hk
      simp only [bne_self_eq_false, Bool.false_eq_true, if_false, decide_true, cond_true, List.eraseIdx_zero, List.tail_cons]
      rw [List.filter_eq_self]
      intro q hq
      simp only [bne_iff_ne, ne_eq]
      intro e; exact hn.1 (by rw [← e]; exact List.mem_map_of_mem hq)
    · have hk3 : decide ((a, c).1 = k) = false := by simpa using hk
      have hk1 : (k == a) = false := by simpa using fun e => hk e.symm
      rw [List.lookup_cons, hk1] at hl
      rw [hk3, if_pos (by simpa using hk)]
      simp only [cond_false, List.eraseIdx_cons_succ, List.cons.injEq, true_and]
      exact ih hn.2 hl
theorem vc_delete {ks : TypeId} (ht : P.underlying t = some (.map kt et)) (hk : P.underlying kt = some (.int .u32)) (o : Mp ev h b m)
    (r : ∀ h', Mp ev h' b (mdel m k) → h'.size = h.size → (∀ c, c ≠ b → h'[c]? = h[c]?) → K (.tuple #[]) h') : VH P (Builtin.delete_ #[t, ks] ty #[.map (some b), .int .u32 (k : Int)]) h K := by
  intro w hw
  subst hw
  obtain ⟨es, clock, h1, h2, h3, h4, h5⟩ := o
  have hlt : b < w.heap.size := (Array.getElem?_eq_some_iff.1 h1).1
  have hf := findNow_eq (ev := ev) (k := k) es.toList m 0 h2
  have hnd : ((mdel m k).map Prod.fst).Nodup := by
    unfold mdel; exact (List.filter_sublist.map _).nodup h5
  cases hl : m.lookup k with
  | none =>
    rw [hl] at hf
    simp only [Option.map_none] at hf
    refine ⟨.tuple #[], { w with heap := w.heap.setIfInBounds b (.map es clock) }, ?_, ⟨rfl, rfl, rfl⟩, r _ ?_ setObj_ex.1 setObj_ex.2⟩
    · simp [Builtin.delete_, run_underlying ht, MapKept.run_getObj_map h1, MapKept.run_checkKey hk (isKeyU _), MapKept.run_findKey hk hf, MapKept.run_setObj_map _ h1, Result.andThen]
    · have hm : mdel m k = m := by
        unfold mdel
        rw [List.filter_eq_self]
        intro q hq
        simp only [bne_iff_ne, ne_eq]
        intro e; exact lookup_none_iff.1 hl (by rw [← e]; exact List.mem_map_of_mem hq)
      rw [hm]
      exact ⟨_, _, setObj_at hlt, h2, h3, h4, h5⟩
  | some u =>
    rw [hl] at hf
    simp only [Option.map_some, Nat.zero_add] at hf
    have hat := findIdx_at hl
    have hmd := mdel_erase (k := k) h5 (by rw [hl]; rfl)
    generalize hj : m.findIdx (fun p => p.1 = k) = j at hf hat hmd
    have hej := entry_get h2 j
    rw [hat] at hej
    have hjl : j < es.size := by
      cases he : es.toList[j]? with
      | none => rw [he] at hej; cases hej
      | some e => simpa using (List.getElem?_eq_some_iff.1 he).1
    have hsub : (es.eraseIdxIfInBounds j).toList = es.toList.eraseIdx j := by
      unfold Array.eraseIdxIfInBounds
      rw [dif_pos hjl]
      simp
    refine ⟨.tuple #[], { w with heap := w.heap.setIfInBounds b (.map (es.eraseIdxIfInBounds j) clock) }, ?_, ⟨rfl, rfl, rfl⟩, r _ ?_ setObj_ex.1 setObj_ex.2⟩
    · simp [Builtin.delete_, run_underlying ht, MapKept.run_getObj_map h1, MapKept.run_checkKey hk (isKeyU _), MapKept.run_findKey hk hf, MapKept.run_setObj_map _ h1, Result.andThen]
    · refine ⟨_, _, setObj_at hlt, ?_, ?_, ?_, hnd⟩
      · rw [hsub, hmd, eraseIdx_map', eraseIdx_map', h2]
      · rw [hsub, eraseIdx_map']; exact (List.eraseIdx_sublist _ _).nodup h3
      · intro e he; rw [hsub] at he; exact h4 e ((List.eraseIdx_sublist _ _).subset he)
theorem vc_makeMap (r : ∀ b h', b = h.size → Mp ev h' b [] → h'.size = h.size + 1 → (∀ c, c < h.size → h'[c]? = h[c]?) → K (.map (some b)) h') : VH P (Instr.makeMap t none) h K := by
  intro w hw
  subst hw
  refine ⟨.map (some w.heap.size), w.alloc (.map #[] 0), ?_, ⟨rfl, rfl, rfl⟩, r _ _ rfl ?_ (show (w.heap.push _).size = _ by simp) (fun c hc => (MapKept.heap_alloc w _).2 c hc)⟩
  · simp [Instr.makeMap, Result.andThen]
  · exact ⟨_, _, (MapKept.heap_alloc w _).1, rfl, by simp, by simp, by simp⟩
end
end Go.Sg
namespace Go.Sg
open Go Vc
section
variable {α : Type} [El α] {e : TypeId} {h : Heap} {R : Heap → Prop}
theorem own_setf {g cap n c : Nat} {L : List α} {i f : Nat} {a a' : α} {w : Value} {k} {zz : Nat} (hzz : zz = El.z α) (o : Own g cap e h L) (hn : n = L.length) (ha : L[i]? = some a) (hf : f < El.z α) (hw : (El.enc a).set f w = El.enc a') (h1 : one' w = true)
    (r : ∀ h', Own g cap e h' (L.set i a') → Ex (fun b => b = g) h h' → R h') : IxP zz (.slice (some ⟨g, 0, none⟩) n c) (.int k i) fun q => FaP (some f) q fun p => StP p w h R := by
  subst hzz hn
  have hi : i < L.length := (List.getElem?_eq_some_iff.1 ha).1
  obtain ⟨cur, q1, q2, q3, q4, q5⟩ := o
  refine ⟨g, 0, L.length, c, k, i, rfl, rfl, by omega, by omega, ?_⟩
  simp only [FaP_ptr, Int.toNat_natCast, Nat.zero_add]
  have hlt : i * El.z α + f < L.length * El.z α := by
    have : (i + 1) * El.z α ≤ L.length * El.z α := Nat.mul_le_mul_right _ hi
    rw [Nat.add_mul, Nat.one_mul] at this; omega
  have hcap : L.length * El.z α ≤ cap * El.z α := Nat.mul_le_mul_right _ q2
  have kb : Blk h g cur := ⟨e, q1⟩
  refine StP_blk kb (by omega) h1 (r _ ?_ (hset_ex rfl))
  have hT : (hset h g (i * El.z α + f) w)[g]? = some (.cells (cur.set (i * El.z α + f) w).toArray e (0, 0)) := by
    rw [hset, Array.getElem?_modify, if_pos rfl, q1]; simp
  exact ⟨_, hT, by rw [List.length_set]; exact q2, q3, by rw [List.length_set, q4], by rw [List.length_set, List.take_set, q5, cells_set ha hf hw]⟩
theorem own_set {g cap c m : Nat} {L : List α} {i n : Nat} {a' : α} {k} {zz : Nat} {vs : List Value} (hzz : zz = El.z α) (hn : n = El.z α) (hvs : vs = El.enc a') (o : Own g cap e h L) (hm : m = L.length) (hi : i < L.length)
    (r : ∀ h', Own g cap e h' (L.set i a') → Ex (fun b => b = g) h h' → R h') : IxP zz (.slice (some ⟨g, 0, none⟩) m c) (.int k i) fun q => StA n q (.agg vs.toArray) h R := by
  subst hzz hn hvs hm
  have hle := o.le
  refine ⟨g, 0, L.length, c, k, i, rfl, rfl, by omega, by omega, ?_⟩
  simp only [Int.toNat_natCast, Nat.zero_add]
  have hw := o.write i [a'] (by omega) (by simp; omega)
  obtain ⟨cur, q1, q2, q3, q4, q5⟩ := o
  have kb : Blk h g cur := ⟨e, q1⟩
  have hlt : (i + 1) * El.z α ≤ cap * El.z α := Nat.mul_le_mul_right _ (by omega)
  rw [Nat.add_mul, Nat.one_mul] at hlt
  refine StA_blk kb (by omega) (El.len a') (by rw [List.all_eq_true]; intro v hv; rw [one_eq]; exact El.one a' v hv) (r _ ?_ (hsets_ex rfl))
  have he : L.take i ++ [a'] ++ L.drop (i + [a'].length) = L.set i a' := by
    rw [List.set_eq_take_append_cons_drop, if_pos hi]; simp
  rw [he] at hw
  simpa only [cells_cons, cells_nil, List.append_nil] using hw
theorem own_set1 {g cap c m : Nat} {L : List α} {i : Nat} {a' : α} {k} {zz : Nat} {w : Value} (hzz : zz = El.z α) (hz1 : El.z α = 1) (hw : El.enc a' = [w]) (o : Own g cap e h L) (hm : m = L.length) (hi : i < L.length)
    (r : ∀ h', Own g cap e h' (L.set i a') → Ex (fun b => b = g) h h' → R h') : IxP zz (.slice (some ⟨g, 0, none⟩) m c) (.int k i) fun q => StP q w h R := by
  have ha : L[i]? = some L[i] := List.getElem?_eq_getElem hi
  have h1 : (El.enc L[i]).set 0 w = El.enc a' := by
    have := El.len L[i]; rw [hz1] at this
    match hq : El.enc L[i], this with
    | [x], _ => rw [hw]; rfl
  have hone : one' w = true := by rw [one_eq]; exact El.one a' w (by rw [hw]; simp)
  have := own_setf (f := 0) (k := k) (c := c) hzz o hm ha (by omega) h1 hone r
  obtain ⟨b, o', len, cap, k', i', e1, e2, e3, e4, e5⟩ := this
  refine ⟨b, o', len, cap, k', i', e1, e2, e3, e4, ?_⟩
  simpa [FaP_ptr] using e5
theorem Own.rd {g cap n : Nat} {L : List α} (o : Own g cap e h L) (hn : n = L.length) {c : Nat} (hc : n ≤ c) : Sl No h (.slice (some ⟨g, 0, none⟩) n c) L := by
  subst hn
  exact ⟨_, c, rfl, hc, (fun x => nomatch x), fun x hx => by
    cases hx
    exact ⟨rfl, fun _ => ⟨o.lt, fun x => x, fun j v hj => by rw [Nat.zero_add]; exact o.at hj⟩⟩⟩
def tab {β : Type} (n : Nat) (f : Nat → β) : List β := (List.range n).map f
theorem tab_length {β : Type} {n : Nat} {f : Nat → β} : (tab n f).length = n := by simp [tab]
theorem tab_get {β : Type} {n i : Nat} {f : Nat → β} (h : i < n) : (tab n f)[i]? = some (f i) := by simp [tab, h]
theorem tab_set {β : Type} {n i : Nat} {f : Nat → β} {v : β} : (tab n f).set i v = tab n (upd f i v) := by
  apply List.ext_getElem?
  intro j
  rw [List.getElem?_set]
  by_cases hij : i = j
  · subst hij
    simp only [if_true, tab_length]
    by_cases hi : i < n
    · rw [if_pos hi, tab_get hi, upd_same]
    · rw [if_neg hi]; simp [tab, hi]
  · rw [if_neg hij]
    by_cases hj : j < n
    · rw [tab_get hj, tab_get hj, upd_ne (Ne.symm hij)]
    · simp [tab, hj]
theorem tab_rep {β : Type} {n : Nat} {v : β} : List.replicate n v = tab n fun _ => v := by
  apply List.ext_getElem?
  intro j
  by_cases hj : j < n
  · rw [tab_get hj]; simp [hj]
  · simp [tab, hj]
end
end Go.Sg
namespace Go.Sg
open Go Vc
structure Link where
  ahead : Nat
  behind : Nat
  inn : Bool
instance : El Link := ⟨3, fun l => [int l.ahead, int l.behind, .bool l.inn], fun _ => rfl, by decide, fun _ v h => by simp at h; rcases h with rfl | rfl | rfl <;> rfl⟩
theorem T_link : SlT Link t_S_chain_link t_chain_link 24 := ⟨by kernel_rfl, by kernel_rfl⟩
theorem z_link : ∀ i z, Pg.info? t_chain_link = some i → i.zero = some z → z.cells.toList = El.enc (⟨0, 0, false⟩ : Link) := by
  have h : (Pg.info? t_chain_link).bind (fun i => i.zero.map fun z => z.cells.toList) = some [int 0, int 0, .bool false] := by kernel_rfl
  intro i z hi hz
  rw [hi] at h
  simp only [Option.bind_some, hz, Option.map_some, Option.some.injEq] at h
  exact h
abbrev two (p g : Nat) : Nat → Prop := fun b => b = p ∨ b = g
def lnk (be ah : Nat → Nat) (inn : Nat → Bool) : Nat → Link := fun j => ⟨ah j, be j, inn j⟩
structure Chn (g p : Nat) (h : Heap) (n : Nat) (R : List Nat) : Prop where
  pos : 0 < n
  big : n ≤ 4096
  ne : p ≠ g
  blk : Blk h p [.slice (some ⟨g, 0, none⟩) (n + 1) (n + 1), int R.length]
  lks : ∃ be ah inn, Ring n be ah inn R ∧ Own g (n + 1) t_chain_link h (tab (n + 1) (lnk be ah inn))
section
variable {h : Heap} {K : Kt} {g p n i : Nat} {R : List Nat}
theorem Chn.ex {M : Nat → Prop} {h' : Heap} (c : Chn g p h n R) (e : Ex M h h') (h1 : ¬ M p) (h2 : ¬ M g) : Chn g p h' n R := by
  obtain ⟨k1, k2, k3, k4, be, ah, inn, k5, k6⟩ := c
  exact ⟨k1, k2, k3, k4.ex e h1, be, ah, inn, k5, k6.ex e h2⟩
theorem Chn.ext {h' : Heap} (c : Chn g p h n R) (e : Ext h h') : Chn g p h' n R := c.ex e (fun x => x) (fun x => x)
theorem lnk_out {be ah : Nat → Nat} {inn : Nat → Bool} {j : Nat} {v : Nat} : upd (lnk be ah inn) j ⟨ah j, v, inn j⟩ = lnk (upd be j v) ah inn := by
  funext k; by_cases h : k = j
  · subst h; simp [upd, lnk]
  · simp [upd, lnk, h]
theorem lnk_ahd {be ah : Nat → Nat} {inn : Nat → Bool} {j : Nat} {v : Nat} : upd (lnk be ah inn) j ⟨v, be j, inn j⟩ = lnk be (upd ah j v) inn := by
  funext k; by_cases h : k = j
  · subst h; simp [upd, lnk]
  · simp [upd, lnk, h]
theorem lnk_all {be ah : Nat → Nat} {inn : Nat → Bool} {j : Nat} {u v : Nat} {x : Bool} : upd (lnk be ah inn) j ⟨u, v, x⟩ = lnk (upd be j v) (upd ah j u) (upd inn j x) := by
  funext k; by_cases h : k = j
  · subst h; simp [upd, lnk]
  · simp [upd, lnk, h]
theorem nodup_le : ∀ (n : Nat) (R : List Nat), R.Nodup → (∀ x ∈ R, x < n) → R.length ≤ n
  | 0, R, _, h => by
    cases R with
    | nil => simp
    | cons a R => have := h a (by simp); omega
  | n + 1, R, hn, h => by
    by_cases hm : n ∈ R
    · have := nodup_le n (R.erase n) (hn.erase n) (fun x hx => by
        rw [hn.mem_erase_iff] at hx
        have := h x hx.2; omega)
      rw [List.length_erase_of_mem hm] at this; omega
    · have := nodup_le n R hn (fun x hx => by
        have h1 := h x hx
        have : x ≠ n := fun e => hm (e ▸ hx)
        omega)
      omega
theorem c_chain_root (c : Chn g p h n R) (r : K (int n) h) : Ca f_chain_Chain_root #[ptr p 0] h K := by
  refine m_chain_Chain_root_ok (fl (by rw [c.blk.get]; rfl) ?_)
  rw [LenP_slice]
  have := c.big
  refine sub64 (by omega) ?_
  have e : ((n + 1 : Nat) : Int) - 1 = n := by omega
  rw [e]; exact r
theorem c_chain_there (c : Chn g p h n R) (hi : i < n) (r : K (int 0) h) : Ca f_chain_Chain_there #[ptr p 0, int i] h K := by
  refine m_chain_Chain_there_ok (eq_ptr_nil (by kernel_rfl) (fl (by rw [c.blk.get]; rfl) ?_))
  rw [LenP_slice, BiP_eql]
  unfold m_chain_Chain_there_j12
  refine cdp (fun h => absurd h (by omega)) fun _ => ?_
  rw [BiP_lss]
  refine cdp (fun h => absurd h (by omega)) fun _ => ?_
  refine c_chain_root c ?_
  rw [BiP_geq]
  unfold m_chain_Chain_there_j20
  exact cdp (fun h => absurd h (by omega)) fun _ => r
theorem c_chain_out (c : Chn g p h n R) (hi : i < n) (r : ∀ h', Chn g p h' n (R.erase i) → Ex (two p g) h h' → K (.tuple #[]) h') : Ca f_chain_Chain_out #[ptr p 0, int i] h K := by
  refine m_chain_Chain_out_ok (fl (by rw [c.blk.get]; rfl) ?_)
  have c0 := c
  obtain ⟨k1, k2, k3, k4, be, ah, inn, k5, k6⟩ := c
  have hpl := k4.lt
  have hgl := k6.lt
  refine (k6.rd (by rw [tab_length]) (Nat.le_refl _)).ea (i := (i : Int)) (x := lnk be ah inn i) (by omega) (by rw [Int.toNat_natCast]; exact tab_get (by omega)) ?_
  refine alst (vs := El.enc (lnk be ah inn i)) rfl rfl rfl fun b h1 e1 hb kb _ => ?_
  have k4a := k4.ext e1
  have k6a := k6.ext e1
  refine fv (by rw [kb.get]; rfl) ?_
  rw [UnP_not]
  show CdP (.bool !inn i) _ _
  refine cd (fun hx => ?_) (fun hx => ?_)
  · have hx : inn i = false := by simpa using hx
    have hm : i ∉ R := fun hm => by rw [(k5.is i (by omega)).2 hm] at hx; cases hx
    rw [List.erase_of_not_mem hm] at r
    exact r h1 (c0.ext e1) e1.toM
  · have hx : inn i = true := by simpa using hx
    have hm : i ∈ R := (k5.is i (by omega)).1 hx
    obtain ⟨q1, q2, q3, q4, q5⟩ := ring_out k5 hm
    refine fl (by rw [k4a.get]; rfl) ?_
    refine fv (by rw [kb.get]; rfl) (fv (by rw [kb.get]; rfl) ?_)
    show IxP 3 _ (.int .i64 ((ah i : Nat) : Int)) fun x19 => FaP (some 1) x19 fun x20 => StP x20 (int (be i)) h1 _
    refine own_setf (f := 1) (a := lnk be ah inn (ah i)) (a' := ⟨ah (ah i), be i, inn (ah i)⟩) rfl k6a (by rw [tab_length]) (tab_get (by omega)) (by decide) rfl rfl fun h2 o2 e2 => ⟨trivial, ?_⟩
    rw [tab_set, lnk_out] at o2
    have k4b := k4a.ex e2 k3
    have kb2 := kb.ex e2 (by omega)
    refine fl (by rw [k4b.get]; rfl) (fv (by rw [kb2.get]; rfl) (fv (by rw [kb2.get]; rfl) ?_))
    show IxP 3 _ (.int .i64 ((be i : Nat) : Int)) fun x19 => FaP (some 0) x19 fun x20 => StP x20 (int (ah i)) h2 _
    refine own_setf (f := 0) (a := lnk (upd be (ah i) (be i)) ah inn (be i)) (a' := ⟨ah i, upd be (ah i) (be i) (be i), inn (be i)⟩) rfl o2 (by rw [tab_length]) (tab_get (by omega)) (by decide) rfl rfl fun h3 o3 e3 => ⟨trivial, ?_⟩
    rw [tab_set, lnk_ahd] at o3
    have k4c := k4b.ex e3 k3
    refine fl (by rw [k4c.get]; rfl) ?_
    refine ⟨_, _, rfl, rfl, ?_⟩
    refine own_set (a' := (⟨0, 0, false⟩ : Link)) (vs := [int 0, int 0, .bool false]) rfl rfl rfl o3 (by rw [tab_length]) (by rw [tab_length]; omega) fun h4 o4 e4 => ?_
    rw [tab_set, lnk_all] at o4
    have k4d := k4c.ex e4 k3
    have hlen : 0 < R.length := List.length_pos_of_mem hm
    have hR := q5.nd
    have hRl : R.length ≤ 4096 + 1 := by
      have h1 := nodup_le n R k5.nd k5.lt
      omega
    refine fl (by rw [k4d.get]; rfl) (sub64 (by omega) ?_)
    refine Fs_b k4d (by simp) rfl fun h5 _ e5 k5' => ?_
    refine r h5 ⟨k1, k2, k3, ?_, _, _, _, q5, o4.ex e5 (Ne.symm k3)⟩ ?_
    · have e : ((R.length : Nat) : Int) - 1 = ((R.erase i).length : Nat) := by rw [List.length_erase_of_mem hm]; omega
      rw [e] at k5'; exact k5'
    · exact (((e1.toM.trans (e2.mono fun _ _ h => .inr h)).trans (e3.mono fun _ _ h => .inr h)).trans (e4.mono fun _ _ h => .inr h)).trans (e5.mono fun _ _ h => .inl h)
theorem c_chain_put (c : Chn g p h n R) (hi : i < n) (hm : i ∉ R) (r : ∀ h', Chn g p h' n (i :: R) → Ex (two p g) h h' → K (.tuple #[]) h') : Ca f_chain_Chain_put #[ptr p 0, int i, int n] h K := by
  refine m_chain_Chain_put_ok (fl (by rw [c.blk.get]; rfl) ?_)
  obtain ⟨k1, k2, k3, k4, be, ah, inn, k5, k6⟩ := c
  have hpl := k4.lt
  have hgl := k6.lt
  obtain ⟨q1, q2, q3⟩ := ring_put k5 hm hi
  refine (k6.rd (by rw [tab_length]) (Nat.le_refl _)).ef (f := 1) (w := int (be n)) (i := (n : Int)) (x := lnk be ah inn n) (by omega) (by rw [Int.toNat_natCast]; exact tab_get (by omega)) rfl ?_
  refine fl (by rw [k4.get]; rfl) ?_
  refine ⟨_, #[int n, int (be n), .bool true], rfl, rfl, ?_⟩
  refine own_set (a' := (⟨n, be n, true⟩ : Link)) (vs := [int n, int (be n), .bool true]) rfl rfl rfl k6 (by rw [tab_length]) (by rw [tab_length]; omega) fun h2 o2 e2 => ?_
  rw [tab_set, lnk_all] at o2
  have k4b := k4.ex e2 k3
  refine fl (by rw [k4b.get]; rfl) ?_
  refine own_setf (f := 1) (a := lnk (upd be i (be n)) (upd ah i n) (upd inn i true) n) (a' := ⟨upd ah i n n, i, upd inn i true n⟩) rfl o2 (by rw [tab_length]) (tab_get (by omega)) (by decide) rfl rfl fun h3 o3 e3 => ?_
  rw [tab_set, lnk_out] at o3
  have k4c := k4b.ex e3 k3
  refine fl (by rw [k4c.get]; rfl) ?_
  refine own_setf (f := 0) (a := lnk (upd (upd be i (be n)) n i) (upd ah i n) (upd inn i true) (be n)) (a' := ⟨i, upd (upd be i (be n)) n i (be n), upd inn i true (be n)⟩) rfl o3 (by rw [tab_length]) (tab_get (by omega)) (by decide) rfl rfl fun h4 o4 e4 => ?_
  rw [tab_set, lnk_ahd] at o4
  have k4d := k4c.ex e4 k3
  have hRl : R.length ≤ 4096 + 1 := by
    have h1 := nodup_le n R k5.nd k5.lt
    omega
  refine fl (by rw [k4d.get]; rfl) (add64 (by omega) ?_)
  refine Fs_b k4d (by simp) rfl fun h5 _ e5 k5' => ?_
  refine r h5 ⟨k1, k2, k3, ?_, _, _, _, q3, o4.ex e5 (Ne.symm k3)⟩ ?_
  · have e : ((R.length : Nat) : Int) + 1 = ((i :: R).length : Nat) := by simp
    rw [e] at k5'; exact k5'
  · exact ((((e2.mono fun _ _ h => .inr h).trans (e3.mono fun _ _ h => .inr h)).trans (e4.mono fun _ _ h => .inr h))).trans (e5.mono fun _ _ h => .inl h)
theorem Chn.nd (c : Chn g p h n R) : R.Nodup := by obtain ⟨k1, k2, k3, k4, be, ah, inn, k5, k6⟩ := c; exact k5.nd
theorem Chn.lt (c : Chn g p h n R) : ∀ i ∈ R, i < n := by obtain ⟨k1, k2, k3, k4, be, ah, inn, k5, k6⟩ := c; exact k5.lt
theorem c_chain_Front (c : Chn g p h n R) (hi : i < n) (r : ∀ h', Chn g p h' n (i :: R.erase i) → Ex (two p g) h h' → K (int 0) h') : Ca f_chain_Chain_Front #[ptr p 0, int i] h K := by
  refine m_chain_Chain_Front_ok (c_chain_there c hi ?_)
  rw [BiP_eql]
  refine cdp (fun _ => ?_) fun h => absurd rfl h
  refine c_chain_out c hi fun h1 c1 e1 => c_chain_root c1 ?_
  refine c_chain_put c1 hi (fun hm => by have := c.nd; rw [this.mem_erase_iff] at hm; exact hm.1 rfl) fun h2 c2 e2 => ?_
  exact r h2 c2 (e1.trans e2)
theorem c_chain_Cut (c : Chn g p h n R) (hi : i < n) (r : ∀ h' v, Chn g p h' n (R.erase i) → Ex (two p g) h h' → K (int v) h') : Ca f_chain_Chain_Cut #[ptr p 0, int i] h K := by
  refine m_chain_Chain_Cut_ok (c_chain_there c hi ?_)
  rw [BiP_neq]
  refine cdp (fun h => absurd rfl h) fun _ => ?_
  refine fl (by rw [c.blk.get]; rfl) ?_
  have c0 := c
  obtain ⟨k1, k2, k3, k4, be, ah, inn, k5, k6⟩ := c
  refine (k6.rd (by rw [tab_length]) (Nat.le_refl _)).ef (f := 2) (w := .bool (inn i)) (i := (i : Int)) (x := lnk be ah inn i) (by omega) (by rw [Int.toNat_natCast]; exact tab_get (by omega)) rfl ?_
  rw [UnP_not]
  refine cd (fun hx => ?_) (fun hx => ?_)
  · have hx : inn i = false := by simpa using hx
    have hm : i ∉ R := fun hm => by rw [(k5.is i (by omega)).2 hm] at hx; cases hx
    rw [List.erase_of_not_mem hm] at r
    exact r h 9 c0 (Ex.refl _ _)
  · exact c_chain_out c0 hi fun h1 c1 e1 => r h1 0 c1 e1
theorem c_chain_Len (c : Chn g p h n R) (r : K (int R.length) h) : Ca f_chain_Chain_Len #[ptr p 0] h K :=
  m_chain_Chain_Len_ok (eq_ptr_nil (by kernel_rfl) (fl (by rw [c.blk.get]; rfl) r))
theorem c_chain_Last (c : Chn g p h n R) (r0 : R = [] → K (.tuple #[int 0, .bool false]) h) (r1 : ∀ P i, R = P ++ [i] → K (.tuple #[int (i : Nat), .bool true]) h) : Ca f_chain_Chain_Last #[ptr p 0] h K := by
  refine m_chain_Chain_Last_ok (c_chain_Len c ?_)
  rw [BiP_eql]
  refine cdp (fun hz => r0 (List.eq_nil_of_length_eq_zero (by omega))) fun hz => ?_
  have c0 := c
  obtain ⟨k1, k2, k3, k4, be, ah, inn, k5, k6⟩ := c
  refine ⟨fun b' _ => b' = p ∨ b' = g, ?_⟩
  rw [NilP_ptr, FaP_ptr]
  refine LdX_b (cs := _) k4 rfl (fun _ => .inl rfl) ?_
  refine c_chain_root c0 ⟨fun _ _ _ => rfl, ?_⟩
  obtain ⟨P, hP⟩ := ring_last k5
  have hcell : hget h g (0 + ((n : Nat) : Int).toNat * 3) = some (int (ah n)) := by
    refine k6.at ?_
    have := cells_get (l := tab (n + 1) (lnk be ah inn)) (i := n) (a := lnk be ah inn n) (tab_get (by omega)) 0 (by decide)
    have hz : El.z Link = 3 := rfl
    rw [hz] at this
    rw [Nat.zero_add, Int.toNat_natCast]
    exact this
  refine ⟨g, 0, n + 1, n + 1, .i64, n, rfl, rfl, by omega, by omega, ?_⟩
  refine FaP_ptr.2 ?_
  refine ⟨g, _, _, rfl, .inr rfl, hcell, ?_⟩
  cases P with
  | nil => simp only [List.nil_append, List.cons.injEq] at hP; rw [hP.2] at hz; exact absurd rfl hz
  | cons a P => simp only [List.cons_append, List.cons.injEq] at hP; exact r1 P (ah n) hP.2
theorem c_chain_New (h0 : 0 < n) (hn : n ≤ 4096) (r : ∀ g p h', h.size ≤ g → h.size ≤ p → Chn g p h' n [] → Ext h h' → K (.tuple #[ptr p 0, int 0]) h') : Ca f_chain_New #[int n] h K := by
  refine m_chain_New_ok ?_
  unfold m_chain_New
  rw [BiP_lss]
  refine cdp (fun h => absurd h (by omega)) fun _ => ?_
  rw [BiP_gtr]
  unfold m_chain_New_j7
  refine cdp (fun h => absurd h (by omega)) fun _ => ?_
  refine add64 (by omega) ?_
  have e : ((n : Nat) : Int) + 1 = ((n + 1 : Nat) : Int) := by omega
  rw [e]
  refine mkn (n0 := h.size) T_link z_link (Nat.le_refl _) (by show (n + 1) * 3 ≤ _; omega) (by decide) fun g h1 hg o1 e1 => ?_
  refine ⟨_, #[.slice (some ⟨g, 0, none⟩) (n + 1) (n + 1), int 0], rfl, rfl, ?_⟩
  refine bxa (cs := [.slice (some ⟨g, 0, none⟩) (n + 1) (n + 1), int 0]) fun b h2 e2 hb k2 _ => ?_
  have hgl := o1.lt
  have o2 := o1.ext e2
  refine fl (by rw [k2.get]; rfl) ?_
  refine ⟨_, #[int n, int n, .bool false], rfl, rfl, ?_⟩
  refine own_set (a' := (⟨n, n, false⟩ : Link)) (vs := [int n, int n, .bool false]) rfl rfl rfl o2 (by simp) (by simp) fun h3 o3 e3 => ?_
  rw [tab_rep, tab_set] at o3
  have hl : upd (fun _ => (⟨0, 0, false⟩ : Link)) n ⟨n, n, false⟩ = lnk (upd (fun _ => 0) n n) (upd (fun _ => 0) n n) (fun _ => false) := by
    funext k; by_cases h : k = n
    · subst h; simp [upd, lnk]
    · simp [upd, lnk, h]
  rw [hl] at o3
  have e12 : Ext h h2 := e1.trans e2
  refine r g b h3 (by omega) (by have := e1.le; omega) ⟨h0, hn, by omega, k2.ex e3 (by omega), _, _, _, ring_new upd_same upd_same (fun _ => rfl), o3⟩ (e12.andThen e3 fun x hx => by omega)
end
end Go.Sg
namespace Go.Sg
open Go Vc
instance : El (BitVec 64) := ⟨1, fun w => [.int .u64 (w.toNat : Int)], fun _ => rfl, by decide, fun _ v h => by simp at h; subst h; rfl⟩
theorem T_u64 : SlT (BitVec 64) t_S_uint64 t_uint64 8 := ⟨by kernel_rfl, by kernel_rfl⟩
theorem z_u64 : ∀ i z, Pg.info? t_uint64 = some i → i.zero = some z → z.cells.toList = El.enc (0#64 : BitVec 64) := by
  have h : (Pg.info? t_uint64).bind (fun i => i.zero.map fun z => z.cells.toList) = some [.int .u64 0] := by kernel_rfl
  intro i z hi hz
  rw [hi] at h
  simp only [Option.bind_some, hz, Option.map_some, Option.some.injEq] at h
  exact h
abbrev w64 (x : BitVec 64) : Value := .int .u64 (x.toNat : Int)
section
variable {K : Value → Prop} {a b : BitVec 64}
theorem of64 (a : BitVec 64) : BitVec.ofInt 64 (a.toNat : Int) = a := by
  apply BitVec.eq_of_toNat_eq
  rw [BitVec.toNat_ofInt]
  have := a.isLt
  omega
theorem wrapU64 (n : Int) : IntKind.wrap .u64 n = n % 18446744073709551616 := by
  simp only [IntKind.wrap, IntKind.signed, IntKind.bits, Bool.false_and]
  simp
theorem wrap_w (x : BitVec 64) : IntKind.wrap .u64 (x.toNat : Int) = x.toNat := by
  rw [wrapU64]; have := x.isLt; omega
theorem bv_and : BiP .and (w64 a) (w64 b) K ↔ K (w64 (a &&& b)) := by
  simp only [BiP, binVal, ne_eq, not_true_eq_false, if_false, Option.some.injEq, exists_eq_left']
  show K (.int .u64 (IntKind.wrap .u64 ((BitVec.ofInt 64 _ &&& BitVec.ofInt 64 _).toNat : Int))) ↔ _
  rw [of64, of64, wrap_w]
theorem bv_or : BiP .or (w64 a) (w64 b) K ↔ K (w64 (a ||| b)) := by
  simp only [BiP, binVal, ne_eq, not_true_eq_false, if_false, Option.some.injEq, exists_eq_left']
  show K (.int .u64 (IntKind.wrap .u64 ((BitVec.ofInt 64 _ ||| BitVec.ofInt 64 _).toNat : Int))) ↔ _
  rw [of64, of64, wrap_w]
theorem bv_xor : BiP .xor (w64 a) (w64 b) K ↔ K (w64 (a ^^^ b)) := by
  simp only [BiP, binVal, ne_eq, not_true_eq_false, if_false, Option.some.injEq, exists_eq_left']
  show K (.int .u64 (IntKind.wrap .u64 ((BitVec.ofInt 64 _ ^^^ BitVec.ofInt 64 _).toNat : Int))) ↔ _
  rw [of64, of64, wrap_w]
theorem bv_mul : BiP .mul (w64 a) (w64 b) K ↔ K (w64 (a * b)) := by
  have : IntKind.wrap .u64 ((a.toNat : Int) * b.toNat) = ((a * b).toNat : Int) := by
    rw [wrapU64, BitVec.toNat_mul]; simp
  simp only [BiP, binVal, ne_eq, not_true_eq_false, if_false, Option.some.injEq, exists_eq_left', this]
theorem bv_add : BiP .add (w64 a) (w64 b) K ↔ K (w64 (a + b)) := by
  have : IntKind.wrap .u64 ((a.toNat : Int) + b.toNat) = ((a + b).toNat : Int) := by
    rw [wrapU64, BitVec.toNat_add]; simp
  simp only [BiP, binVal, ne_eq, not_true_eq_false, if_false, Option.some.injEq, exists_eq_left', this]
theorem bv_sub : BiP .sub (w64 a) (w64 b) K ↔ K (w64 (a - b)) := by
  have : IntKind.wrap .u64 ((a.toNat : Int) - b.toNat) = ((a - b).toNat : Int) := by
    rw [wrapU64, BitVec.toNat_sub]
    have := a.isLt; have := b.isLt
    omega
  simp only [BiP, binVal, ne_eq, not_true_eq_false, if_false, Option.some.injEq, exists_eq_left', this]
theorem bv_neg : UnP .neg (w64 a) K ↔ K (w64 (-a)) := by
  have : IntKind.wrap .u64 (0 - (a.toNat : Int)) = ((-a).toNat : Int) := by
    rw [wrapU64, BitVec.toNat_neg]
    have := a.isLt
    omega
  simp only [UnP, unVal, Option.some.injEq, exists_eq_left', this]
theorem bv_shl {n : Nat} {k} (hn : n < 64) : BiP .shl (w64 a) (.int k (n : Int)) K ↔ K (w64 (a <<< n)) := by
  have hm : min n 64 = n := by omega
  have h64 : IntKind.bits .u64 = 64 := rfl
  have : IntKind.wrap .u64 ((a.toNat : Int) * 2 ^ n) = ((a <<< n).toNat : Int) := by
    rw [wrapU64, BitVec.toNat_shiftLeft, Nat.shiftLeft_eq]
    simp
  have hc : ¬ ((n : Int) < 0) := by omega
  simp only [BiP, binVal, hc, if_false, Int.toNat_natCast, h64, hm, Option.some.injEq, exists_eq_left', this]
theorem bv_shr {n : Nat} {k} (hn : n < 64) : BiP .shr (w64 a) (.int k (n : Int)) K ↔ K (w64 (a >>> n)) := by
  have hm : min n 64 = n := by omega
  have h64 : IntKind.bits .u64 = 64 := rfl
  have : (a.toNat : Int).fdiv (2 ^ n) = ((a >>> n).toNat : Int) := by
    rw [BitVec.toNat_ushiftRight, Nat.shiftRight_eq_div_pow, Int.fdiv_eq_ediv_of_nonneg _ (by exact Int.pow_nonneg (by omega))]
    simp
  have hc : ¬ ((n : Int) < 0) := by omega
  simp only [BiP, binVal, hc, if_false, Int.toNat_natCast, h64, hm, Option.some.injEq, exists_eq_left', this]
theorem w64_inj : ((a.toNat : Int) = b.toNat) ↔ a = b := ⟨fun h => BitVec.eq_of_toNat_eq (by omega), fun h => by rw [h]⟩
end
theorem low_digit {x : BitVec 64} (hx : x ≠ 0#64) : ∃ k, k < 64 ∧ x.getLsbD k = true ∧ (∀ j, j < k → x.getLsbD j = false) ∧ x &&& -x = BitVec.twoPow 64 k := by
  have hex : ∃ k, x.getLsbD k = true := by
    refine Classical.byContradiction fun hc => hx ?_
    apply BitVec.eq_of_getLsbD_eq
    intro i _
    cases h : x.getLsbD i with
    | false => simp
    | true => exact absurd ⟨i, h⟩ hc
  obtain ⟨k0, hk0⟩ := hex
  obtain ⟨k, hk, hmin⟩ := Go.Sg.least (fun k => x.getLsbD k = true) (fun k => k) k0 ⟨k0, hk0, Nat.le_refl _⟩
  have hk64 : k < 64 := by
    refine Classical.byContradiction fun hc => ?_
    rw [BitVec.getLsbD_of_ge _ _ (by omega)] at hk; cases hk
  have hlow : ∀ j, j < k → x.getLsbD j = false := fun j hj => by
    cases h : x.getLsbD j with
    | false => rfl
    | true => have := hmin j h; omega
  refine ⟨k, hk64, hk, hlow, ?_⟩
  apply BitVec.eq_of_getLsbD_eq
  intro i hi
  rw [BitVec.getLsbD_and, BitVec.getLsbD_neg, BitVec.getLsbD_twoPow]
  by_cases h1 : i < k
  · rw [hlow i h1]; simp; omega
  · by_cases h2 : i = k
    · subst h2
      have : ¬ ∃ j, j < i ∧ x.getLsbD j = true := fun ⟨j, h3, h4⟩ => by rw [hlow j h3] at h4; cases h4
      simp [hk, hi, this]
    · have h3 : ∃ j, j < i ∧ x.getLsbD j = true := ⟨k, by omega, hk⟩
      have h4 : ¬ k = i := fun e => h2 e.symm
      simp [h3, h4, hi]
def tzTab : List Nat := [0, 1, 56, 2, 57, 49, 28, 3, 61, 58, 42, 50, 38, 29, 17, 4, 62, 47, 59, 36, 45, 43, 51, 22, 53, 39, 33, 30, 24, 18, 12, 5, 63, 55, 48, 27, 60, 41, 37, 16, 46, 35, 44, 21, 52, 32, 23, 11, 54, 26, 40, 15, 34, 20, 31, 10, 25, 14, 19, 9, 13, 8, 7, 6]
theorem tz_tab : ∀ k : Fin 64, tzTab[(2 ^ k.1 * 285870213051353865 % 18446744073709551616) >>> 58]? = some k.1 := by decide
abbrev gTab : Nat := 1
structure Tz (h : Heap) : Prop where
  lt : gTab < h.size
  at_ : ∀ (j v : Nat), tzTab[j]? = some v → hget h gTab j = some (.int .u8 (v : Int))
theorem Tz.ex {M : Nat → Prop} {h h' : Heap} (t : Tz h) (e : Ex M h h') (hm : ¬ M gTab) : Tz h' :=
  ⟨Nat.lt_of_lt_of_le t.lt e.le, fun j v hj => by rw [hget_eq (e.eq _ t.lt hm)]; exact t.at_ j v hj⟩
theorem Tz.ext {h h' : Heap} (t : Tz h) (e : Ext h h') : Tz h' := t.ex e fun x => x
theorem c_tz {h : Heap} {K : Kt} {x : BitVec 64} (t : Tz h) (hx : x ≠ 0#64) (r : ∀ k : Nat, k < 64 → x.getLsbD k = true → (∀ j, j < k → x.getLsbD j = false) → K (int k) h) : Ca f_bits_TrailingZeros64 #[w64 x] h K := by
  obtain ⟨k, h1, h2, h3, h4⟩ := low_digit hx
  refine m_bits_TrailingZeros64_ok ?_
  unfold m_bits_TrailingZeros64
  rw [BiP_eql]
  refine cdp (fun h => absurd ((w64_inj (b := 0#64)).1 h) hx) fun _ => ?_
  rw [bv_neg, bv_and, h4]
  show BiP .mul (w64 _) (w64 285870213051353865#64) _
  rw [bv_mul]
  show BiP .shr _ (.int .u64 ((58 : Nat) : Int)) _
  rw [bv_shr (by omega)]
  have hk := tz_tab ⟨k, h1⟩
  simp only at hk
  have hto : ((BitVec.twoPow 64 k * 285870213051353865#64) >>> 58).toNat = (2 ^ k * 285870213051353865 % 18446744073709551616) >>> 58 := by
    rw [BitVec.toNat_ushiftRight, BitVec.toNat_mul, BitVec.toNat_twoPow, Nat.mod_eq_of_lt (Nat.pow_lt_pow_right (by omega) h1)]
    rfl
  rw [← hto] at hk
  have hlt : ((BitVec.twoPow 64 k * 285870213051353865#64) >>> 58).toNat < 64 := (List.getElem?_eq_some_iff.1 hk).1
  obtain ⟨m, hm⟩ : ∃ m, m = ((BitVec.twoPow 64 k * 285870213051353865#64) >>> 58).toNat := ⟨_, rfl⟩
  rw [← hm] at hk hlt
  have hv : w64 ((BitVec.twoPow 64 k * 285870213051353865#64) >>> 58) = .int .u64 (m : Int) := by rw [hm]
  rw [hv]
  refine ⟨gTab, 0, .u64, m, rfl, rfl, by omega, by omega, ?_⟩
  refine ld (t.at_ _ k (by simpa using hk)) ?_
  rw [CvP_int, wrap64 (by omega) (by omega)]
  exact r k h1 h2 h3
end Go.Sg
