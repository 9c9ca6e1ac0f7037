/-
  Part 8 of a proof: own texts, merged by program.
-/
import Derived.Test.YtfdephgpijheoaaGreatDoorP07
set_option linter.unusedVariables false
set_option linter.unusedSimpArgs false
namespace Go.Sg
open Go Vc
structure Link where
  ahead : Nat
  behind : Nat
  inn : Bool
instance : El Link := ⟨3, fun l => [int l.ahead, int l.behind, .bool l.inn], fun _ => rfl, by decide, fun _ v h => by simp at h; rcases h with rfl | rfl | rfl <;> rfl⟩
theorem T_link : SlT Link t_S_chain_link t_chain_link 24 := ⟨by kernel_rfl, by kernel_rfl⟩
theorem z_link : ∀ i z, Pg.info? t_chain_link = some i → i.zero = some z → z.cells.toList = El.enc (⟨0, 0, false⟩ : Link) := by
  have h : (Pg.info? t_chain_link).bind (fun i => i.zero.map fun z => z.cells.toList) = some [int 0, int 0, .bool false] := by kernel_rfl
  intro i z hi hz
  rw [hi] at h
  simp only [Option.bind_some, hz, Option.map_some, Option.some.injEq] at h
  exact h
abbrev two (p g : Nat) : Nat → Prop := fun b => b = p ∨ b = g
def lnk (be ah : Nat → Nat) (inn : Nat → Bool) : Nat → Link := fun j => ⟨ah j, be j, inn j⟩
structure Chn (g p : Nat) (h : Heap) (n : Nat) (R : List Nat) : Prop where
  pos : 0 < n
  big : n ≤ 4096
  ne : p ≠ g
  blk : Blk h p [.slice (some ⟨g, 0, none⟩) (n + 1) (n + 1), int R.length]
  lks : ∃ be ah inn, Ring n be ah inn R ∧ Own g (n + 1) t_chain_link h (tab (n + 1) (lnk be ah inn))
section
variable {h : Heap} {K : Kt} {g p n i : Nat} {R : List Nat}
theorem Chn.ex {M : Nat → Prop} {h' : Heap} (c : Chn g p h n R) (e : Ex M h h') (h1 : ¬ M p) (h2 : ¬ M g) : Chn g p h' n R := by
  obtain ⟨k1, k2, k3, k4, be, ah, inn, k5, k6⟩ := c
  exact ⟨k1, k2, k3, k4.ex e h1, be, ah, inn, k5, k6.ex e h2⟩
theorem Chn.ext {h' : Heap} (c : Chn g p h n R) (e : Ext h h') : Chn g p h' n R := c.ex e (fun x => x) (fun x => x)
theorem lnk_out {be ah : Nat → Nat} {inn : Nat → Bool} {j : Nat} {v : Nat} : upd (lnk be ah inn) j ⟨ah j, v, inn j⟩ = lnk (upd be j v) ah inn := by
  funext k; by_cases h : k = j
  · subst h; simp [upd, lnk]
  · simp [upd, lnk, h]
theorem lnk_ahd {be ah : Nat → Nat} {inn : Nat → Bool} {j : Nat} {v : Nat} : upd (lnk be ah inn) j ⟨v, be j, inn j⟩ = lnk be (upd ah j v) inn := by
  funext k; by_cases h : k = j
  · subst h; simp [upd, lnk]
  · simp [upd, lnk, h]
theorem lnk_all {be ah : Nat → Nat} {inn : Nat → Bool} {j : Nat} {u v : Nat} {x : Bool} : upd (lnk be ah inn) j ⟨u, v, x⟩ = lnk (upd be j v) (upd ah j u) (upd inn j x) := by
  funext k; by_cases h : k = j
  · subst h; simp [upd, lnk]
  · simp [upd, lnk, h]
theorem nodup_le : ∀ (n : Nat) (R : List Nat), R.Nodup → (∀ x ∈ R, x < n) → R.length ≤ n
  | 0, R, _, h => by
    cases R with
    | nil => simp
    | cons a R => have := h a (by simp); omega
  | n + 1, R, hn, h => by
    by_cases hm : n ∈ R
    · have := nodup_le n (R.erase n) (hn.erase n) (fun x hx => by
        rw [hn.mem_erase_iff] at hx
        have := h x hx.2; omega)
      rw [List.length_erase_of_mem hm] at this; omega
    · have := nodup_le n R hn (fun x hx => by
        have h1 := h x hx
        have : x ≠ n := fun e => hm (e ▸ hx)
        omega)
      omega
theorem c_chain_root (c : Chn g p h n R) (r : K (int n) h) : Ca f_chain_Chain_root #[ptr p 0] h K := by
  refine m_chain_Chain_root_ok (fl (by rw [c.blk.get]; rfl) ?_)
  rw [LenP_slice]
  have := c.big
  refine sub64 (by omega) ?_
  have e : ((n + 1 : Nat) : Int) - 1 = n := by omega
  rw [e]; exact r
theorem c_chain_there (c : Chn g p h n R) (hi : i < n) (r : K (int 0) h) : Ca f_chain_Chain_there #[ptr p 0, int i] h K := by
  refine m_chain_Chain_there_ok (eq_ptr_nil (by kernel_rfl) (fl (by rw [c.blk.get]; rfl) ?_))
  rw [LenP_slice, BiP_eql]
  unfold m_chain_Chain_there_j12
  refine cdp (fun h => absurd h (by omega)) fun _ => ?_
  rw [BiP_lss]
  refine cdp (fun h => absurd h (by omega)) fun _ => ?_
  refine c_chain_root c ?_
  rw [BiP_geq]
  unfold m_chain_Chain_there_j20
  exact cdp (fun h => absurd h (by omega)) fun _ => r
theorem c_chain_out (c : Chn g p h n R) (hi : i < n) (r : ∀ h', Chn g p h' n (R.erase i) → Ex (two p g) h h' → K (.tuple #[]) h') : Ca f_chain_Chain_out #[ptr p 0, int i] h K := by
  refine m_chain_Chain_out_ok (fl (by rw [c.blk.get]; rfl) ?_)
  have c0 := c
  obtain ⟨k1, k2, k3, k4, be, ah, inn, k5, k6⟩ := c
  have hpl := k4.lt
  have hgl := k6.lt
  refine (k6.rd (by rw [tab_length]) (Nat.le_refl _)).ea (i := (i : Int)) (x := lnk be ah inn i) (by omega) (by rw [Int.toNat_natCast]; exact tab_get (by omega)) ?_
  refine alst (vs := El.enc (lnk be ah inn i)) rfl rfl rfl fun b h1 e1 hb kb _ => ?_
  have k4a := k4.ext e1
  have k6a := k6.ext e1
  refine fv (by rw [kb.get]; rfl) ?_
  rw [UnP_not]
  show CdP (.bool !inn i) _ _
  refine cd (fun hx => ?_) (fun hx => ?_)
  · have hx : inn i = false := by simpa using hx
    have hm : i ∉ R := fun hm => by rw [(k5.is i (by omega)).2 hm] at hx; cases hx
    rw [List.erase_of_not_mem hm] at r
    exact r h1 (c0.ext e1) e1.toM
  · have hx : inn i = true := by simpa using hx
    have hm : i ∈ R := (k5.is i (by omega)).1 hx
    obtain ⟨q1, q2, q3, q4, q5⟩ := ring_out k5 hm
    refine fl (by rw [k4a.get]; rfl) ?_
    refine fv (by rw [kb.get]; rfl) (fv (by rw [kb.get]; rfl) ?_)
    show IxP 3 _ (.int .i64 ((ah i : Nat) : Int)) fun x19 => FaP (some 1) x19 fun x20 => StP x20 (int (be i)) h1 _
    refine own_setf (f := 1) (a := lnk be ah inn (ah i)) (a' := ⟨ah (ah i), be i, inn (ah i)⟩) rfl k6a (by rw [tab_length]) (tab_get (by omega)) (by decide) rfl rfl fun h2 o2 e2 => ⟨trivial, ?_⟩
    rw [tab_set, lnk_out] at o2
    have k4b := k4a.ex e2 k3
    have kb2 := kb.ex e2 (by omega)
    refine fl (by rw [k4b.get]; rfl) (fv (by rw [kb2.get]; rfl) (fv (by rw [kb2.get]; rfl) ?_))
    show IxP 3 _ (.int .i64 ((be i : Nat) : Int)) fun x19 => FaP (some 0) x19 fun x20 => StP x20 (int (ah i)) h2 _
    refine own_setf (f := 0) (a := lnk (upd be (ah i) (be i)) ah inn (be i)) (a' := ⟨ah i, upd be (ah i) (be i) (be i), inn (be i)⟩) rfl o2 (by rw [tab_length]) (tab_get (by omega)) (by decide) rfl rfl fun h3 o3 e3 => ⟨trivial, ?_⟩
    rw [tab_set, lnk_ahd] at o3
    have k4c := k4b.ex e3 k3
    refine fl (by rw [k4c.get]; rfl) ?_
    refine ⟨_, _, rfl, rfl, ?_⟩
    refine own_set (a' := (⟨0, 0, false⟩ : Link)) (vs := [int 0, int 0, .bool false]) rfl rfl rfl o3 (by rw [tab_length]) (by rw [tab_length]; omega) fun h4 o4 e4 => ?_
    rw [tab_set, lnk_all] at o4
    have k4d := k4c.ex e4 k3
    have hlen : 0 < R.length := List.length_pos_of_mem hm
    have hR := q5.nd
    have hRl : R.length ≤ 4096 + 1 := by
      have h1 := nodup_le n R k5.nd k5.lt
      omega
    refine fl (by rw [k4d.get]; rfl) (sub64 (by omega) ?_)
    refine Fs_b k4d (by simp) rfl fun h5 _ e5 k5' => ?_
    refine r h5 ⟨k1, k2, k3, ?_, _, _, _, q5, o4.ex e5 (Ne.symm k3)⟩ ?_
    · have e : ((R.length : Nat) : Int) - 1 = ((R.erase i).length : Nat) := by rw [List.length_erase_of_mem hm]; omega
      rw [e] at k5'; exact k5'
    · exact (((e1.toM.trans (e2.mono fun _ _ h => .inr h)).trans (e3.mono fun _ _ h => .inr h)).trans (e4.mono fun _ _ h => .inr h)).trans (e5.mono fun _ _ h => .inl h)
theorem c_chain_put (c : Chn g p h n R) (hi : i < n) (hm : i ∉ R) (r : ∀ h', Chn g p h' n (i :: R) → Ex (two p g) h h' → K (.tuple #[]) h') : Ca f_chain_Chain_put #[ptr p 0, int i, int n] h K := by
  refine m_chain_Chain_put_ok (fl (by rw [c.blk.get]; rfl) ?_)
  obtain ⟨k1, k2, k3, k4, be, ah, inn, k5, k6⟩ := c
  have hpl := k4.lt
  have hgl := k6.lt
  obtain ⟨q1, q2, q3⟩ := ring_put k5 hm hi
  refine (k6.rd (by rw [tab_length]) (Nat.le_refl _)).ef (f := 1) (w := int (be n)) (i := (n : Int)) (x := lnk be ah inn n) (by omega) (by rw [Int.toNat_natCast]; exact tab_get (by omega)) rfl ?_
  refine fl (by rw [k4.get]; rfl) ?_
  refine ⟨_, #[int n, int (be n), .bool true], rfl, rfl, ?_⟩
  refine own_set (a' := (⟨n, be n, true⟩ : Link)) (vs := [int n, int (be n), .bool true]) rfl rfl rfl k6 (by rw [tab_length]) (by rw [tab_length]; omega) fun h2 o2 e2 => ?_
  rw [tab_set, lnk_all] at o2
  have k4b := k4.ex e2 k3
  refine fl (by rw [k4b.get]; rfl) ?_
  refine own_setf (f := 1) (a := lnk (upd be i (be n)) (upd ah i n) (upd inn i true) n) (a' := ⟨upd ah i n n, i, upd inn i true n⟩) rfl o2 (by rw [tab_length]) (tab_get (by omega)) (by decide) rfl rfl fun h3 o3 e3 => ?_
  rw [tab_set, lnk_out] at o3
  have k4c := k4b.ex e3 k3
  refine fl (by rw [k4c.get]; rfl) ?_
  refine own_setf (f := 0) (a := lnk (upd (upd be i (be n)) n i) (upd ah i n) (upd inn i true) (be n)) (a' := ⟨i, upd (upd be i (be n)) n i (be n), upd inn i true (be n)⟩) rfl o3 (by rw [tab_length]) (tab_get (by omega)) (by decide) rfl rfl fun h4 o4 e4 => ?_
  rw [tab_set, lnk_ahd] at o4
  have k4d := k4c.ex e4 k3
  have hRl : R.length ≤ 4096 + 1 := by
    have h1 := nodup_le n R k5.nd k5.lt
    omega
  refine fl (by rw [k4d.get]; rfl) (add64 (by omega) ?_)
  refine Fs_b k4d (by simp) rfl fun h5 _ e5 k5' => ?_
  refine r h5 ⟨k1, k2, k3, ?_, _, _, _, q3, o4.ex e5 (Ne.symm k3)⟩ ?_
  · have e : ((R.length : Nat) : Int) + 1 = ((i :: R).length : Nat) := by simp
    rw [e] at k5'; exact k5'
  · exact ((((e2.mono fun _ _ h => .inr h).trans (e3.mono fun _ _ h => .inr h)).trans (e4.mono fun _ _ h => .inr h))).trans (e5.mono fun _ _ h => .inl h)
theorem Chn.nd (c : Chn g p h n R) : R.Nodup := by obtain ⟨k1, k2, k3, k4, be, ah, inn, k5, k6⟩ := c; exact k5.nd
theorem Chn.lt (c : Chn g p h n R) : ∀ i ∈ R, i < n := by obtain ⟨k1, k2, k3, k4, be, ah, inn, k5, k6⟩ := c; exact k5.lt
theorem c_chain_Front (c : Chn g p h n R) (hi : i < n) (r : ∀ h', Chn g p h' n (i :: R.erase i) → Ex (two p g) h h' → K (int 0) h') : Ca f_chain_Chain_Front #[ptr p 0, int i] h K := by
  refine m_chain_Chain_Front_ok (c_chain_there c hi ?_)
  rw [BiP_eql]
  refine cdp (fun _ => ?_) fun h => absurd rfl h
  refine c_chain_out c hi fun h1 c1 e1 => c_chain_root c1 ?_
  refine c_chain_put c1 hi (fun hm => by have := c.nd; rw [this.mem_erase_iff] at hm; exact hm.1 rfl) fun h2 c2 e2 => ?_
  exact r h2 c2 (e1.trans e2)
theorem c_chain_Cut (c : Chn g p h n R) (hi : i < n) (r : ∀ h' v, Chn g p h' n (R.erase i) → Ex (two p g) h h' → K (int v) h') : Ca f_chain_Chain_Cut #[ptr p 0, int i] h K := by
  refine m_chain_Chain_Cut_ok (c_chain_there c hi ?_)
  rw [BiP_neq]
  refine cdp (fun h => absurd rfl h) fun _ => ?_
  refine fl (by rw [c.blk.get]; rfl) ?_
  have c0 := c
  obtain ⟨k1, k2, k3, k4, be, ah, inn, k5, k6⟩ := c
  refine (k6.rd (by rw [tab_length]) (Nat.le_refl _)).ef (f := 2) (w := .bool (inn i)) (i := (i : Int)) (x := lnk be ah inn i) (by omega) (by rw [Int.toNat_natCast]; exact tab_get (by omega)) rfl ?_
  rw [UnP_not]
  refine cd (fun hx => ?_) (fun hx => ?_)
  · have hx : inn i = false := by simpa using hx
    have hm : i ∉ R := fun hm => by rw [(k5.is i (by omega)).2 hm] at hx; cases hx
    rw [List.erase_of_not_mem hm] at r
    exact r h 9 c0 (Ex.refl _ _)
  · exact c_chain_out c0 hi fun h1 c1 e1 => r h1 0 c1 e1
theorem c_chain_Len (c : Chn g p h n R) (r : K (int R.length) h) : Ca f_chain_Chain_Len #[ptr p 0] h K :=
  m_chain_Chain_Len_ok (eq_ptr_nil (by kernel_rfl) (fl (by rw [c.blk.get]; rfl) r))
theorem c_chain_Last (c : Chn g p h n R) (r0 : R = [] → K (.tuple #[int 0, .bool false]) h) (r1 : ∀ P i, R = P ++ [i] → K (.tuple #[int (i : Nat), .bool true]) h) : Ca f_chain_Chain_Last #[ptr p 0] h K := by
  refine m_chain_Chain_Last_ok (c_chain_Len c ?_)
  rw [BiP_eql]
  refine cdp (fun hz => r0 (List.eq_nil_of_length_eq_zero (by omega))) fun hz => ?_
  have c0 := c
  obtain ⟨k1, k2, k3, k4, be, ah, inn, k5, k6⟩ := c
  refine ⟨fun b' _ => b' = p ∨ b' = g, ?_⟩
  rw [NilP_ptr, FaP_ptr]
  refine LdX_b (cs := _) k4 rfl (fun _ => .inl rfl) ?_
  refine c_chain_root c0 ⟨fun _ _ _ => rfl, ?_⟩
  obtain ⟨P, hP⟩ := ring_last k5
  have hcell : hget h g (0 + ((n : Nat) : Int).toNat * 3) = some (int (ah n)) := by
    refine k6.at ?_
    have := cells_get (l := tab (n + 1) (lnk be ah inn)) (i := n) (a := lnk be ah inn n) (tab_get (by omega)) 0 (by decide)
    have hz : El.z Link = 3 := rfl
    rw [hz] at this
    rw [Nat.zero_add, Int.toNat_natCast]
    exact this
  refine ⟨g, 0, n + 1, n + 1, .i64, n, rfl, rfl, by omega, by omega, ?_⟩
  refine FaP_ptr.2 ?_
  refine ⟨g, _, _, rfl, .inr rfl, hcell, ?_⟩
  cases P with
  | nil => simp only [List.nil_append, List.cons.injEq] at hP; rw [hP.2] at hz; exact absurd rfl hz
  | cons a P => simp only [List.cons_append, List.cons.injEq] at hP; exact r1 P (ah n) hP.2
theorem c_chain_New (h0 : 0 < n) (hn : n ≤ 4096) (r : ∀ g p h', h.size ≤ g → h.size ≤ p → Chn g p h' n [] → Ext h h' → K (.tuple #[ptr p 0, int 0]) h') : Ca f_chain_New #[int n] h K := by
  refine m_chain_New_ok ?_
  unfold m_chain_New
  rw [BiP_lss]
  refine cdp (fun h => absurd h (by omega)) fun _ => ?_
  rw [BiP_gtr]
  unfold m_chain_New_j7
  refine cdp (fun h => absurd h (by omega)) fun _ => ?_
  refine add64 (by omega) ?_
  have e : ((n : Nat) : Int) + 1 = ((n + 1 : Nat) : Int) := by omega
  rw [e]
  refine mkn (n0 := h.size) T_link z_link (Nat.le_refl _) (by show (n + 1) * 3 ≤ _; omega) (by decide) fun g h1 hg o1 e1 => ?_
  refine ⟨_, #[.slice (some ⟨g, 0, none⟩) (n + 1) (n + 1), int 0], rfl, rfl, ?_⟩
  refine bxa (cs := [.slice (some ⟨g, 0, none⟩) (n + 1) (n + 1), int 0]) fun b h2 e2 hb k2 _ => ?_
  have hgl := o1.lt
  have o2 := o1.ext e2
  refine fl (by rw [k2.get]; rfl) ?_
  refine ⟨_, #[int n, int n, .bool false], rfl, rfl, ?_⟩
  refine own_set (a' := (⟨n, n, false⟩ : Link)) (vs := [int n, int n, .bool false]) rfl rfl rfl o2 (by simp) (by simp) fun h3 o3 e3 => ?_
  rw [tab_rep, tab_set] at o3
  have hl : upd (fun _ => (⟨0, 0, false⟩ : Link)) n ⟨n, n, false⟩ = lnk (upd (fun _ => 0) n n) (upd (fun _ => 0) n n) (fun _ => false) := by
    funext k; by_cases h : k = n
    · subst h; simp [upd, lnk]
    · simp [upd, lnk, h]
  rw [hl] at o3
  have e12 : Ext h h2 := e1.trans e2
  refine r g b h3 (by omega) (by have := e1.le; omega) ⟨h0, hn, by omega, k2.ex e3 (by omega), _, _, _, ring_new upd_same upd_same (fun _ => rfl), o3⟩ (e12.andThen e3 fun x hx => by omega)
end
end Go.Sg
namespace Go.Sg
open Go Vc
instance : El (BitVec 64) := ⟨1, fun w => [.int .u64 (w.toNat : Int)], fun _ => rfl, by decide, fun _ v h => by simp at h; subst h; rfl⟩
theorem T_u64 : SlT (BitVec 64) t_S_uint64 t_uint64 8 := ⟨by kernel_rfl, by kernel_rfl⟩
theorem z_u64 : ∀ i z, Pg.info? t_uint64 = some i → i.zero = some z → z.cells.toList = El.enc (0#64 : BitVec 64) := by
  have h : (Pg.info? t_uint64).bind (fun i => i.zero.map fun z => z.cells.toList) = some [.int .u64 0] := by kernel_rfl
  intro i z hi hz
  rw [hi] at h
  simp only [Option.bind_some, hz, Option.map_some, Option.some.injEq] at h
  exact h
abbrev w64 (x : BitVec 64) : Value := .int .u64 (x.toNat : Int)
section
variable {K : Value → Prop} {a b : BitVec 64}
theorem of64 (a : BitVec 64) : BitVec.ofInt 64 (a.toNat : Int) = a := by
  apply BitVec.eq_of_toNat_eq
  rw [BitVec.toNat_ofInt]
  have := a.isLt
  omega
theorem wrapU64 (n : Int) : IntKind.wrap .u64 n = n % 18446744073709551616 := by
  simp only [IntKind.wrap, IntKind.signed, IntKind.bits, Bool.false_and]
  simp
theorem wrap_w (x : BitVec 64) : IntKind.wrap .u64 (x.toNat : Int) = x.toNat := by
  rw [wrapU64]; have := x.isLt; omega
theorem bv_and : BiP .and (w64 a) (w64 b) K ↔ K (w64 (a &&& b)) := by
  simp only [BiP, binVal, ne_eq, not_true_eq_false, if_false, Option.some.injEq, exists_eq_left']
  show K (.int .u64 (IntKind.wrap .u64 ((BitVec.ofInt 64 _ &&& BitVec.ofInt 64 _).toNat : Int))) ↔ _
  rw [of64, of64, wrap_w]
theorem bv_or : BiP .or (w64 a) (w64 b) K ↔ K (w64 (a ||| b)) := by
  simp only [BiP, binVal, ne_eq, not_true_eq_false, if_false, Option.some.injEq, exists_eq_left']
  show K (.int .u64 (IntKind.wrap .u64 ((BitVec.ofInt 64 _ ||| BitVec.ofInt 64 _).toNat : Int))) ↔ _
  rw [of64, of64, wrap_w]
theorem bv_xor : BiP .xor (w64 a) (w64 b) K ↔ K (w64 (a ^^^ b)) := by
  simp only [BiP, binVal, ne_eq, not_true_eq_false, if_false, Option.some.injEq, exists_eq_left']
  show K (.int .u64 (IntKind.wrap .u64 ((BitVec.ofInt 64 _ ^^^ BitVec.ofInt 64 _).toNat : Int))) ↔ _
  rw [of64, of64, wrap_w]
theorem bv_mul : BiP .mul (w64 a) (w64 b) K ↔ K (w64 (a * b)) := by
  have : IntKind.wrap .u64 ((a.toNat : Int) * b.toNat) = ((a * b).toNat : Int) := by
    rw [wrapU64, BitVec.toNat_mul]; simp
  simp only [BiP, binVal, ne_eq, not_true_eq_false, if_false, Option.some.injEq, exists_eq_left', this]
theorem bv_add : BiP .add (w64 a) (w64 b) K ↔ K (w64 (a + b)) := by
  have : IntKind.wrap .u64 ((a.toNat : Int) + b.toNat) = ((a + b).toNat : Int) := by
    rw [wrapU64, BitVec.toNat_add]; simp
  simp only [BiP, binVal, ne_eq, not_true_eq_false, if_false, Option.some.injEq, exists_eq_left', this]
theorem bv_sub : BiP .sub (w64 a) (w64 b) K ↔ K (w64 (a - b)) := by
  have : IntKind.wrap .u64 ((a.toNat : Int) - b.toNat) = ((a - b).toNat : Int) := by
    rw [wrapU64, BitVec.toNat_sub]
    have := a.isLt; have := b.isLt
    omega
  simp only [BiP, binVal, ne_eq, not_true_eq_false, if_false, Option.some.injEq, exists_eq_left', this]
theorem bv_neg : UnP .neg (w64 a) K ↔ K (w64 (-a)) := by
  have : IntKind.wrap .u64 (0 - (a.toNat : Int)) = ((-a).toNat : Int) := by
    rw [wrapU64, BitVec.toNat_neg]
    have := a.isLt
    omega
  simp only [UnP, unVal, Option.some.injEq, exists_eq_left', this]
theorem bv_shl {n : Nat} {k} (hn : n < 64) : BiP .shl (w64 a) (.int k (n : Int)) K ↔ K (w64 (a <<< n)) := by
  have hm : min n 64 = n := by omega
  have h64 : IntKind.bits .u64 = 64 := rfl
  have : IntKind.wrap .u64 ((a.toNat : Int) * 2 ^ n) = ((a <<< n).toNat : Int) := by
    rw [wrapU64, BitVec.toNat_shiftLeft, Nat.shiftLeft_eq]
    simp
  have hc : ¬ ((n : Int) < 0) := by omega
  simp only [BiP, binVal, hc, if_false, Int.toNat_natCast, h64, hm, Option.some.injEq, exists_eq_left', this]
theorem bv_shr {n : Nat} {k} (hn : n < 64) : BiP .shr (w64 a) (.int k (n : Int)) K ↔ K (w64 (a >>> n)) := by
  have hm : min n 64 = n := by omega
  have h64 : IntKind.bits .u64 = 64 := rfl
  have : (a.toNat : Int).fdiv (2 ^ n) = ((a >>> n).toNat : Int) := by
    rw [BitVec.toNat_ushiftRight, Nat.shiftRight_eq_div_pow, Int.fdiv_eq_ediv_of_nonneg _ (by exact Int.pow_nonneg (by omega))]
    simp
  have hc : ¬ ((n : Int) < 0) := by omega
  simp only [BiP, binVal, hc, if_false, Int.toNat_natCast, h64, hm, Option.some.injEq, exists_eq_left', this]
theorem w64_inj : ((a.toNat : Int) = b.toNat) ↔ a = b := ⟨fun h => BitVec.eq_of_toNat_eq (by omega), fun h => by rw [h]⟩
end
theorem low_digit {x : BitVec 64} (hx : x ≠ 0#64) : ∃ k, k < 64 ∧ x.getLsbD k = true ∧ (∀ j, j < k → x.getLsbD j = false) ∧ x &&& -x = BitVec.twoPow 64 k := by
  have hex : ∃ k, x.getLsbD k = true := by
    refine Classical.byContradiction fun hc => hx ?_
    apply BitVec.eq_of_getLsbD_eq
    intro i _
    cases h : x.getLsbD i with
    | false => simp
    | true => exact absurd ⟨i, h⟩ hc
  obtain ⟨k0, hk0⟩ := hex
  obtain ⟨k, hk, hmin⟩ := Go.Sg.least (fun k => x.getLsbD k = true) (fun k => k) k0 ⟨k0, hk0, Nat.le_refl _⟩
  have hk64 : k < 64 := by
    refine Classical.byContradiction fun hc => ?_
    rw [BitVec.getLsbD_of_ge _ _ (by omega)] at hk; cases hk
  have hlow : ∀ j, j < k → x.getLsbD j = false := fun j hj => by
    cases h : x.getLsbD j with
    | false => rfl
    | true => have := hmin j h; omega
  refine ⟨k, hk64, hk, hlow, ?_⟩
  apply BitVec.eq_of_getLsbD_eq
  intro i hi
  rw [BitVec.getLsbD_and, BitVec.getLsbD_neg, BitVec.getLsbD_twoPow]
  by_cases h1 : i < k
  · rw [hlow i h1]; simp; omega
  · by_cases h2 : i = k
    · subst h2
      have : ¬ ∃ j, j < i ∧ x.getLsbD j = true := fun ⟨j, h3, h4⟩ => by rw [hlow j h3] at h4; cases h4
      simp [hk, hi, this]
    · have h3 : ∃ j, j < i ∧ x.getLsbD j = true := ⟨k, by omega, hk⟩
      have h4 : ¬ k = i := fun e => h2 e.symm
      simp [h3, h4, hi]
def tzTab : List Nat := [0, 1, 56, 2, 57, 49, 28, 3, 61, 58, 42, 50, 38, 29, 17, 4, 62, 47, 59, 36, 45, 43, 51, 22, 53, 39, 33, 30, 24, 18, 12, 5, 63, 55, 48, 27, 60, 41, 37, 16, 46, 35, 44, 21, 52, 32, 23, 11, 54, 26, 40, 15, 34, 20, 31, 10, 25, 14, 19, 9, 13, 8, 7, 6]
theorem tz_tab : ∀ k : Fin 64, tzTab[(2 ^ k.1 * 285870213051353865 % 18446744073709551616) >>> 58]? = some k.1 := by decide
abbrev gTab : Nat := 1
structure Tz (h : Heap) : Prop where
  lt : gTab < h.size
  at_ : ∀ (j v : Nat), tzTab[j]? = some v → hget h gTab j = some (.int .u8 (v : Int))
theorem Tz.ex {M : Nat → Prop} {h h' : Heap} (t : Tz h) (e : Ex M h h') (hm : ¬ M gTab) : Tz h' :=
  ⟨Nat.lt_of_lt_of_le t.lt e.le, fun j v hj => by rw [hget_eq (e.eq _ t.lt hm)]; exact t.at_ j v hj⟩
theorem Tz.ext {h h' : Heap} (t : Tz h) (e : Ext h h') : Tz h' := t.ex e fun x => x
theorem c_tz {h : Heap} {K : Kt} {x : BitVec 64} (t : Tz h) (hx : x ≠ 0#64) (r : ∀ k : Nat, k < 64 → x.getLsbD k = true → (∀ j, j < k → x.getLsbD j = false) → K (int k) h) : Ca f_bits_TrailingZeros64 #[w64 x] h K := by
  obtain ⟨k, h1, h2, h3, h4⟩ := low_digit hx
  refine m_bits_TrailingZeros64_ok ?_
  unfold m_bits_TrailingZeros64
  rw [BiP_eql]
  refine cdp (fun h => absurd ((w64_inj (b := 0#64)).1 h) hx) fun _ => ?_
  rw [bv_neg, bv_and, h4]
  show BiP .mul (w64 _) (w64 285870213051353865#64) _
  rw [bv_mul]
  show BiP .shr _ (.int .u64 ((58 : Nat) : Int)) _
  rw [bv_shr (by omega)]
  have hk := tz_tab ⟨k, h1⟩
  simp only at hk
  have hto : ((BitVec.twoPow 64 k * 285870213051353865#64) >>> 58).toNat = (2 ^ k * 285870213051353865 % 18446744073709551616) >>> 58 := by
    rw [BitVec.toNat_ushiftRight, BitVec.toNat_mul, BitVec.toNat_twoPow, Nat.mod_eq_of_lt (Nat.pow_lt_pow_right (by omega) h1)]
    rfl
  rw [← hto] at hk
  have hlt : ((BitVec.twoPow 64 k * 285870213051353865#64) >>> 58).toNat < 64 := (List.getElem?_eq_some_iff.1 hk).1
  obtain ⟨m, hm⟩ : ∃ m, m = ((BitVec.twoPow 64 k * 285870213051353865#64) >>> 58).toNat := ⟨_, rfl⟩
  rw [← hm] at hk hlt
  have hv : w64 ((BitVec.twoPow 64 k * 285870213051353865#64) >>> 58) = .int .u64 (m : Int) := by rw [hm]
  rw [hv]
  refine ⟨gTab, 0, .u64, m, rfl, rfl, by omega, by omega, ?_⟩
  refine ld (t.at_ _ k (by simpa using hk)) ?_
  rw [CvP_int, wrap64 (by omega) (by omega)]
  exact r k h1 h2 h3
end Go.Sg
namespace Go.Sg
open Go Vc
def nw (n : Nat) : Nat := (n + 63) / 64
def bitAt (f : Nat → BitVec 64) (i : Nat) : Bool := (f (i / 64)).getLsbD (i % 64)
structure Brw (g p : Nat) (h : Heap) (n : Nat) (S : Nat → Bool) : Prop where
  pos : 0 < n
  big : n ≤ 65536
  ne : p ≠ g
  blk : Blk h p [int n, int ((List.range n).countP S : Nat), .slice (some ⟨g, 0, none⟩) (nw n) (nw n)]
  wds : ∃ f, Own g (nw n) t_uint64 h (tab (nw n) f) ∧ ∀ i, i < n → S i = bitAt f i
section
variable {h : Heap} {K : Kt} {g p n i : Nat} {S : Nat → Bool}
theorem Brw.ex {M : Nat → Prop} {h' : Heap} (c : Brw g p h n S) (e : Ex M h h') (h1 : ¬ M p) (h2 : ¬ M g) : Brw g p h' n S := by
  obtain ⟨k1, k2, k3, k4, f, k5, k6⟩ := c
  exact ⟨k1, k2, k3, k4.ex e h1, f, k5.ex e h2, k6⟩
theorem Brw.ext {h' : Heap} (c : Brw g p h n S) (e : Ext h h') : Brw g p h' n S := c.ex e (fun x => x) (fun x => x)
theorem Brw.lt (c : Brw g p h n S) : p < h.size ∧ g < h.size := by
  obtain ⟨k1, k2, k3, k4, f, k5, k6⟩ := c
  exact ⟨k4.lt, k5.lt⟩
theorem count_le (c : Nat) : (List.range n).countP S ≤ n := by
  have := List.countP_le_length (p := S) (l := List.range n)
  simpa using this
theorem c_bits_Len (c : Brw g p h n S) (r : K (int n) h) : Ca f_bits_Row_Len #[ptr p 0] h K :=
  m_bits_Row_Len_ok (eq_ptr_nil (by kernel_rfl) (fl (by rw [c.blk.get]; rfl) r))
theorem c_bits_Count (c : Brw g p h n S) (r : K (int ((List.range n).countP S : Nat)) h) : Ca f_bits_Row_Count #[ptr p 0] h K :=
  m_bits_Row_Count_ok (eq_ptr_nil (by kernel_rfl) (fl (by rw [c.blk.get]; rfl) r))
theorem c_bits_there (c : Brw g p h n S) (hi : i < n) (r : K (int 0) h) : Ca f_bits_Row_there #[ptr p 0, int i] h K := by
  refine m_bits_Row_there_ok (c_bits_Len c ?_)
  have := c.pos
  rw [BiP_eql]
  refine cdp (fun h => absurd h (by omega)) fun _ => ?_
  rw [BiP_lss]
  refine cdp (fun h => absurd h (by omega)) fun _ => ?_
  refine fl (by rw [c.blk.get]; rfl) ?_
  rw [BiP_geq]
  unfold m_bits_Row_there_j13
  exact cdp (fun h => absurd h (by omega)) fun _ => r
theorem qn (i : Nat) : (i : Int).tdiv 64 = ((i / 64 : Nat) : Int) := rfl
theorem rn (i : Nat) : (i : Int).tmod 64 = ((i % 64 : Nat) : Int) := rfl
theorem bit_test {w : BitVec 64} {m : Nat} : decide (((w >>> m &&& 1#64).toNat : Int) = 1) = w.getLsbD m := by
  have h1 : (w >>> m &&& 1#64).toNat = w.toNat / 2 ^ m % 2 := by
    rw [BitVec.toNat_and, BitVec.toNat_ushiftRight, Nat.shiftRight_eq_div_pow]
    exact Nat.and_one_is_mod _
  rw [BitVec.getLsbD, Nat.testBit_eq_decide_div_mod_eq, h1]
  apply decide_eq_decide.2
  omega
theorem nw_lt (hi : i < n) : i / 64 < nw n := by unfold nw; omega
theorem c_bits_Has (c : Brw g p h n S) (hi : i < n) (r : K (.bool (S i)) h) : Ca f_bits_Row_Has #[ptr p 0, int i] h K := by
  refine m_bits_Row_Has_ok (c_bits_there c hi ?_)
  have hb := c.big
  rw [BiP_eql]
  refine cdp (fun _ => ?_) fun h => absurd rfl h
  obtain ⟨k1, k2, k3, k4, f, k5, k6⟩ := c
  refine fl (by rw [k4.get]; rfl) (quo64 (by omega) (by rw [qn]; omega) ?_)
  rw [qn]
  refine (k5.rd (by rw [tab_length]) (Nat.le_refl _)).ei (x := f (i / 64)) (by omega) (by rw [Int.toNat_natCast]; exact tab_get (nw_lt hi)) rfl ?_
  refine rem64 (by omega) ?_
  rw [rn]
  show BiP .shr (w64 (f (i / 64))) (int (i % 64 : Nat)) _
  rw [bv_shr (by omega)]
  show BiP .and (w64 _) (w64 1#64) _
  rw [bv_and]
  show BiP .eql (w64 _) (.int .u64 1) _
  rw [BiP_eql, bit_test]
  unfold m_bits_Row_Has_j17
  have := k6 i hi
  unfold bitAt at this
  rw [← this]; exact r
theorem bitAt_set {f : Nat → BitVec 64} {i j : Nat} : bitAt (upd f (i / 64) (f (i / 64) ||| (1#64 <<< (i % 64)))) j = (bitAt f j || decide (j = i)) := by
  unfold bitAt
  by_cases hd : j / 64 = i / 64
  · rw [hd, upd_same, BitVec.getLsbD_or]
    have : (1#64 <<< (i % 64)) = BitVec.twoPow 64 (i % 64) := (BitVec.twoPow_eq ..).symm
    rw [this, BitVec.getLsbD_twoPow]
    have h1 : i % 64 < 64 := Nat.mod_lt _ (by omega)
    by_cases hm : j % 64 = i % 64
    · have : j = i := by omega
      subst this; simp [h1]
    · have h2 : j ≠ i := fun e => hm (by rw [e])
      have h3 : ¬ i % 64 = j % 64 := fun e => hm e.symm
      simp [h2, h3]
  · rw [upd_ne hd]
    have h2 : j ≠ i := fun e => hd (by rw [e])
    simp [h2]
theorem count_upd {i : Nat} : ∀ n, i < n → ∀ v : Bool, (List.range n).countP (upd S i v) + (if S i then 1 else 0) = (List.range n).countP S + (if v then 1 else 0) := by
  intro n
  induction n with
  | zero => intro h; omega
  | succ n ih =>
    intro hi v
    rw [List.range_succ, List.countP_append, List.countP_append]
    by_cases hn : i = n
    · subst hn
      have : (List.range i).countP (upd S i v) = (List.range i).countP S := by
        apply List.countP_congr
        intro x hx
        rw [List.mem_range] at hx
        rw [upd_ne (by omega)]
      rw [this]
      simp [upd_same, List.countP_cons]
      omega
    · have := ih (by omega) v
      have h2 : List.countP (upd S i v) [n] = List.countP S [n] := by
        simp [List.countP_cons, upd_ne (Ne.symm hn)]
      rw [h2]; omega
theorem c_bits_Set (c : Brw g p h n S) (hi : i < n) (hs : S i = false) (r : ∀ h', Brw g p h' n (upd S i true) → Ex (two p g) h h' → K (int 0) h') : Ca f_bits_Row_Set #[ptr p 0, int i] h K := by
  refine m_bits_Row_Set_ok (c_bits_there c hi ?_)
  have hb := c.big
  rw [BiP_neq]
  refine cdp (fun h => absurd rfl h) fun _ => ?_
  refine c_bits_Has c hi ?_
  rw [hs, CdP_false]
  obtain ⟨k1, k2, k3, k4, f, k5, k6⟩ := c
  refine fl (by rw [k4.get]; rfl) (quo64 (by omega) (by rw [qn]; omega) ?_)
  rw [qn]
  refine (k5.rd (by rw [tab_length]) (Nat.le_refl _)).ei (x := f (i / 64)) (by omega) (by rw [Int.toNat_natCast]; exact tab_get (nw_lt hi)) rfl ?_
  refine rem64 (by omega) ?_
  rw [rn]
  show BiP .shl (w64 1#64) (int (i % 64 : Nat)) _
  rw [bv_shl (by omega)]
  show BiP .or (w64 (f (i / 64))) (w64 _) _
  rw [bv_or]
  refine own_set1 (a' := f (i / 64) ||| (1#64 <<< (i % 64))) rfl rfl rfl k5 (by rw [tab_length]) (by rw [tab_length]; exact nw_lt hi) fun h1 o1 e1 => ⟨trivial, ?_⟩
  rw [tab_set] at o1
  have k4' := k4.ex e1 k3
  have hc : (List.range n).countP S ≤ n := count_le 0
  refine fl (by rw [k4'.get]; rfl) (add64 (by omega) ?_)
  refine Fs_b k4' (by simp) rfl fun h2 _ e2 k2' => ?_
  have hcu := count_upd (S := S) n hi true
  rw [hs] at hcu
  simp only [Bool.false_eq_true, if_false, if_true, Nat.add_zero] at hcu
  refine r h2 ⟨k1, k2, k3, ?_, _, o1.ex e2 (Ne.symm k3), fun j hj => ?_⟩ ((e1.mono fun _ _ h => .inr h).trans (e2.mono fun _ _ h => .inl h))
  · have e : (((List.range n).countP S : Nat) : Int) + 1 = ((List.range n).countP (upd S i true) : Nat) := by omega
    rw [e] at k2'; exact k2'
  · rw [bitAt_set]
    by_cases hji : j = i
    · subst hji; simp [upd_same]
    · rw [upd_ne hji, k6 j hj]; simp [hji]
theorem c_bits_New (h0 : 0 < n) (hn : n ≤ 65536) (r : ∀ g p h', h.size ≤ g → h.size ≤ p → Brw g p h' n (fun _ => false) → Ext h h' → K (.tuple #[ptr p 0, int 0]) h') : Ca f_bits_New #[int n] h K := by
  refine m_bits_New_ok ?_
  unfold m_bits_New
  rw [BiP_lss]
  refine cdp (fun h => absurd h (by omega)) fun _ => ?_
  rw [BiP_gtr]
  unfold m_bits_New_j7
  refine cdp (fun h => absurd h (by omega)) fun _ => ?_
  refine add64 (by omega) (sub64 (by omega) (quo64 (by omega) ?_ ?_))
  · have e : ((n : Int) + 64 - 1) = ((n + 63 : Nat) : Int) := by omega
    rw [e, qn]; omega
  have e : ((n : Int) + 64 - 1).tdiv 64 = ((nw n : Nat) : Int) := by
    have e : ((n : Int) + 64 - 1) = ((n + 63 : Nat) : Int) := by omega
    rw [e, qn]; rfl
  rw [e]
  have hnw : nw n ≤ 1024 := by unfold nw; omega
  refine mkn (n0 := h.size) T_u64 z_u64 (Nat.le_refl _) (by show nw n * 1 ≤ _; omega) (by decide) fun g h1 hg o1 e1 => ?_
  refine ⟨_, #[int n, int 0, .slice (some ⟨g, 0, none⟩) (nw n) (nw n)], rfl, rfl, ?_⟩
  refine bxa (cs := [int n, int 0, .slice (some ⟨g, 0, none⟩) (nw n) (nw n)]) fun b h2 e2 hb k2 _ => ?_
  have hgl := o1.lt
  have o2 := o1.ext e2
  rw [tab_rep] at o2
  refine r g b h2 (by omega) (by have := e1.le; omega) ⟨h0, hn, by omega, ?_, _, o2, fun i _ => by simp [bitAt]⟩ (e1.trans e2)
  have : (List.range n).countP (fun _ => false) = 0 := by simp
  rw [this]; exact k2
theorem c_bits_Free (c : Brw g p h n S) (t : Tz h) {a : Nat} (hj : ∃ j, a ≤ j ∧ j < n ∧ S j = false) (r : ∀ i, a ≤ i → i < n → S i = false → K (.tuple #[int (i : Nat), .bool true]) h) : Ca f_bits_Row_Free #[ptr p 0, int a] h K := by
  obtain ⟨j0, hj1, hj2, hj3⟩ := hj
  refine m_bits_Row_Free_ok (c_bits_Len c ?_)
  have hp := c.pos
  have hb := c.big
  rw [BiP_eql]
  refine cdp (fun h => absurd h (by omega)) fun _ => ?_
  refine c_bits_Len c ?_
  rw [BiP_geq]
  unfold m_bits_Row_Free_j11
  refine cdp (fun h => absurd h (by omega)) fun _ => ?_
  unfold m_bits_Row_Free_j12
  refine m_bits_Row_seek_ok ?_
  unfold m_bits_Row_seek
  refine max_int ?_
  have hmx : max (0 : Int) (a : Int) = (a : Int) := by omega
  rw [hmx]
  refine quo64 (by omega) (by rw [qn]; omega) ?_
  rw [qn]
  obtain ⟨k1, k2, k3, k4, f, k5, k6⟩ := c
  refine lop (σ := Nat) (fun w => [int 0, .bool false, int w]) (fun w h' => h' = h ∧ a / 64 ≤ w ∧ ∀ j, a ≤ j → j < w * 64 → j < n → S j = true) (fun w => nw n - w) (a / 64) rfl ⟨rfl, Nat.le_refl _, fun j h1 h2 _ => by omega⟩ ?_
  rintro w h1 N ⟨rfl, hw1, hw2⟩ hN
  simp only [m_bits_Row_seek_l5, gv_zero, gv_succ]
  have hw : w < nw n := by
    refine Classical.byContradiction fun hc => ?_
    have : n ≤ nw n * 64 := by unfold nw; omega
    have := hw2 j0 hj1 (by have := Nat.mul_le_mul_right 64 (Nat.le_of_not_lt hc); omega) hj2
    rw [hj3] at this; cases this
  have hnw : nw n ≤ 1024 := by unfold nw; omega
  refine fl (by rw [k4.get]; rfl) ?_
  rw [LenP_slice, BiP_lss]
  refine cdp (fun _ => ?_) fun h => absurd (by omega) h
  refine fl (by rw [k4.get]; rfl) ?_
  refine (k5.rd (by rw [tab_length]) (Nat.le_refl _)).ei (x := f w) (by omega) (by rw [Int.toNat_natCast]; exact tab_get hw) rfl ?_
  show BiP .xor (w64 (f w)) (w64 (BitVec.allOnes 64)) _
  rw [bv_xor]
  refine quo64 (by omega) (by rw [qn]; omega) ?_
  rw [qn, BiP_eql]
  have key : ∀ x : BitVec 64, (∀ b, b < 64 → a ≤ w * 64 + b → x.getLsbD b = !(f w).getLsbD b) → (∀ b, b < 64 → ¬ a ≤ w * 64 + b → x.getLsbD b = false) → m_bits_Row_seek_j25 (ptr p 0) (int a) (.int .u64 18446744073709551615) (int 0) (.bool false) (int w) (w64 x) h1 N
      (fun x14 h13 => ExP x14 0 fun x15 => ExP x14 1 fun x16 => Ca f_bits_told #[x15, x16] h13 fun x18 h17 => ExP x18 0 fun x19 => ExP x18 1 fun x20 => K (.tuple #[x19, x20]) h17) := by
    intro x hx1 hx2
    unfold m_bits_Row_seek_j25
    show BiP .eql (w64 x) (w64 0#64) _
    rw [BiP_eql]
    refine cdp (fun h0 => ?_) (fun h0 => ?_)
    · have h0 : x = 0#64 := w64_inj.1 h0
      unfold m_bits_Row_seek_j35
      refine add64 (by omega) ?_
      have := hN (w + 1) h1 ⟨rfl, by omega, fun j q1 q2 q3 => ?_⟩ (by omega)
      · simpa using this
      · by_cases hjw : j < w * 64
        · exact hw2 j q1 hjw q3
        · have h1 := hx1 (j - w * 64) (by omega) (by omega)
          rw [h0] at h1
          have e1 : j / 64 = w := by omega
          have e2 : j % 64 = j - w * 64 := by omega
          rw [k6 j q3, bitAt, e1, e2]
          simpa using h1.symm
    · have h0 : x ≠ 0#64 := fun e => h0 (by rw [e])
      refine mul64 (by omega) ?_
      refine c_tz t h0 fun k hk1 hk2 hk3 => ?_
      refine add64 (by omega) ?_
      have e : ((w : Int) * 64 + (k : Int)) = ((w * 64 + k : Nat) : Int) := by omega
      rw [e]
      have hak : a ≤ w * 64 + k := by
        refine Classical.byContradiction fun hc => ?_
        rw [hx2 k hk1 hc] at hk2; cases hk2
      have hfk : (f w).getLsbD k = false := by
        have := hx1 k hk1 hak
        rw [hk2] at this
        simpa using this.symm
      have hle : w * 64 + k ≤ j0 := by
        refine Classical.byContradiction fun hc => ?_
        by_cases hjw : j0 < w * 64
        · have := hw2 j0 hj1 hjw hj2; rw [hj3] at this; cases this
        · have q := hx1 (j0 - w * 64) (by omega) (by omega)
          rw [hk3 _ (by omega)] at q
          have e1 : j0 / 64 = w := by omega
          have e2 : j0 % 64 = j0 - w * 64 := by omega
          have := k6 j0 hj2
          rw [bitAt, e1, e2, hj3] at this
          rw [← this] at q; cases q
      refine fl (by rw [k4.get]; rfl) ?_
      rw [BiP_lss, decide_eq_true (by omega)]
      refine ex20.2 (ex21.2 ?_)
      refine m_bits_told_ok ?_
      unfold m_bits_told
      rw [UnP_not]
      show CdP (.bool false) _ _
      rw [CdP_false]
      refine ex20.2 (ex21.2 ?_)
      refine r _ hak (by omega) ?_
      have e1 : (w * 64 + k) / 64 = w := by omega
      have e2 : (w * 64 + k) % 64 = k := by omega
      rw [k6 _ (by omega), bitAt, e1, e2]; exact hfk
  refine cdp (fun hwa => ?_) (fun hwa => ?_)
  · refine rem64 (by omega) ?_
    rw [rn]
    show BiP .shl (w64 (BitVec.allOnes 64)) (int (a % 64 : Nat)) _
    rw [bv_shl (by omega), bv_and]
    refine key _ (fun b hb1 hb2 => ?_) (fun b hb1 hb2 => ?_)
    · rw [BitVec.getLsbD_and, BitVec.getLsbD_xor, BitVec.getLsbD_shiftLeft, BitVec.getLsbD_allOnes, BitVec.getLsbD_allOnes]
      have : ¬ b < a % 64 := by omega
      have h3 : b - a % 64 < 64 := by omega
      simp [hb1, this, h3]
    · rw [BitVec.getLsbD_and, BitVec.getLsbD_shiftLeft]
      have : b < a % 64 := by omega
      simp [this]
  · refine key _ (fun b hb1 hb2 => ?_) (fun b hb1 hb2 => ?_)
    · rw [BitVec.getLsbD_xor, BitVec.getLsbD_allOnes]; simp [hb1]
    · omega
end
end Go.Sg
namespace Go.Sg
open Go Vc
structure Pol (o g p : Nat) (h : Heap) (n : Nat) (S : Nat → Bool) : Prop where
  blk : Blk h o [ptr p 0]
  row : Brw g p h n S
  zero : S 0 = true
  tz : Tz h
  o1 : o ≠ p
  o2 : o ≠ g
  t1 : gTab ≠ p
  t2 : gTab ≠ g
def cnt (n : Nat) (S : Nat → Bool) : Nat := (List.range n).countP S
theorem cnt_le {n : Nat} {S : Nat → Bool} : cnt n S ≤ n := count_le 0
theorem cnt_free {n : Nat} {S : Nat → Bool} (h : cnt n S < n) : ∃ j, j < n ∧ S j = false := by
  refine Classical.byContradiction fun hc => ?_
  have : cnt n S = (List.range n).length := by
    refine List.countP_eq_length.2 fun j hj => ?_
    rw [List.mem_range] at hj
    cases hs : S j with
    | true => rfl
    | false => exact absurd ⟨j, hj, hs⟩ hc
  rw [List.length_range] at this; omega
section
variable {h : Heap} {K : Kt} {o g p n i : Nat} {S : Nat → Bool}
theorem Pol.ex {M : Nat → Prop} {h' : Heap} (c : Pol o g p h n S) (e : Ex M h h') (h0 : ¬ M o) (h1 : ¬ M p) (h2 : ¬ M g) (h3 : ¬ M gTab) : Pol o g p h' n S :=
  ⟨c.blk.ex e h0, c.row.ex e h1 h2, c.zero, c.tz.ex e h3, c.o1, c.o2, c.t1, c.t2⟩
theorem Pol.ext {h' : Heap} (c : Pol o g p h n S) (e : Ext h h') : Pol o g p h' n S := c.ex e (fun x => x) (fun x => x) (fun x => x) (fun x => x)
theorem Pol.with {h' : Heap} {S' : Nat → Bool} (c : Pol o g p h n S) (r : Brw g p h' n S') (e : Ex (two p g) h h') (z : S' 0 = true) : Pol o g p h' n S' :=
  ⟨c.blk.ex e (fun x => x.elim c.o1 c.o2), r, z, c.tz.ex e (fun x => x.elim c.t1 c.t2), c.o1, c.o2, c.t1, c.t2⟩
theorem c_pool_none (c : Pol o g p h n S) (r : K (.bool false) h) : Ca f_pool_Pool_none #[ptr o 0] h K := by
  refine m_pool_Pool_none_ok (eq_ptr_nil (by kernel_rfl) (fl (by rw [c.blk.get]; rfl) ?_))
  unfold m_pool_Pool_none_j11
  exact eq_ptr_nil (by kernel_rfl) r
theorem c_pool_Free (c : Pol o g p h n S) (r : K (int (n - cnt n S : Nat)) h) : Ca f_pool_Pool_Free #[ptr o 0] h K := by
  refine m_pool_Pool_Free_ok (c_pool_none c ?_)
  rw [CdP_false]
  refine ⟨fun b' _ => b' = o, ?_⟩
  rw [NilP_ptr, FaP_ptr]
  refine LdX_b c.blk rfl (fun _ => rfl) ?_
  rw [NilP_ptr, FaP_ptr]
  refine LdX_b c.blk rfl (fun _ => rfl) ?_
  refine c_bits_Len c.row ⟨fun _ _ _ => rfl, c_bits_Count c.row ⟨trivial, ?_⟩⟩
  have h1 : cnt n S ≤ n := cnt_le
  have hb := c.row.big
  unfold cnt at h1 r
  refine sub64 (by omega) ?_
  have e : ((n : Int) - (((List.range n).countP S : Nat) : Int)) = ((n - (List.range n).countP S : Nat) : Int) := by omega
  rw [e]; exact r
theorem c_pool_Has (c : Pol o g p h n S) (hi : i < n) (r : K (.bool (S i)) h) : Ca f_pool_Pool_Has #[ptr o 0, .int .u32 i] h K := by
  refine m_pool_Pool_Has_ok (c_pool_none c ?_)
  rw [UnP_not]
  show CdP (.bool true) _ _
  rw [CdP_true]
  have hb := c.row.big
  refine fl (by rw [c.blk.get]; rfl) ?_
  rw [CvP_int, wrap64 (by omega) (by omega)]
  exact c_bits_Has c.row hi r
theorem c_pool_Mark (c : Pol o g p h n S) (hi : i < n) (hs : S i = false) (r : ∀ h', Pol o g p h' n (upd S i true) → Ex (two p g) h h' → K (int 0) h') : Ca f_pool_Pool_Mark #[ptr o 0, .int .u32 i] h K := by
  refine m_pool_Pool_Mark_ok (c_pool_none c ?_)
  rw [CdP_false]
  have hb := c.row.big
  refine fl (by rw [c.blk.get]; rfl) ?_
  rw [CvP_int, wrap64 (by omega) (by omega)]
  have h0 : 0 ≠ i := fun e => by subst e; rw [c.zero] at hs; cases hs
  exact c_bits_Set c.row hi hs fun h' b' e' => r h' (c.with b' e' (by rw [upd_ne h0]; exact c.zero)) e'
theorem c_pool_Grab1 (c : Pol o g p h n S) (hf : cnt n S < n) (r : ∀ i v h', 1 ≤ i → i < n → S i = false → Ow h.size t_uint32 h' v [(⟨i⟩ : U32)] → Pol o g p h' n (upd S i true) → Ex (two p g) h h' → K (.tuple #[v, int 0]) h') : Ca f_pool_Pool_Grab #[ptr o 0, int 1] h K := by
  refine m_pool_Pool_Grab_ok (c_pool_none c ?_)
  rw [CdP_false, BiP_lss]
  refine cdp (fun h => absurd h (by omega)) fun _ => ?_
  refine c_pool_Free c ?_
  rw [BiP_gtr]
  refine cdp (fun h => absurd h (by omega)) fun _ => ?_
  have hb := c.row.big
  refine lop (σ := Option (Nat × Value)) (fun s => match s with
      | none => [.slice none 0 0, int 0, int 0]
      | some (i, v) => [v, int (i + 1 : Nat), int 1])
    (fun s h' => match s with
      | none => h' = h
      | some (i, v) => 1 ≤ i ∧ i < n ∧ S i = false ∧ Ow h.size t_uint32 h' v [(⟨i⟩ : U32)] ∧ Pol o g p h' n (upd S i true) ∧ Ex (two p g) h h')
    (fun s => match s with | none => 1 | some _ => 0) none rfl rfl ?_
  rintro s h1 N hI hN
  cases s with
  | some s =>
    obtain ⟨i, v⟩ := s
    obtain ⟨q1, q2, q3, q4, q5, q6⟩ := hI
    simp only [m_pool_Pool_Grab_l9, gv_zero, gv_succ]
    rw [BiP_lss]
    refine cdp (fun h => absurd h (by omega)) fun _ => ?_
    exact r i v h1 q1 q2 q3 q4 q5 q6
  | none =>
    simp only at hI
    subst hI
    simp only [m_pool_Pool_Grab_l9, gv_zero, gv_succ]
    rw [BiP_lss]
    refine cdp (fun _ => ?_) fun h => absurd (by omega) h
    refine fl (by rw [c.blk.get]; rfl) ?_
    obtain ⟨j, hj1, hj2⟩ := cnt_free hf
    refine c_bits_Free (a := 0) c.row c.tz ⟨j, Nat.zero_le _, hj1, hj2⟩ fun i _ hi hs => ?_
    have hi0 : 0 ≠ i := fun e => by subst e; rw [c.zero] at hs; cases hs
    rw [ex20, ex21]
    refine fl (by rw [c.blk.get]; rfl) ?_
    refine c_bits_Set c.row hi hs fun h2 b2 e2 => ?_
    have c2 := c.with b2 e2 (by rw [upd_ne hi0]; exact c.zero)
    rw [CvP_int, wrap32 (by omega) (by omega)]
    refine bs (n0 := h2.size) (e := t_uint32) (zs := #[.int .u32 0]) [(⟨i⟩ : U32)] rfl (Nat.le_refl _) rfl (by decide) (cs := #[.int .u32 i]) (by kernel_rfl) rfl fun v3 h3 o3 e3 => ?_
    have s3 : Sl No h3 v3 [(⟨i⟩ : U32)] := o3.sl fun _ _ h => h
    refine app T_u32 (Ow.nil h1.size t_uint32 h3) s3 (by have := e2.le; have := e3.le; omega) (by simp) (by decide) fun v4 h4 o4 _ e4 => ?_
    have e4 := e4 rfl
    refine add64 (by omega) (add64 (by omega) ?_)
    have := hN (some (i, v4)) h4 ⟨by omega, hi, hs, o4, (c2.ext e3).ext e4, (e2.trans e3.toM).trans e4.toM⟩ (by simp)
    simpa using this
theorem c_pool_Take (c : Pol o g p h n S) (hf : cnt n S < n) (r : ∀ i h', 1 ≤ i → i < n → S i = false → Pol o g p h' n (upd S i true) → Ex (two p g) h h' → K (.tuple #[.int .u32 (i : Nat), int 0]) h') : Ca f_pool_Pool_Take #[ptr o 0] h K := by
  refine m_pool_Pool_Take_ok (c_pool_Grab1 c hf fun i v h1 q1 q2 q3 q4 q5 q6 => ?_)
  rw [ex20, ex21, BiP_neq]
  refine cdp (fun h => absurd rfl h) fun _ => ?_
  refine (q4.sl (U := No) fun _ _ h => h).ei (x := (⟨i⟩ : U32)) (by omega) rfl rfl ?_
  exact r i h1 q1 q2 q3 q5 q6
theorem c_pool_New (h0 : 5 ≤ n) (hn : n ≤ 65536) (t : Tz h) (r : ∀ o g p h', h.size ≤ o → h.size ≤ g → h.size ≤ p → Pol o g p h' n (upd (fun _ => false) 0 true) → Ext h h' → K (.tuple #[ptr o 0, int 0]) h') : Ca f_pool_New #[int n] h K := by
  refine m_pool_New_ok ?_
  unfold m_pool_New
  rw [BiP_lss]
  refine cdp (fun h => absurd h (by omega)) fun _ => ?_
  refine c_bits_New (by omega) hn fun g p h1 hg hp b1 e1 => ?_
  rw [ex20, ex21, BiP_neq]
  refine cdp (fun h => absurd rfl h) fun _ => ?_
  refine c_bits_Set (i := 0) b1 (by omega) rfl fun h2 b2 e2 => ?_
  refine ⟨_, #[ptr p 0], rfl, rfl, ?_⟩
  refine bxa (cs := [ptr p 0]) fun b h3 e3 hb k3 _ => ?_
  have e02 : Ext h h2 := e1.andThen e2 fun x hx hM => by rcases hM with rfl | rfl <;> omega
  have hlt := b2.lt
  have ht := t.lt
  exact r b g p h3 (by have := e02.le; omega) hg hp ⟨k3, b2.ext e3, upd_same, (t.ext e02).ext e3, by omega, by omega, by omega, by omega⟩ (e02.trans e3)
end
end Go.Sg
namespace Go.Sg
open Go Vc
section
variable {α : Type} [El α] {t e ty : TypeId} {by' : Nat} {h : Heap} {K : Kt}
theorem app_ob {U} (T : SlT α t e by') {v x : Value} {l m : List α} (o : Ow 0 e h v l) (s : Sl U h x m) (hl : l.length + m.length ≤ 2 ^ 40) (hby : by' ≤ 64)
    (r : ∀ v' h', Ow 0 e h' v' (l ++ m) → Ex (fun b => v.ownBlock = some b) h h' → (v'.ownBlock = v.ownBlock ∨ v'.ownBlock = some h.size) → K v' h') :
    VH Pg (Builtin.append_ #[t, t] ty #[v, x]) h K := by
  obtain ⟨i, z, hi, hz, hs, hb, hzs⟩ := T.info
  intro w hw
  subst hw
  obtain ⟨a, cap, rfl, c1, c2, c3⟩ := s.out
  by_cases hm : m = []
  · subst hm
    obtain ⟨w', h1, rfl⟩ := run_append_src_nil (ty := ty) T w v l o a cap
    exact ⟨v, w', h1, Kin.refl _, r _ _ (by simpa using o) (Ex.refl _ _) (.inl rfl)⟩
  · cases a with
    | none => exact absurd (List.eq_nil_of_length_eq_zero (by have := c2 rfl; omega)) hm
    | some a =>
      obtain ⟨ab, ao, asp⟩ := a
      obtain ⟨k1, k2⟩ := c3 _ rfl
      simp only at k1
      subst k1
      obtain ⟨k2, k3, k4⟩ := k2 hm
      obtain ⟨v', w', h1, h2, h3, h4, h5⟩ := run_append_own_at (P := Pg) w 0 t ty e i z (El.z α) by' T.und hi hz hs hb hzs El.pos v l.length (cells l) (o.owns w rfl)
        ⟨ab, ao, none⟩ m.length cap (cells m) (cells_length m) (fun j u hj => by rw [Addr.add_lit, cell_hget]; exact k4 j u hj) (cells_one m)
        (by simp only [maxLen]; omega) (by have : (l.length + m.length) * by' ≤ 2 ^ 40 * 64 := Nat.mul_le_mul hl hby
                                           omega) (Nat.zero_le _)
      rw [← cells_append] at h2
      refine ⟨v', w', h1, grown_kin h3, r _ _ (Ow.of h2) ⟨h3.size, fun b hb hm => h3.block b hb fun he => hm ?_⟩ h5⟩
      exact he.symm
end
theorem fl_take {n : Nat} : ∀ (D : List (List UInt8)) (i : Nat), (∀ b ∈ D, b.length = n) → i ≤ D.length → (D.take i).flatten.length = i * n
  | [], i, _, hi => by simp at hi; subst hi; simp
  | a :: D, 0, _, _ => by simp
  | a :: D, i + 1, h, hi => by
    rw [List.take_succ_cons, List.flatten_cons, List.length_append, fl_take D i (fun b hb => h b (by simp [hb])) (by simpa using hi), h a (by simp), Nat.add_mul]; omega
theorem fl_len {n : Nat} {D : List (List UInt8)} (h : ∀ b ∈ D, b.length = n) : D.flatten.length = D.length * n := by
  have := fl_take D D.length h (Nat.le_refl _)
  rwa [List.take_length] at this
theorem fl_split {D : List (List UInt8)} {i : Nat} {b : List UInt8} (hb : D[i]? = some b) : D.flatten = (D.take i).flatten ++ b ++ (D.drop (i + 1)).flatten := by
  obtain ⟨hi, rfl⟩ := List.getElem?_eq_some_iff.1 hb
  have : D = D.take i ++ D[i] :: D.drop (i + 1) := by rw [← List.drop_eq_getElem_cons hi, List.take_append_drop]
  have h2 := congrArg List.flatten this
  exact h2.trans (by rw [List.flatten_append, List.flatten_cons, List.append_assoc])
theorem mid_take (A B C : List UInt8) : ((A ++ (B ++ C)).take (A.length + B.length)).drop A.length = B := by
  rw [List.take_length_add_append, List.drop_left, List.take_left]
theorem fl_at {n : Nat} {D : List (List UInt8)} {i : Nat} {b : List UInt8} (h : ∀ b ∈ D, b.length = n) (hb : D[i]? = some b) : (D.flatten.take (i * n + n)).drop (i * n) = b := by
  obtain ⟨hi, he⟩ := List.getElem?_eq_some_iff.1 hb
  have h1 := fl_take D i h (Nat.le_of_lt hi)
  have h2 : b.length = n := h b (List.mem_of_getElem? hb)
  have := mid_take (D.take i).flatten b (D.drop (i + 1)).flatten
  rw [← List.append_assoc, ← fl_split hb, h1, h2] at this
  exact this
theorem fl_set {n : Nat} {D : List (List UInt8)} {i : Nat} {b m : List UInt8} (h : ∀ b ∈ D, b.length = n) (hb : D[i]? = some b) (hm : m.length = n) :
    D.flatten.take (i * n) ++ m ++ D.flatten.drop (i * n + n) = (D.set i m).flatten := by
  obtain ⟨hi, he⟩ := List.getElem?_eq_some_iff.1 hb
  have h1 := fl_take D i h (Nat.le_of_lt hi)
  have h2 : b.length = n := h b (List.mem_of_getElem? hb)
  rw [fl_split hb, List.set_eq_take_append_cons_drop, if_pos hi]
  have e1 : ((D.take i).flatten ++ b ++ (D.drop (i + 1)).flatten).take (i * n) = (D.take i).flatten := by
    rw [← h1, List.append_assoc, List.take_left]
  have e2 : ((D.take i).flatten ++ b ++ (D.drop (i + 1)).flatten).drop (i * n + n) = (D.drop (i + 1)).flatten := by
    rw [← h1, ← h2, ← List.length_append, List.drop_left]
  rw [e1, e2]
  simp
structure Dv (g p : Nat) (h : Heap) (n : Nat) (D : List (List UInt8)) (rd wr : BitVec 64) : Prop where
  b1 : 5 ≤ D.length
  b2 : D.length ≤ 65536
  n1 : 1 ≤ n
  n2 : n ≤ 65536
  all : ∀ b ∈ D, b.length = n
  ne : p ≠ g
  out : ∃ cap, Blk h p [int n, .slice (some ⟨g, 0, none⟩) (D.length * n) cap, w64 rd, w64 wr] ∧ Own g cap t_uint8 h D.flatten
section
variable {h : Heap} {K : Kt} {g p n i : Nat} {D : List (List UInt8)} {rd wr : BitVec 64}
theorem Dv.ex {M : Nat → Prop} {h' : Heap} (c : Dv g p h n D rd wr) (e : Ex M h h') (h1 : ¬ M p) (h2 : ¬ M g) : Dv g p h' n D rd wr := by
  obtain ⟨a1, a2, a3, a4, a5, a6, cap, k1, k2⟩ := c
  exact ⟨a1, a2, a3, a4, a5, a6, cap, k1.ex e h1, k2.ex e h2⟩
theorem Dv.ext {h' : Heap} (c : Dv g p h n D rd wr) (e : Ext h h') : Dv g p h' n D rd wr := c.ex e (fun x => x) (fun x => x)
theorem Dv.lt (c : Dv g p h n D rd wr) : p < h.size ∧ g < h.size := by
  obtain ⟨a1, a2, a3, a4, a5, a6, cap, k1, k2⟩ := c
  exact ⟨k1.lt, k2.lt⟩
theorem mul_le32 {a b : Nat} (h1 : a ≤ 65536) (h2 : b ≤ 65536) : a * b ≤ 4294967296 := Nat.mul_le_mul h1 h2
theorem c_dev_Blocks (c : Dv g p h n D rd wr) (r : K (int D.length) h) : Ca f_dev_Device_Blocks #[ptr p 0] h K := by
  obtain ⟨a1, a2, a3, a4, a5, a6, cap, k1, k2⟩ := c
  refine m_dev_Device_Blocks_ok (eq_ptr_nil (by kernel_rfl) (fl (by rw [k1.get]; rfl) ?_))
  rw [BiP_eql]
  unfold m_dev_Device_Blocks_j11
  refine cdp (fun h => absurd h (by omega)) fun _ => ?_
  unfold m_dev_Device_Blocks_j12
  refine fl (by rw [k1.get]; rfl) ?_
  rw [LenP_slice]
  refine fl (by rw [k1.get]; rfl) ?_
  have e : (((D.length * n : Nat) : Int)).tdiv (n : Int) = (D.length : Int) := by
    show ((D.length * n / n : Nat) : Int) = _
    rw [Nat.mul_div_cancel _ (by omega)]
  refine quo64 (by omega) (by rw [e]; omega) ?_
  rw [e]; exact r
theorem c_dev_Bytes (c : Dv g p h n D rd wr) (r : K (int n) h) : Ca f_dev_Device_Bytes #[ptr p 0] h K := by
  obtain ⟨a1, a2, a3, a4, a5, a6, cap, k1, k2⟩ := c
  exact m_dev_Device_Bytes_ok (eq_ptr_nil (by kernel_rfl) (fl (by rw [k1.get]; rfl) r))
theorem c_dev_at (c : Dv g p h n D rd wr) {b : List UInt8} (hb : D[i]? = some b) (r : ∀ cap', n ≤ cap' → Sl No h (.slice (some ⟨g, i * n, none⟩) n cap') b → K (.tuple #[.slice (some ⟨g, i * n, none⟩) n cap', int 0]) h) : Ca f_dev_Device_at #[ptr p 0, .int .u32 i] h K := by
  have c0 := c
  obtain ⟨a1, a2, a3, a4, a5, a6, cap, k1, k2⟩ := c
  obtain ⟨hi, he⟩ := List.getElem?_eq_some_iff.1 hb
  have hin : i * n ≤ 4294967296 := mul_le32 (by omega) a4
  refine m_dev_Device_at_ok (c_dev_Blocks c0 ?_)
  rw [BiP_eql]
  refine cdp (fun h => absurd h (by omega)) fun _ => ?_
  rw [CvP_int, wrap64 (by omega) (by omega)]
  refine c_dev_Blocks c0 ?_
  rw [BiP_geq]
  refine cdp (fun h => absurd h (by omega)) fun _ => ?_
  rw [CvP_int, wrap64 (by omega) (by omega)]
  refine fl (by rw [k1.get]; rfl) ?_
  have e1 : (i : Int) * (n : Int) = ((i * n : Nat) : Int) := by simp
  refine mul64 (by rw [e1]; omega) ?_
  rw [e1]
  refine fl (by rw [k1.get]; rfl) (fl (by rw [k1.get]; rfl) ?_)
  refine add64 (by omega) ?_
  have e2 : ((i * n : Nat) : Int) + (n : Int) = ((i * n + n : Nat) : Int) := by simp
  rw [e2]
  have hle := k2.le
  rw [fl_len a5] at hle
  have h3 : i * n + n ≤ D.length * n := by
    have := Nat.mul_le_mul_right n (show i + 1 ≤ D.length by omega)
    rw [Nat.add_mul] at this; omega
  refine ⟨_, D.length * n, cap, i * n, i * n + n, rfl, bnd_nat, bnd_nat, by omega, by omega, (fun h => by cases h), .inr ⟨_, _, rfl⟩, ?_⟩
  have hne : ¬ cap = i * n := by omega
  rw [if_neg hne]
  have e3 : i * n + n - i * n = n := by omega
  have e4 : Option.map (fun a : Addr => a.add (i * n * 1)) (some ⟨g, 0, none⟩) = some (⟨g, i * n, none⟩ : Addr) := by
    simp [Addr.add_lit]
  rw [e3, e4]
  have hbl : b.length = n := a5 b (List.mem_of_getElem? hb)
  refine r _ (by omega) ⟨_, _, by rw [hbl], by omega, (fun h => by cases h), fun x hx => ?_⟩
  cases hx
  refine ⟨rfl, fun _ => ⟨k2.lt, fun x => x, fun j v hj => ?_⟩⟩
  refine k2.at ?_
  have : cells b = ((cells D.flatten).take (i * n + n)).drop (i * n) := by
    have q1 := cells_take D.flatten (i * n + n)
    have hz : El.z UInt8 = 1 := rfl
    rw [hz, Nat.mul_one] at q1
    have q2 := cells_drop (D.flatten.take (i * n + n)) (i * n)
    rw [hz, Nat.mul_one] at q2
    rw [q1, q2, fl_at a5 hb]
  rw [this, List.getElem?_drop, List.getElem?_take] at hj
  split at hj
  · exact hj
  · cases hj
theorem Sl.ex' {α : Type} [El α] {M : Nat → Prop} {h h' : Heap} {b o m c : Nat} {l : List α} (s : Sl No h (.slice (some ⟨b, o, none⟩) m c) l) (e : Ex M h h') (hm : ¬ M b) : Sl No h' (.slice (some ⟨b, o, none⟩) m c) l := by
  obtain ⟨a, cap, e1, e2, e3, e4⟩ := s.out
  cases e1
  refine ⟨_, _, rfl, e2, e3, fun x hx => ⟨(e4 x hx).1, fun hl => ?_⟩⟩
  obtain ⟨k1, k2, k3⟩ := (e4 x hx).2 hl
  cases hx
  refine ⟨Nat.lt_of_lt_of_le k1 e.le, fun x => x, fun j v hj => ?_⟩
  rw [hget_eq (e.eq _ k1 hm)]
  exact k3 j v hj
theorem c_dev_Read (c : Dv g p h n D rd wr) {b : List UInt8} (hb : D[i]? = some b) (r : ∀ v h', Ow h.size t_uint8 h' v b → Dv g p h' n D (rd + 1) wr → Ex (fun x => x = p) h h' → K (.tuple #[v, int 0]) h') : Ca f_dev_Device_Read #[ptr p 0, .int .u32 i] h K := by
  refine m_dev_Device_Read_ok (c_dev_at c hb fun cap' hc s => ?_)
  rw [ex20, ex21, BiP_neq]
  refine cdp (fun h => absurd rfl h) fun _ => ?_
  obtain ⟨a1, a2, a3, a4, a5, a6, cap, k1, k2⟩ := c
  rw [NilP_ptr, FaP_ptr]
  refine fv (by rw [k1.get]; rfl) ?_
  show BiP .add (w64 rd) (w64 1#64) _
  rw [bv_add, NilP_ptr, FaP_ptr, FaP_ptr]
  refine StP_b k1 (by simp) rfl fun h1 _ e1 k1' => ?_
  have s1 := s.ex' e1 (Ne.symm a6)
  have hbl : b.length = n := a5 b (List.mem_of_getElem? hb)
  refine c_Clone_byte s1 (by omega) fun v h2 o2 e2 => ?_
  refine r v h2 (o2.low e1.le) ?_ (e1.trans e2.toM)
  exact ⟨a1, a2, a3, a4, a5, a6, cap, k1'.ext e2, (k2.ex e1 (Ne.symm a6)).ext e2⟩
theorem c_dev_Write (c : Dv g p h n D rd wr) {b : List UInt8} (hi : i < D.length) {U : Nat → Prop} {v : Value} (s : Sl U h v b) (hl : b.length = n) (r : ∀ h', Dv g p h' n (D.set i b) rd (wr + 1) → Ex (two p g) h h' → K (int 0) h') : Ca f_dev_Device_Write #[ptr p 0, .int .u32 i, v] h K := by
  have hb : D[i]? = some D[i] := List.getElem?_eq_getElem hi
  refine m_dev_Device_Write_ok (c_dev_at c hb fun cap' hc _ => ?_)
  rw [ex20, ex21, BiP_neq]
  refine cdp (fun h => absurd rfl h) fun _ => ?_
  obtain ⟨a1, a2, a3, a4, a5, a6, cap, k1, k2⟩ := c
  have hle := k2.le
  rw [fl_len a5] at hle
  have h3 : i * n + n ≤ D.length * n := by
    have := Nat.mul_le_mul_right n (show i + 1 ≤ D.length by omega)
    rw [Nat.add_mul] at this; omega
  refine s.len (fl (by rw [k1.get]; rfl) ?_)
  rw [BiP_neq]
  refine cdp (fun h => absurd (by omega) h) fun _ => ?_
  have hz : El.z UInt8 = 1 := rfl
  have hmin : min b.length n = n := by omega
  have hin : (⟨g, i * n, none⟩ : Addr) = ⟨g, i * n * El.z UInt8, none⟩ := by rw [hz, Nat.mul_one]
  rw [hin]
  refine copy_own (k := i * n) T_byte k2 s (by rw [fl_len a5]; omega) (by omega) fun h1 o1 e1 => ?_
  have hfs : D.flatten.take (i * n) ++ b.take n ++ D.flatten.drop (i * n + min b.length n) = (D.set i b).flatten := by
    have hbt : b.take n = b := List.take_of_length_le (by omega)
    rw [hmin, hbt]
    exact fl_set a5 hb hl
  rw [hfs] at o1
  have k1' := k1.ex e1 a6
  rw [NilP_ptr, FaP_ptr]
  refine fv (by rw [k1'.get]; rfl) ?_
  show BiP .add (w64 wr) (w64 1#64) _
  rw [bv_add, NilP_ptr, FaP_ptr, FaP_ptr]
  refine StP_b k1' (by simp) rfl fun h2 _ e2 k2' => ?_
  refine r h2 ⟨by simpa using a1, by simpa using a2, a3, a4, fun x hx => ?_, a6, cap, ?_, o1.ex e2 (Ne.symm a6)⟩ ((e1.mono fun _ _ h => .inr h).trans (e2.mono fun _ _ h => .inl h))
  · rcases List.mem_or_eq_of_mem_set hx with hx | rfl
    · exact a5 x hx
    · exact hl
  · rw [List.length_set]; exact k2'
theorem c_dev_Stats (c : Dv g p h n D rd wr) (r : ∀ h', Ext h h' → K (.agg #[w64 rd, w64 wr]) h') : Ca f_dev_Device_Stats #[ptr p 0] h K := by
  obtain ⟨a1, a2, a3, a4, a5, a6, cap, k1, k2⟩ := c
  refine m_dev_Device_Stats_ok (ala (cs := [w64 0, w64 0]) fun b h1 e1 hb kb _ => ?_)
  refine eq_ptr_nil (by kernel_rfl) ?_
  have k1 := k1.ext e1
  show Fla 2 2 (ptr p 0) h1 _
  unfold Fla
  rw [NilP_ptr, FaP_ptr]
  refine LdA_at (cs := [w64 rd, w64 wr]) (fun j v hj => ?_) rfl ?_
  · rw [k1.get]
    match j, hj with
    | 0, hj => exact hj
    | 1, hj => exact hj
  · refine StA_b (vs := [w64 rd, w64 wr]) kb rfl rfl rfl fun h2 _ e2 k2' => ?_
    refine (LdA_b k2' rfl).2 ?_
    exact r h2 (e1.andThen e2 fun x hx => by omega)
theorem c_dev_Image (c : Dv g p h n D rd wr) (r : ∀ v h', Ow h.size t_uint8 h' v D.flatten → Ext h h' → K v h') : Ca f_dev_Device_Image #[ptr p 0] h K := by
  obtain ⟨a1, a2, a3, a4, a5, a6, cap, k1, k2⟩ := c
  refine m_dev_Device_Image_ok (eq_ptr_nil (by kernel_rfl) (fl (by rw [k1.get]; rfl) ?_))
  have h1 := mul_le32 a2 a4
  have h2 := k2.le
  rw [fl_len a5] at h2
  exact c_Clone_byte (k2.rd (fl_len a5).symm h2) (by rw [fl_len a5]; omega) r
theorem c_dev_right {b : Nat} (h1 : 5 ≤ b) (h2 : b ≤ 65536) (h3 : 1 ≤ n) (h4 : n ≤ 65536) (r : K (.bool true) h) : Ca f_dev_right #[int b, int n] h K := by
  refine m_dev_right_ok ?_
  unfold m_dev_right
  rw [BiP_geq]
  refine cdp (fun _ => ?_) fun h => absurd (by omega) h
  rw [BiP_leq]
  refine cdp (fun _ => ?_) fun h => absurd (by omega) h
  rw [BiP_geq]
  refine cdp (fun _ => ?_) fun h => absurd (by omega) h
  rw [BiP_leq]
  rw [decide_eq_true (by omega)]
  exact r
theorem c_dev_New {b : Nat} (h1 : 5 ≤ b) (h2 : b ≤ 65536) (h3 : 1 ≤ n) (h4 : n ≤ 65536) (h5 : b * n ≤ 2 ^ 24) (r : ∀ g p h', h.size ≤ g → h.size ≤ p → Dv g p h' n (List.replicate b (List.replicate n 0)) 0 0 → Ext h h' → K (.tuple #[ptr p 0, int 0]) h') : Ca f_dev_New #[int b, int n] h K := by
  refine m_dev_New_ok (c_dev_right h1 h2 h3 h4 ?_)
  rw [UnP_not]
  show CdP (.bool false) _ _
  rw [CdP_false]
  have e : (b : Int) * (n : Int) = ((b * n : Nat) : Int) := by simp
  refine mul64 (by rw [e]; omega) ?_
  rw [e]
  refine mkn (n0 := h.size) T_byte z_byte (Nat.le_refl _) (by show b * n * 1 ≤ _; omega) (by decide) fun g h1' hg o1 e1 => ?_
  have hD : List.replicate (b * n) (0 : UInt8) = (List.replicate b (List.replicate n (0 : UInt8))).flatten := by
    rw [List.flatten_replicate_replicate]
  rw [hD] at o1
  refine ⟨_, #[int n, .slice (some ⟨g, 0, none⟩) (b * n) (b * n), w64 0, w64 0], rfl, rfl, ?_⟩
  refine bxa (cs := [int n, .slice (some ⟨g, 0, none⟩) (b * n) (b * n), w64 0, w64 0]) fun p h2' e2 hb k2 _ => ?_
  have hgl := o1.lt
  refine r g p h2' (by omega) (by have := e1.le; omega) ⟨by simpa using h1, by simpa using h2, h3, h4, fun x hx => by rw [List.eq_of_mem_replicate hx]; simp, by omega, b * n, by rw [List.length_replicate]; exact k2, o1.ext e2⟩ (e1.trans e2)
end
end Go.Sg
namespace Go.Sg
open Go Vc
structure Fr where
  block : Nat
  b : Value
  dirty : Bool
  pins : Nat
  one : b.oneCell' = true
instance : El Fr := ⟨4, fun f => [.int .u32 f.block, f.b, .bool f.dirty, int f.pins], fun _ => rfl, by decide, fun f v h => by
  simp at h; rcases h with rfl | rfl | rfl | rfl
  · rfl
  · exact f.one
  · rfl
  · rfl⟩
def Fr.nil : Fr := ⟨0, .slice none 0 0, false, 0, rfl⟩
theorem T_frame : SlT Fr t_S_cache_frame t_cache_frame 48 := ⟨by kernel_rfl, by kernel_rfl⟩
theorem z_frame : ∀ i z, Pg.info? t_cache_frame = some i → i.zero = some z → z.cells.toList = El.enc Fr.nil := by
  have h : (Pg.info? t_cache_frame).bind (fun i => i.zero.map fun z => z.cells.toList) = some [.int .u32 0, .slice none 0 0, .bool false, int 0] := by kernel_rfl
  intro i z hi hz
  rw [hi] at h
  simp only [Option.bind_some, hz, Option.map_some, Option.some.injEq] at h
  exact h
structure Ent where
  bytes : List UInt8
  dirty : Bool
  pins : Nat
abbrev Lb (lab : Nat → Nat) (lo hi : Nat) : Nat → Prop := fun b => lo ≤ lab b ∧ lab b ≤ hi
abbrev Use (lab : Nat → Nat) : Nat → Prop := fun b => lab b ≠ 0
theorem nLb {lab : Nat → Nat} {lo hi b v : Nat} (h : lab b = v) (hv : v < lo ∨ hi < v) : ¬ Lb lab lo hi b := fun x => by
  obtain ⟨x1, x2⟩ := x; omega
theorem Lb.wide {lab : Nat → Nat} {h h' : Heap} {lo hi lo' hi' : Nat} (e : Ex (Lb lab lo hi) h h') (h1 : lo' ≤ lo) (h2 : hi ≤ hi') : Ex (Lb lab lo' hi') h h' :=
  e.mono fun _ _ x => ⟨Nat.le_trans h1 x.1, Nat.le_trans x.2 h2⟩
theorem two_lb {lab : Nat → Nat} {h h' : Heap} {p g lo hi : Nat} (e : Ex (two p g) h h') (h1 : Lb lab lo hi p) (h2 : Lb lab lo hi g) : Ex (Lb lab lo hi) h h' :=
  e.mono fun _ _ x => x.elim (fun q => q ▸ h1) (fun q => q ▸ h2)
theorem one_lb {lab : Nat → Nat} {h h' : Heap} {p lo hi : Nat} (e : Ex (fun b => b = p) h h') (h1 : Lb lab lo hi p) : Ex (Lb lab lo hi) h h' :=
  e.mono fun _ _ x => by rcases x with rfl; exact h1
def Lat (lab lab' : Nat → Nat) (h : Heap) : Prop := ∀ b, b < h.size → lab' b = lab b
theorem Lat.refl (lab : Nat → Nat) (h : Heap) : Lat lab lab h := fun _ _ => rfl
theorem Lat.trans {l1 l2 l3 : Nat → Nat} {h1 h2 : Heap} (a : Lat l1 l2 h1) (b : Lat l2 l3 h2) (hs : h1.size ≤ h2.size) : Lat l1 l3 h1 := fun x hx => (b x (by omega)).trans (a x hx)
theorem Lat.ex {l1 l2 : Nat → Nat} {h1 h2 h3 : Heap} {lo hi : Nat} (a : Lat l1 l2 h1) (e : Ex (Lb l1 lo hi) h1 h2) (k : Ex (Lb l2 lo hi) h2 h3) : Ex (Lb l1 lo hi) h1 h3 :=
  ⟨Nat.le_trans e.le k.le, fun b hb hm => (k.eq b (Nat.lt_of_lt_of_le hb e.le) (fun x => hm (by show lo ≤ l1 b ∧ l1 b ≤ hi; rw [← a b hb]; exact x))).trans (e.eq b hb hm)⟩
theorem Sl.lat {α : Type} [El α] {l1 l2 : Nat → Nat} {h h' : Heap} {lo hi : Nat} {v : Value} {l : List α} (s : Sl (Use l1) h v l) (e : Ex (Lb l1 lo hi) h h') (h0 : 0 < lo) (a : Lat l1 l2 h) : Sl (Use l2) h' v l :=
  s.ex e (fun b _ x => by obtain ⟨x1, x2⟩ := x; show l1 b ≠ 0; omega) (fun b hb x => by show l1 b ≠ 0; rw [← a b hb]; exact x)
theorem Ow.exb {α : Type} [El α] {M : Nat → Prop} {n0 e} {h h' : Heap} {v} {l : List α} (o : Ow n0 e h v l) (k : Ex M h h') (hm : ∀ b, v.ownBlock = some b → ¬ M b) : Ow n0 e h' v l := by
  rcases o with o | ⟨g, cap, cur, h1, h2, h3, h4⟩
  · exact .inl o
  · refine .inr ⟨g, cap, cur, h1, h2, k.get h3 (hm g ?_), h4⟩
    rw [h1]; rfl
structure CSt where
  c : Nat
  fg : Nat
  mb : Nat
  rp : Nat
  rg : Nat
  dp : Nat
  dg : Nat
  ve : Value
  em : List Nat
  m : List (Nat × Nat)
  L : List Fr
  R : List Nat
abbrev nint (f : Nat) : Value := int (f : Int)
structure Cok (lab : Nat → Nat) (h : Heap) (s : CSt) (nf n : Nat) (D : List (List UInt8)) (rd wr : BitVec 64) : Prop where
  blk : Blk h s.c [ptr s.dp 0, .slice (some ⟨s.fg, 0, none⟩) nf nf, .map (some s.mb), s.ve, ptr s.rp 0]
  dev : Dv s.dg s.dp h n D rd wr
  fr : Own s.fg nf t_cache_frame h s.L
  fl : s.L.length = nf
  f64 : nf ≤ 64
  mp : Mp nint h s.mb s.m
  em : Ow 0 t_int h s.ve (s.em.map fun f : Nat => (f : Int))
  row : Chn s.rg s.rp h nf s.R
  l1 : lab s.c = 1
  l2 : lab s.fg = 2
  l3 : lab s.mb = 3
  l4 : lab s.rp = 4
  l5 : lab s.rg = 5
  l6 : lab s.dp = 6
  l7 : lab s.dg = 7
  l8 : ∀ b, s.ve.ownBlock = some b → lab b = 8
structure Inv (lab : Nat → Nat) (h : Heap) (s : CSt) (nf n : Nat) (D : List (List UInt8)) (E : Nat → Option Ent) (X : List Nat) : Prop where
  pm : ∀ i, E i = none ↔ s.m.lookup i = none
  fm : ∀ i f, s.m.lookup i = some f → ∃ fr e, s.L[f]? = some fr ∧ E i = some e ∧ fr.block = i ∧ fr.dirty = e.dirty ∧ fr.pins = e.pins ∧ Sl (Use lab) h fr.b e.bytes ∧ e.bytes.length = n ∧ i < D.length
  nd : (s.m.map Prod.snd ++ s.em ++ X).Nodup
  lt : ∀ f ∈ s.m.map Prod.snd ++ s.em ++ X, f < nf
  ln : s.m.length + s.em.length + X.length = nf
  rw : ∀ f, f ∈ s.R ↔ ∃ i e, s.m.lookup i = some f ∧ E i = some e ∧ e.pins = 0
  cl : ∀ i e, E i = some e → e.dirty = false → D[i]? = some e.bytes
section
variable {lab lab' : Nat → Nat} {h h' : Heap} {s : CSt} {nf n : Nat} {D D' : List (List UInt8)} {rd wr rd' wr' : BitVec 64} {E : Nat → Option Ent} {X : List Nat}
theorem Inv.ex {lo hi : Nat} (v : Inv lab h s nf n D E X) (e : Ex (Lb lab lo hi) h h') (h0 : 0 < lo) (a : Lat lab lab' h) : Inv lab' h' s nf n D E X :=
  ⟨v.pm, fun i f hf => by
    obtain ⟨fr, en, q1, q2, q3, q4, q5, q6, q7⟩ := v.fm i f hf
    exact ⟨fr, en, q1, q2, q3, q4, q5, q6.lat e h0 a, q7⟩, v.nd, v.lt, v.ln, v.rw, v.cl⟩
theorem Cok.set_dev (k : Cok lab h s nf n D rd wr) (d : Dv s.dg s.dp h' n D' rd' wr') (e : Ex (Lb lab 6 7) h h') : Cok lab h' s nf n D' rd' wr' :=
  ⟨k.blk.ex e (nLb k.l1 (by decide)), d, k.fr.ex e (nLb k.l2 (by decide)), k.fl, k.f64, by
    obtain ⟨es, cl, q1, q2⟩ := k.mp; exact ⟨es, cl, e.get q1 (nLb k.l3 (by decide)), q2⟩, k.em.exb e (fun b hb => nLb (k.l8 b hb) (by decide)),
    k.row.ex e (nLb k.l4 (by decide)) (nLb k.l5 (by decide)), k.l1, k.l2, k.l3, k.l4, k.l5, k.l6, k.l7, k.l8⟩
theorem Cok.set_row (k : Cok lab h s nf n D rd wr) {R' : List Nat} (d : Chn s.rg s.rp h' nf R') (e : Ex (Lb lab 4 5) h h') : Cok lab h' { s with R := R' } nf n D rd wr :=
  ⟨k.blk.ex e (nLb k.l1 (by decide)), k.dev.ex e (nLb k.l6 (by decide)) (nLb k.l7 (by decide)), k.fr.ex e (nLb k.l2 (by decide)), k.fl, k.f64, by
    obtain ⟨es, cl, q1, q2⟩ := k.mp; exact ⟨es, cl, e.get q1 (nLb k.l3 (by decide)), q2⟩, k.em.exb e (fun b hb => nLb (k.l8 b hb) (by decide)),
    d, k.l1, k.l2, k.l3, k.l4, k.l5, k.l6, k.l7, k.l8⟩
theorem Cok.set_fr (k : Cok lab h s nf n D rd wr) {L' : List Fr} (d : Own s.fg nf t_cache_frame h' L') (hl : L'.length = nf) (e : Ex (Lb lab 2 2) h h') : Cok lab h' { s with L := L' } nf n D rd wr :=
  ⟨k.blk.ex e (nLb k.l1 (by decide)), k.dev.ex e (nLb k.l6 (by decide)) (nLb k.l7 (by decide)), d, hl, k.f64, by
    obtain ⟨es, cl, q1, q2⟩ := k.mp; exact ⟨es, cl, e.get q1 (nLb k.l3 (by decide)), q2⟩, k.em.exb e (fun b hb => nLb (k.l8 b hb) (by decide)),
    k.row.ex e (nLb k.l4 (by decide)) (nLb k.l5 (by decide)), k.l1, k.l2, k.l3, k.l4, k.l5, k.l6, k.l7, k.l8⟩
theorem Cok.set_map (k : Cok lab h s nf n D rd wr) {m' : List (Nat × Nat)} (d : Mp nint h' s.mb m') (e : Ex (Lb lab 3 3) h h') : Cok lab h' { s with m := m' } nf n D rd wr :=
  ⟨k.blk.ex e (nLb k.l1 (by decide)), k.dev.ex e (nLb k.l6 (by decide)) (nLb k.l7 (by decide)), k.fr.ex e (nLb k.l2 (by decide)), k.fl, k.f64, d, k.em.exb e (fun b hb => nLb (k.l8 b hb) (by decide)),
    k.row.ex e (nLb k.l4 (by decide)) (nLb k.l5 (by decide)), k.l1, k.l2, k.l3, k.l4, k.l5, k.l6, k.l7, k.l8⟩
theorem Cok.lat (k : Cok lab h s nf n D rd wr) (a : Lat lab lab' h) : Cok lab' h s nf n D rd wr := by
  have hd := k.dev.lt
  have hr : s.rp < h.size ∧ s.rg < h.size := by
    obtain ⟨_, _, _, r1, _, _, _, _, r2⟩ := k.row; exact ⟨r1.lt, r2.lt⟩
  refine ⟨k.blk, k.dev, k.fr, k.fl, k.f64, k.mp, k.em, k.row, (a _ k.blk.lt).trans k.l1, (a _ k.fr.lt).trans k.l2, (a _ k.mp.lt).trans k.l3, (a _ hr.1).trans k.l4, (a _ hr.2).trans k.l5, (a _ hd.1).trans k.l6, (a _ hd.2).trans k.l7, fun b hb => ?_⟩
  refine (a b ?_).trans (k.l8 b hb)
  rcases k.em with ⟨q, _⟩ | ⟨g, cap, cur, q1, q2, q3, q4⟩
  · rw [q] at hb; cases hb
  · rw [q1] at hb; cases hb; exact (Array.getElem?_eq_some_iff.1 q3).1
theorem Cok.ext (k : Cok lab h s nf n D rd wr) (e : Ext h h') : Cok lab h' s nf n D rd wr :=
  k.set_dev (k.dev.ext e) e.toM
theorem Cok.set_em (k : Cok lab h s nf n D rd wr) {v' : Value} {em' : List Nat} (hb : Blk h' s.c [ptr s.dp 0, .slice (some ⟨s.fg, 0, none⟩) nf nf, .map (some s.mb), v', ptr s.rp 0]) (d : Ow 0 t_int h' v' (em'.map fun f : Nat => (f : Int)))
    (e : Ex (fun b => lab b = 1 ∨ lab b = 8) h h') (hl : ∀ b, v'.ownBlock = some b → lab b = 8) : Cok lab h' { s with ve := v', em := em' } nf n D rd wr := by
  have no : ∀ {b v : Nat}, lab b = v → v ≠ 1 → v ≠ 8 → ¬ (lab b = 1 ∨ lab b = 8) := fun h1 h2 h3 x => by omega
  exact ⟨hb, k.dev.ex e (no k.l6 (by decide) (by decide)) (no k.l7 (by decide) (by decide)), k.fr.ex e (no k.l2 (by decide) (by decide)), k.fl, k.f64, by
    obtain ⟨es, cl, q1, q2⟩ := k.mp; exact ⟨es, cl, e.get q1 (no k.l3 (by decide) (by decide)), q2⟩, d,
    k.row.ex e (no k.l4 (by decide) (by decide)) (no k.l5 (by decide) (by decide)), k.l1, k.l2, k.l3, k.l4, k.l5, k.l6, k.l7, hl⟩
end
end Go.Sg
