/-
  Part 15 of a proof: own texts, merged by program.
-/
import Derived.Test.YtoahnccffedojaaGreatDoorP14
set_option linter.unusedVariables false
set_option linter.unusedSimpArgs false
/-! Contracts of chain. -/
namespace Go.Sg
open Go Vc
structure Link where
  ahead : Nat
  behind : Nat
  inn : Bool
instance : El Link := ⟨3, fun l => [int l.ahead, int l.behind, .bool l.inn], fun _ => rfl, by decide, fun _ v h => by simp at h; rcases h with rfl | rfl | rfl <;> rfl⟩
theorem T_link : SlT Link t_S_chain_link t_chain_link 24 := ⟨by kernel_rfl, by kernel_rfl⟩
theorem z_link : ∀ i z, Pg.info? t_chain_link = some i → i.zero = some z → z.cells.toList = El.enc (⟨0, 0, false⟩ : Link) := by
  have h : (Pg.info? t_chain_link).bind (fun i => i.zero.map fun z => z.cells.toList) = some [int 0, int 0, .bool false] := by kernel_rfl
  intro i z hi hz
  rw [hi] at h
  simp only [Option.bind_some, hz, Option.map_some, Option.some.injEq] at h
  exact h
/-- A chain's blocks: it itself and its links. -/
abbrev two (p g : Nat) : Nat → Prop := fun b => b = p ∨ b = g
def lnk (be ah : Nat → Nat) (inn : Nat → Bool) : Nat → Link := fun j => ⟨ah j, be j, inn j⟩
structure Chn (g p : Nat) (h : Heap) (n : Nat) (R : List Nat) : Prop where
  pos : 0 < n
  big : n ≤ 4096
  ne : p ≠ g
  blk : Blk h p [.slice (some ⟨g, 0, none⟩) (n + 1) (n + 1), int R.length]
  lks : ∃ be ah inn, Ring n be ah inn R ∧ Own g (n + 1) t_chain_link h (tab (n + 1) (lnk be ah inn))
section
variable {h : Heap} {K : Kt} {g p n i : Nat} {R : List Nat}
theorem Chn.ex {M : Nat → Prop} {h' : Heap} (c : Chn g p h n R) (e : Ex M h h') (h1 : ¬ M p) (h2 : ¬ M g) : Chn g p h' n R := by
  obtain ⟨k1, k2, k3, k4, be, ah, inn, k5, k6⟩ := c
  exact ⟨k1, k2, k3, k4.ex e h1, be, ah, inn, k5, k6.ex e h2⟩
theorem Chn.ext {h' : Heap} (c : Chn g p h n R) (e : Ext h h') : Chn g p h' n R := c.ex e (fun x => x) (fun x => x)
theorem lnk_out {be ah : Nat → Nat} {inn : Nat → Bool} {j : Nat} {v : Nat} : upd (lnk be ah inn) j ⟨ah j, v, inn j⟩ = lnk (upd be j v) ah inn := by
  funext k; by_cases h : k = j
  · subst h; simp [upd, lnk]
  · simp [upd, lnk, h]
theorem lnk_ahd {be ah : Nat → Nat} {inn : Nat → Bool} {j : Nat} {v : Nat} : upd (lnk be ah inn) j ⟨v, be j, inn j⟩ = lnk be (upd ah j v) inn := by
  funext k; by_cases h : k = j
  · subst h; simp [upd, lnk]
  · simp [upd, lnk, h]
theorem lnk_all {be ah : Nat → Nat} {inn : Nat → Bool} {j : Nat} {u v : Nat} {x : Bool} : upd (lnk be ah inn) j ⟨u, v, x⟩ = lnk (upd be j v) (upd ah j u) (upd inn j x) := by
  funext k; by_cases h : k = j
  · subst h; simp [upd, lnk]
  · simp [upd, lnk, h]
theorem nodup_le : ∀ (n : Nat) (R : List Nat), R.Nodup → (∀ x ∈ R, x < n) → R.length ≤ n
  | 0, R, _, h => by
    cases R with
    | nil => simp
    | cons a R => have := h a (by simp); omega
  | n + 1, R, hn, h => by
    by_cases hm : n ∈ R
    · have := nodup_le n (R.erase n) (hn.erase n) (fun x hx => by
        rw [hn.mem_erase_iff] at hx
        have := h x hx.2; omega)
      rw [List.length_erase_of_mem hm] at this; omega
    · have := nodup_le n R hn (fun x hx => by
        have h1 := h x hx
        have : x ≠ n := fun e => hm (e ▸ hx)
        omega)
      omega
theorem c_chain_root (c : Chn g p h n R) (r : K (int n) h) : Ca f_chain_Chain_root #[ptr p 0] h K := by
  refine m_chain_Chain_root_ok (fl (by rw [c.blk.get]; rfl) ?_)
  rw [LenP_slice]
  have := c.big
  refine sub64 (by omega) ?_
  have e : ((n + 1 : Nat) : Int) - 1 = n := by omega
  rw [e]; exact r
theorem c_chain_there (c : Chn g p h n R) (hi : i < n) (r : K (int 0) h) : Ca f_chain_Chain_there #[ptr p 0, int i] h K := by
  refine m_chain_Chain_there_ok (eq_ptr_nil (by kernel_rfl) (fl (by rw [c.blk.get]; rfl) ?_))
  rw [LenP_slice, BiP_eql]
  unfold m_chain_Chain_there_j12
  refine cdp (fun h => absurd h (by omega)) fun _ => ?_
  rw [BiP_lss]
  refine cdp (fun h => absurd h (by omega)) fun _ => ?_
  refine c_chain_root c ?_
  rw [BiP_geq]
  unfold m_chain_Chain_there_j20
  exact cdp (fun h => absurd h (by omega)) fun _ => r
theorem c_chain_out (c : Chn g p h n R) (hi : i < n) (r : ∀ h', Chn g p h' n (R.erase i) → Ex (two p g) h h' → K (.tuple #[]) h') : Ca f_chain_Chain_out #[ptr p 0, int i] h K := by
  refine m_chain_Chain_out_ok (fl (by rw [c.blk.get]; rfl) ?_)
  have c0 := c
  obtain ⟨k1, k2, k3, k4, be, ah, inn, k5, k6⟩ := c
  have hpl := k4.lt
  have hgl := k6.lt
  refine (k6.rd (by rw [tab_length]) (Nat.le_refl _)).ea (i := (i : Int)) (x := lnk be ah inn i) (by omega) (by rw [Int.toNat_natCast]; exact tab_get (by omega)) ?_
  refine alst (vs := El.enc (lnk be ah inn i)) rfl rfl rfl fun b h1 e1 hb kb _ => ?_
  have k4a := k4.ext e1
  have k6a := k6.ext e1
  refine fv (by rw [kb.get]; rfl) ?_
  rw [UnP_not]
  show CdP (.bool !inn i) _ _
  refine cd (fun hx => ?_) (fun hx => ?_)
  · have hx : inn i = false := by simpa using hx
    have hm : i ∉ R := fun hm => by rw [(k5.is i (by omega)).2 hm] at hx; cases hx
    rw [List.erase_of_not_mem hm] at r
    exact r h1 (c0.ext e1) e1.toM
  · have hx : inn i = true := by simpa using hx
    have hm : i ∈ R := (k5.is i (by omega)).1 hx
    obtain ⟨q1, q2, q3, q4, q5⟩ := ring_out k5 hm
    refine fl (by rw [k4a.get]; rfl) ?_
    refine fv (by rw [kb.get]; rfl) (fv (by rw [kb.get]; rfl) ?_)
    show IxP 3 _ (.int .i64 ((ah i : Nat) : Int)) fun x19 => FaP (some 1) x19 fun x20 => StP x20 (int (be i)) h1 _
    refine own_setf (f := 1) (a := lnk be ah inn (ah i)) (a' := ⟨ah (ah i), be i, inn (ah i)⟩) rfl k6a (by rw [tab_length]) (tab_get (by omega)) (by decide) rfl rfl fun h2 o2 e2 => ⟨trivial, ?_⟩
    rw [tab_set, lnk_out] at o2
    have k4b := k4a.ex e2 k3
    have kb2 := kb.ex e2 (by omega)
    refine fl (by rw [k4b.get]; rfl) (fv (by rw [kb2.get]; rfl) (fv (by rw [kb2.get]; rfl) ?_))
    show IxP 3 _ (.int .i64 ((be i : Nat) : Int)) fun x19 => FaP (some 0) x19 fun x20 => StP x20 (int (ah i)) h2 _
    refine own_setf (f := 0) (a := lnk (upd be (ah i) (be i)) ah inn (be i)) (a' := ⟨ah i, upd be (ah i) (be i) (be i), inn (be i)⟩) rfl o2 (by rw [tab_length]) (tab_get (by omega)) (by decide) rfl rfl fun h3 o3 e3 => ⟨trivial, ?_⟩
    rw [tab_set, lnk_ahd] at o3
    have k4c := k4b.ex e3 k3
    refine fl (by rw [k4c.get]; rfl) ?_
    refine ⟨_, _, rfl, rfl, ?_⟩
    refine own_set (a' := (⟨0, 0, false⟩ : Link)) (vs := [int 0, int 0, .bool false]) rfl rfl rfl o3 (by rw [tab_length]) (by rw [tab_length]; omega) fun h4 o4 e4 => ?_
    rw [tab_set, lnk_all] at o4
    have k4d := k4c.ex e4 k3
    have hlen : 0 < R.length := List.length_pos_of_mem hm
    have hR := q5.nd
    have hRl : R.length ≤ 4096 + 1 := by
      have h1 := nodup_le n R k5.nd k5.lt
      omega
    refine fl (by rw [k4d.get]; rfl) (sub64 (by omega) ?_)
    refine Fs_b k4d (by simp) rfl fun h5 _ e5 k5' => ?_
    refine r h5 ⟨k1, k2, k3, ?_, _, _, _, q5, o4.ex e5 (Ne.symm k3)⟩ ?_
    · have e : ((R.length : Nat) : Int) - 1 = ((R.erase i).length : Nat) := by rw [List.length_erase_of_mem hm]; omega
      rw [e] at k5'; exact k5'
    · exact (((e1.toM.trans (e2.mono fun _ _ h => .inr h)).trans (e3.mono fun _ _ h => .inr h)).trans (e4.mono fun _ _ h => .inr h)).trans (e5.mono fun _ _ h => .inl h)
theorem c_chain_put (c : Chn g p h n R) (hi : i < n) (hm : i ∉ R) (r : ∀ h', Chn g p h' n (i :: R) → Ex (two p g) h h' → K (.tuple #[]) h') : Ca f_chain_Chain_put #[ptr p 0, int i, int n] h K := by
  refine m_chain_Chain_put_ok (fl (by rw [c.blk.get]; rfl) ?_)
  obtain ⟨k1, k2, k3, k4, be, ah, inn, k5, k6⟩ := c
  have hpl := k4.lt
  have hgl := k6.lt
  obtain ⟨q1, q2, q3⟩ := ring_put k5 hm hi
  refine (k6.rd (by rw [tab_length]) (Nat.le_refl _)).ef (f := 1) (w := int (be n)) (i := (n : Int)) (x := lnk be ah inn n) (by omega) (by rw [Int.toNat_natCast]; exact tab_get (by omega)) rfl ?_
  refine fl (by rw [k4.get]; rfl) ?_
  refine ⟨_, #[int n, int (be n), .bool true], rfl, rfl, ?_⟩
  refine own_set (a' := (⟨n, be n, true⟩ : Link)) (vs := [int n, int (be n), .bool true]) rfl rfl rfl k6 (by rw [tab_length]) (by rw [tab_length]; omega) fun h2 o2 e2 => ?_
  rw [tab_set, lnk_all] at o2
  have k4b := k4.ex e2 k3
  refine fl (by rw [k4b.get]; rfl) ?_
  refine own_setf (f := 1) (a := lnk (upd be i (be n)) (upd ah i n) (upd inn i true) n) (a' := ⟨upd ah i n n, i, upd inn i true n⟩) rfl o2 (by rw [tab_length]) (tab_get (by omega)) (by decide) rfl rfl fun h3 o3 e3 => ?_
  rw [tab_set, lnk_out] at o3
  have k4c := k4b.ex e3 k3
  refine fl (by rw [k4c.get]; rfl) ?_
  refine own_setf (f := 0) (a := lnk (upd (upd be i (be n)) n i) (upd ah i n) (upd inn i true) (be n)) (a' := ⟨i, upd (upd be i (be n)) n i (be n), upd inn i true (be n)⟩) rfl o3 (by rw [tab_length]) (tab_get (by omega)) (by decide) rfl rfl fun h4 o4 e4 => ?_
  rw [tab_set, lnk_ahd] at o4
  have k4d := k4c.ex e4 k3
  have hRl : R.length ≤ 4096 + 1 := by
    have h1 := nodup_le n R k5.nd k5.lt
    omega
  refine fl (by rw [k4d.get]; rfl) (add64 (by omega) ?_)
  refine Fs_b k4d (by simp) rfl fun h5 _ e5 k5' => ?_
  refine r h5 ⟨k1, k2, k3, ?_, _, _, _, q3, o4.ex e5 (Ne.symm k3)⟩ ?_
  · have e : ((R.length : Nat) : Int) + 1 = ((i :: R).length : Nat) := by simp
    rw [e] at k5'; exact k5'
  · exact ((((e2.mono fun _ _ h => .inr h).trans (e3.mono fun _ _ h => .inr h)).trans (e4.mono fun _ _ h => .inr h))).trans (e5.mono fun _ _ h => .inl h)
theorem Chn.nd (c : Chn g p h n R) : R.Nodup := by obtain ⟨k1, k2, k3, k4, be, ah, inn, k5, k6⟩ := c; exact k5.nd
theorem Chn.lt (c : Chn g p h n R) : ∀ i ∈ R, i < n := by obtain ⟨k1, k2, k3, k4, be, ah, inn, k5, k6⟩ := c; exact k5.lt
theorem c_chain_Front (c : Chn g p h n R) (hi : i < n) (r : ∀ h', Chn g p h' n (i :: R.erase i) → Ex (two p g) h h' → K (int 0) h') : Ca f_chain_Chain_Front #[ptr p 0, int i] h K := by
  refine m_chain_Chain_Front_ok (c_chain_there c hi ?_)
  rw [BiP_eql]
  refine cdp (fun _ => ?_) fun h => absurd rfl h
  refine c_chain_out c hi fun h1 c1 e1 => c_chain_root c1 ?_
  refine c_chain_put c1 hi (fun hm => by have := c.nd; rw [this.mem_erase_iff] at hm; exact hm.1 rfl) fun h2 c2 e2 => ?_
  exact r h2 c2 (e1.trans e2)
theorem c_chain_Cut (c : Chn g p h n R) (hi : i < n) (r : ∀ h' v, Chn g p h' n (R.erase i) → Ex (two p g) h h' → K (int v) h') : Ca f_chain_Chain_Cut #[ptr p 0, int i] h K := by
  refine m_chain_Chain_Cut_ok (c_chain_there c hi ?_)
  rw [BiP_neq]
  refine cdp (fun h => absurd rfl h) fun _ => ?_
  refine fl (by rw [c.blk.get]; rfl) ?_
  have c0 := c
  obtain ⟨k1, k2, k3, k4, be, ah, inn, k5, k6⟩ := c
  refine (k6.rd (by rw [tab_length]) (Nat.le_refl _)).ef (f := 2) (w := .bool (inn i)) (i := (i : Int)) (x := lnk be ah inn i) (by omega) (by rw [Int.toNat_natCast]; exact tab_get (by omega)) rfl ?_
  rw [UnP_not]
  refine cd (fun hx => ?_) (fun hx => ?_)
  · have hx : inn i = false := by simpa using hx
    have hm : i ∉ R := fun hm => by rw [(k5.is i (by omega)).2 hm] at hx; cases hx
    rw [List.erase_of_not_mem hm] at r
    exact r h 9 c0 (Ex.refl _ _)
  · exact c_chain_out c0 hi fun h1 c1 e1 => r h1 0 c1 e1
theorem c_chain_Len (c : Chn g p h n R) (r : K (int R.length) h) : Ca f_chain_Chain_Len #[ptr p 0] h K :=
  m_chain_Chain_Len_ok (eq_ptr_nil (by kernel_rfl) (fl (by rw [c.blk.get]; rfl) r))
theorem c_chain_Last (c : Chn g p h n R) (r0 : R = [] → K (.tuple #[int 0, .bool false]) h) (r1 : ∀ P i, R = P ++ [i] → K (.tuple #[int (i : Nat), .bool true]) h) : Ca f_chain_Chain_Last #[ptr p 0] h K := by
  refine m_chain_Chain_Last_ok (c_chain_Len c ?_)
  rw [BiP_eql]
  refine cdp (fun hz => r0 (List.eq_nil_of_length_eq_zero (by omega))) fun hz => ?_
  have c0 := c
  obtain ⟨k1, k2, k3, k4, be, ah, inn, k5, k6⟩ := c
  refine ⟨fun b' _ => b' = p ∨ b' = g, ?_⟩
  rw [NilP_ptr, FaP_ptr]
  refine LdX_b (cs := _) k4 rfl (fun _ => .inl rfl) ?_
  refine c_chain_root c0 ⟨fun _ _ _ => rfl, ?_⟩
  obtain ⟨P, hP⟩ := ring_last k5
  have hcell : hget h g (0 + ((n : Nat) : Int).toNat * 3) = some (int (ah n)) := by
    refine k6.at ?_
    have := cells_get (l := tab (n + 1) (lnk be ah inn)) (i := n) (a := lnk be ah inn n) (tab_get (by omega)) 0 (by decide)
    have hz : El.z Link = 3 := rfl
    rw [hz] at this
    rw [Nat.zero_add, Int.toNat_natCast]
    exact this
  refine ⟨g, 0, n + 1, n + 1, .i64, n, rfl, rfl, by omega, by omega, ?_⟩
  refine FaP_ptr.2 ?_
  refine ⟨g, _, _, rfl, .inr rfl, hcell, ?_⟩
  cases P with
  | nil => simp only [List.nil_append, List.cons.injEq] at hP; rw [hP.2] at hz; exact absurd rfl hz
  | cons a P => simp only [List.cons_append, List.cons.injEq] at hP; exact r1 P (ah n) hP.2
theorem c_chain_New (h0 : 0 < n) (hn : n ≤ 4096) (r : ∀ g p h', h.size ≤ g → h.size ≤ p → Chn g p h' n [] → Ext h h' → K (.tuple #[ptr p 0, int 0]) h') : Ca f_chain_New #[int n] h K := by
  refine m_chain_New_ok ?_
  unfold m_chain_New
  rw [BiP_lss]
  refine cdp (fun h => absurd h (by omega)) fun _ => ?_
  rw [BiP_gtr]
  unfold m_chain_New_j7
  refine cdp (fun h => absurd h (by omega)) fun _ => ?_
  refine add64 (by omega) ?_
  have e : ((n : Nat) : Int) + 1 = ((n + 1 : Nat) : Int) := by omega
  rw [e]
  refine mkn (n0 := h.size) T_link z_link (Nat.le_refl _) (by show (n + 1) * 3 ≤ _; omega) (by decide) fun g h1 hg o1 e1 => ?_
  refine ⟨_, #[.slice (some ⟨g, 0, none⟩) (n + 1) (n + 1), int 0], rfl, rfl, ?_⟩
  refine bxa (cs := [.slice (some ⟨g, 0, none⟩) (n + 1) (n + 1), int 0]) fun b h2 e2 hb k2 _ => ?_
  have hgl := o1.lt
  have o2 := o1.ext e2
  refine fl (by rw [k2.get]; rfl) ?_
  refine ⟨_, #[int n, int n, .bool false], rfl, rfl, ?_⟩
  refine own_set (a' := (⟨n, n, false⟩ : Link)) (vs := [int n, int n, .bool false]) rfl rfl rfl o2 (by simp) (by simp) fun h3 o3 e3 => ?_
  rw [tab_rep, tab_set] at o3
  have hl : upd (fun _ => (⟨0, 0, false⟩ : Link)) n ⟨n, n, false⟩ = lnk (upd (fun _ => 0) n n) (upd (fun _ => 0) n n) (fun _ => false) := by
    funext k; by_cases h : k = n
    · subst h; simp [upd, lnk]
    · simp [upd, lnk, h]
  rw [hl] at o3
  have e12 : Ext h h2 := e1.trans e2
  refine r g b h3 (by omega) (by have := e1.le; omega) ⟨h0, hn, by omega, k2.ex e3 (by omega), _, _, _, ring_new upd_same upd_same (fun _ => rfl), o3⟩ (e12.andThen e3 fun x hx => by omega)
end
end Go.Sg
/-! Words of 64 digits. -/
namespace Go.Sg
open Go Vc
instance : El (BitVec 64) := ⟨1, fun w => [.int .u64 (w.toNat : Int)], fun _ => rfl, by decide, fun _ v h => by simp at h; subst h; rfl⟩
theorem T_u64 : SlT (BitVec 64) t_S_uint64 t_uint64 8 := ⟨by kernel_rfl, by kernel_rfl⟩
theorem z_u64 : ∀ i z, Pg.info? t_uint64 = some i → i.zero = some z → z.cells.toList = El.enc (0#64 : BitVec 64) := by
  have h : (Pg.info? t_uint64).bind (fun i => i.zero.map fun z => z.cells.toList) = some [.int .u64 0] := by kernel_rfl
  intro i z hi hz
  rw [hi] at h
  simp only [Option.bind_some, hz, Option.map_some, Option.some.injEq] at h
  exact h
abbrev w64 (x : BitVec 64) : Value := .int .u64 (x.toNat : Int)
section
variable {K : Value → Prop} {a b : BitVec 64}
theorem of64 (a : BitVec 64) : BitVec.ofInt 64 (a.toNat : Int) = a := by
  apply BitVec.eq_of_toNat_eq
  rw [BitVec.toNat_ofInt]
  have := a.isLt
  omega
theorem wrapU64 (n : Int) : IntKind.wrap .u64 n = n % 18446744073709551616 := by
  simp only [IntKind.wrap, IntKind.signed, IntKind.bits, Bool.false_and]
  simp
theorem wrap_w (x : BitVec 64) : IntKind.wrap .u64 (x.toNat : Int) = x.toNat := by
  rw [wrapU64]; have := x.isLt; omega
theorem bv_and : BiP .and (w64 a) (w64 b) K ↔ K (w64 (a &&& b)) := by
  simp only [BiP, binVal, ne_eq, not_true_eq_false, if_false, Option.some.injEq, exists_eq_left']
  show K (.int .u64 (IntKind.wrap .u64 ((BitVec.ofInt 64 _ &&& BitVec.ofInt 64 _).toNat : Int))) ↔ _
  rw [of64, of64, wrap_w]
theorem bv_or : BiP .or (w64 a) (w64 b) K ↔ K (w64 (a ||| b)) := by
  simp only [BiP, binVal, ne_eq, not_true_eq_false, if_false, Option.some.injEq, exists_eq_left']
  show K (.int .u64 (IntKind.wrap .u64 ((BitVec.ofInt 64 _ ||| BitVec.ofInt 64 _).toNat : Int))) ↔ _
  rw [of64, of64, wrap_w]
theorem bv_xor : BiP .xor (w64 a) (w64 b) K ↔ K (w64 (a ^^^ b)) := by
  simp only [BiP, binVal, ne_eq, not_true_eq_false, if_false, Option.some.injEq, exists_eq_left']
  show K (.int .u64 (IntKind.wrap .u64 ((BitVec.ofInt 64 _ ^^^ BitVec.ofInt 64 _).toNat : Int))) ↔ _
  rw [of64, of64, wrap_w]
theorem bv_andNot : BiP .andNot (w64 a) (w64 b) K ↔ K (w64 (a &&& ~~~b)) := by
  simp only [BiP, binVal, ne_eq, not_true_eq_false, if_false, Option.some.injEq, exists_eq_left']
  show K (.int .u64 (IntKind.wrap .u64 ((BitVec.ofInt 64 _ &&& ~~~BitVec.ofInt 64 _).toNat : Int))) ↔ _
  rw [of64, of64, wrap_w]
theorem bv_mul : BiP .mul (w64 a) (w64 b) K ↔ K (w64 (a * b)) := by
  have : IntKind.wrap .u64 ((a.toNat : Int) * b.toNat) = ((a * b).toNat : Int) := by
    rw [wrapU64, BitVec.toNat_mul]; simp
  simp only [BiP, binVal, ne_eq, not_true_eq_false, if_false, Option.some.injEq, exists_eq_left', this]
theorem bv_add : BiP .add (w64 a) (w64 b) K ↔ K (w64 (a + b)) := by
  have : IntKind.wrap .u64 ((a.toNat : Int) + b.toNat) = ((a + b).toNat : Int) := by
    rw [wrapU64, BitVec.toNat_add]; simp
  simp only [BiP, binVal, ne_eq, not_true_eq_false, if_false, Option.some.injEq, exists_eq_left', this]
theorem bv_sub : BiP .sub (w64 a) (w64 b) K ↔ K (w64 (a - b)) := by
  have : IntKind.wrap .u64 ((a.toNat : Int) - b.toNat) = ((a - b).toNat : Int) := by
    rw [wrapU64, BitVec.toNat_sub]
    have := a.isLt; have := b.isLt
    omega
  simp only [BiP, binVal, ne_eq, not_true_eq_false, if_false, Option.some.injEq, exists_eq_left', this]
theorem bv_neg : UnP .neg (w64 a) K ↔ K (w64 (-a)) := by
  have : IntKind.wrap .u64 (0 - (a.toNat : Int)) = ((-a).toNat : Int) := by
    rw [wrapU64, BitVec.toNat_neg]
    have := a.isLt
    omega
  simp only [UnP, unVal, Option.some.injEq, exists_eq_left', this]
theorem bv_shl {n : Nat} {k} (hn : n < 64) : BiP .shl (w64 a) (.int k (n : Int)) K ↔ K (w64 (a <<< n)) := by
  have hm : min n 64 = n := by omega
  have h64 : IntKind.bits .u64 = 64 := rfl
  have : IntKind.wrap .u64 ((a.toNat : Int) * 2 ^ n) = ((a <<< n).toNat : Int) := by
    rw [wrapU64, BitVec.toNat_shiftLeft, Nat.shiftLeft_eq]
    simp
  have hc : ¬ ((n : Int) < 0) := by omega
  simp only [BiP, binVal, hc, if_false, Int.toNat_natCast, h64, hm, Option.some.injEq, exists_eq_left', this]
theorem bv_shr {n : Nat} {k} (hn : n < 64) : BiP .shr (w64 a) (.int k (n : Int)) K ↔ K (w64 (a >>> n)) := by
  have hm : min n 64 = n := by omega
  have h64 : IntKind.bits .u64 = 64 := rfl
  have : (a.toNat : Int).fdiv (2 ^ n) = ((a >>> n).toNat : Int) := by
    rw [BitVec.toNat_ushiftRight, Nat.shiftRight_eq_div_pow, Int.fdiv_eq_ediv_of_nonneg _ (by exact Int.pow_nonneg (by omega))]
    simp
  have hc : ¬ ((n : Int) < 0) := by omega
  simp only [BiP, binVal, hc, if_false, Int.toNat_natCast, h64, hm, Option.some.injEq, exists_eq_left', this]
theorem w64_inj : ((a.toNat : Int) = b.toNat) ↔ a = b := ⟨fun h => BitVec.eq_of_toNat_eq (by omega), fun h => by rw [h]⟩
end
/-! The lowest digit. -/
theorem low_digit {x : BitVec 64} (hx : x ≠ 0#64) : ∃ k, k < 64 ∧ x.getLsbD k = true ∧ (∀ j, j < k → x.getLsbD j = false) ∧ x &&& -x = BitVec.twoPow 64 k := by
  have hex : ∃ k, x.getLsbD k = true := by
    refine Classical.byContradiction fun hc => hx ?_
    apply BitVec.eq_of_getLsbD_eq
    intro i _
    cases h : x.getLsbD i with
    | false => simp
    | true => exact absurd ⟨i, h⟩ hc
  obtain ⟨k0, hk0⟩ := hex
  obtain ⟨k, hk, hmin⟩ := Go.Sg.least (fun k => x.getLsbD k = true) (fun k => k) k0 ⟨k0, hk0, Nat.le_refl _⟩
  have hk64 : k < 64 := by
    refine Classical.byContradiction fun hc => ?_
    rw [BitVec.getLsbD_of_ge _ _ (by omega)] at hk; cases hk
  have hlow : ∀ j, j < k → x.getLsbD j = false := fun j hj => by
    cases h : x.getLsbD j with
    | false => rfl
    | true => have := hmin j h; omega
  refine ⟨k, hk64, hk, hlow, ?_⟩
  apply BitVec.eq_of_getLsbD_eq
  intro i hi
  rw [BitVec.getLsbD_and, BitVec.getLsbD_neg, BitVec.getLsbD_twoPow]
  by_cases h1 : i < k
  · rw [hlow i h1]; simp; omega
  · by_cases h2 : i = k
    · subst h2
      have : ¬ ∃ j, j < i ∧ x.getLsbD j = true := fun ⟨j, h3, h4⟩ => by rw [hlow j h3] at h4; cases h4
      simp [hk, hi, this]
    · have h3 : ∃ j, j < i ∧ x.getLsbD j = true := ⟨k, by omega, hk⟩
      have h4 : ¬ k = i := fun e => h2 e.symm
      simp [h3, h4, hi]
def tzTab : List Nat := [0, 1, 56, 2, 57, 49, 28, 3, 61, 58, 42, 50, 38, 29, 17, 4, 62, 47, 59, 36, 45, 43, 51, 22, 53, 39, 33, 30, 24, 18, 12, 5, 63, 55, 48, 27, 60, 41, 37, 16, 46, 35, 44, 21, 52, 32, 23, 11, 54, 26, 40, 15, 34, 20, 31, 10, 25, 14, 19, 9, 13, 8, 7, 6]
theorem tz_tab : ∀ k : Fin 64, tzTab[(2 ^ k.1 * 285870213051353865 % 18446744073709551616) >>> 58]? = some k.1 := by decide
/-- The block of the table. -/
abbrev gTab : Nat := 1
/-- The table lies where the code looks for it. -/
structure Tz (h : Heap) : Prop where
  lt : gTab < h.size
  at_ : ∀ (j v : Nat), tzTab[j]? = some v → hget h gTab j = some (.int .u8 (v : Int))
theorem Tz.ex {M : Nat → Prop} {h h' : Heap} (t : Tz h) (e : Ex M h h') (hm : ¬ M gTab) : Tz h' :=
  ⟨Nat.lt_of_lt_of_le t.lt e.le, fun j v hj => by rw [hget_eq (e.eq _ t.lt hm)]; exact t.at_ j v hj⟩
theorem Tz.ext {h h' : Heap} (t : Tz h) (e : Ext h h') : Tz h' := t.ex e fun x => x
theorem c_tz {h : Heap} {K : Kt} {x : BitVec 64} (t : Tz h) (hx : x ≠ 0#64) (r : ∀ k : Nat, k < 64 → x.getLsbD k = true → (∀ j, j < k → x.getLsbD j = false) → K (int k) h) : Ca f_bits_TrailingZeros64 #[w64 x] h K := by
  obtain ⟨k, h1, h2, h3, h4⟩ := low_digit hx
  refine m_bits_TrailingZeros64_ok ?_
  unfold m_bits_TrailingZeros64
  rw [BiP_eql]
  refine cdp (fun h => absurd ((w64_inj (b := 0#64)).1 h) hx) fun _ => ?_
  rw [bv_neg, bv_and, h4]
  show BiP .mul (w64 _) (w64 285870213051353865#64) _
  rw [bv_mul]
  show BiP .shr _ (.int .u64 ((58 : Nat) : Int)) _
  rw [bv_shr (by omega)]
  have hk := tz_tab ⟨k, h1⟩
  simp only at hk
  have hto : ((BitVec.twoPow 64 k * 285870213051353865#64) >>> 58).toNat = (2 ^ k * 285870213051353865 % 18446744073709551616) >>> 58 := by
    rw [BitVec.toNat_ushiftRight, BitVec.toNat_mul, BitVec.toNat_twoPow, Nat.mod_eq_of_lt (Nat.pow_lt_pow_right (by omega) h1)]
    rfl
  rw [← hto] at hk
  have hlt : ((BitVec.twoPow 64 k * 285870213051353865#64) >>> 58).toNat < 64 := (List.getElem?_eq_some_iff.1 hk).1
  obtain ⟨m, hm⟩ : ∃ m, m = ((BitVec.twoPow 64 k * 285870213051353865#64) >>> 58).toNat := ⟨_, rfl⟩
  rw [← hm] at hk hlt
  have hv : w64 ((BitVec.twoPow 64 k * 285870213051353865#64) >>> 58) = .int .u64 (m : Int) := by rw [hm]
  rw [hv]
  refine ⟨gTab, 0, .u64, m, rfl, rfl, by omega, by omega, ?_⟩
  refine ld (t.at_ _ k (by simpa using hk)) ?_
  rw [CvP_int, wrap64 (by omega) (by omega)]
  exact r k h1 h2 h3
end Go.Sg
/-! Contracts of bits. -/
namespace Go.Sg
open Go Vc
def nw (n : Nat) : Nat := (n + 63) / 64
def bitAt (f : Nat → BitVec 64) (i : Nat) : Bool := (f (i / 64)).getLsbD (i % 64)
structure Brw (g p : Nat) (h : Heap) (n : Nat) (S : Nat → Bool) : Prop where
  pos : 0 < n
  big : n ≤ 65536
  ne : p ≠ g
  blk : Blk h p [int n, int ((List.range n).countP S : Nat), .slice (some ⟨g, 0, none⟩) (nw n) (nw n)]
  wds : ∃ f, Own g (nw n) t_uint64 h (tab (nw n) f) ∧ ∀ i, i < n → S i = bitAt f i
section
variable {h : Heap} {K : Kt} {g p n i : Nat} {S : Nat → Bool}
theorem Brw.ex {M : Nat → Prop} {h' : Heap} (c : Brw g p h n S) (e : Ex M h h') (h1 : ¬ M p) (h2 : ¬ M g) : Brw g p h' n S := by
  obtain ⟨k1, k2, k3, k4, f, k5, k6⟩ := c
  exact ⟨k1, k2, k3, k4.ex e h1, f, k5.ex e h2, k6⟩
theorem Brw.ext {h' : Heap} (c : Brw g p h n S) (e : Ext h h') : Brw g p h' n S := c.ex e (fun x => x) (fun x => x)
theorem Brw.lt (c : Brw g p h n S) : p < h.size ∧ g < h.size := by
  obtain ⟨k1, k2, k3, k4, f, k5, k6⟩ := c
  exact ⟨k4.lt, k5.lt⟩
theorem count_le (c : Nat) : (List.range n).countP S ≤ n := by
  have := List.countP_le_length (p := S) (l := List.range n)
  simpa using this
theorem c_bits_Len (c : Brw g p h n S) (r : K (int n) h) : Ca f_bits_Row_Len #[ptr p 0] h K :=
  m_bits_Row_Len_ok (eq_ptr_nil (by kernel_rfl) (fl (by rw [c.blk.get]; rfl) r))
theorem c_bits_Count (c : Brw g p h n S) (r : K (int ((List.range n).countP S : Nat)) h) : Ca f_bits_Row_Count #[ptr p 0] h K :=
  m_bits_Row_Count_ok (eq_ptr_nil (by kernel_rfl) (fl (by rw [c.blk.get]; rfl) r))
theorem c_bits_there (c : Brw g p h n S) (hi : i < n) (r : K (int 0) h) : Ca f_bits_Row_there #[ptr p 0, int i] h K := by
  refine m_bits_Row_there_ok (c_bits_Len c ?_)
  have := c.pos
  rw [BiP_eql]
  refine cdp (fun h => absurd h (by omega)) fun _ => ?_
  rw [BiP_lss]
  refine cdp (fun h => absurd h (by omega)) fun _ => ?_
  refine fl (by rw [c.blk.get]; rfl) ?_
  rw [BiP_geq]
  unfold m_bits_Row_there_j13
  exact cdp (fun h => absurd h (by omega)) fun _ => r
theorem qn (i : Nat) : (i : Int).tdiv 64 = ((i / 64 : Nat) : Int) := rfl
theorem rn (i : Nat) : (i : Int).tmod 64 = ((i % 64 : Nat) : Int) := rfl
theorem bit_test {w : BitVec 64} {m : Nat} : decide (((w >>> m &&& 1#64).toNat : Int) = 1) = w.getLsbD m := by
  have h1 : (w >>> m &&& 1#64).toNat = w.toNat / 2 ^ m % 2 := by
    rw [BitVec.toNat_and, BitVec.toNat_ushiftRight, Nat.shiftRight_eq_div_pow]
    exact Nat.and_one_is_mod _
  rw [BitVec.getLsbD, Nat.testBit_eq_decide_div_mod_eq, h1]
  apply decide_eq_decide.2
  omega
theorem nw_lt (hi : i < n) : i / 64 < nw n := by unfold nw; omega
theorem c_bits_Has (c : Brw g p h n S) (hi : i < n) (r : K (.bool (S i)) h) : Ca f_bits_Row_Has #[ptr p 0, int i] h K := by
  refine m_bits_Row_Has_ok (c_bits_there c hi ?_)
  have hb := c.big
  rw [BiP_eql]
  refine cdp (fun _ => ?_) fun h => absurd rfl h
  obtain ⟨k1, k2, k3, k4, f, k5, k6⟩ := c
  refine fl (by rw [k4.get]; rfl) (quo64 (by omega) (by rw [qn]; omega) ?_)
  rw [qn]
  refine (k5.rd (by rw [tab_length]) (Nat.le_refl _)).ei (x := f (i / 64)) (by omega) (by rw [Int.toNat_natCast]; exact tab_get (nw_lt hi)) rfl ?_
  refine rem64 (by omega) ?_
  rw [rn]
  show BiP .shr (w64 (f (i / 64))) (int (i % 64 : Nat)) _
  rw [bv_shr (by omega)]
  show BiP .and (w64 _) (w64 1#64) _
  rw [bv_and]
  show BiP .eql (w64 _) (.int .u64 1) _
  rw [BiP_eql, bit_test]
  unfold m_bits_Row_Has_j17
  have := k6 i hi
  unfold bitAt at this
  rw [← this]; exact r
theorem bitAt_set {f : Nat → BitVec 64} {i j : Nat} : bitAt (upd f (i / 64) (f (i / 64) ||| (1#64 <<< (i % 64)))) j = (bitAt f j || decide (j = i)) := by
  unfold bitAt
  by_cases hd : j / 64 = i / 64
  · rw [hd, upd_same, BitVec.getLsbD_or]
    have : (1#64 <<< (i % 64)) = BitVec.twoPow 64 (i % 64) := (BitVec.twoPow_eq ..).symm
    rw [this, BitVec.getLsbD_twoPow]
    have h1 : i % 64 < 64 := Nat.mod_lt _ (by omega)
    by_cases hm : j % 64 = i % 64
    · have : j = i := by omega
      subst this; simp [h1]
    · have h2 : j ≠ i := fun e => hm (by rw [e])
      have h3 : ¬ i % 64 = j % 64 := fun e => hm e.symm
      simp [h2, h3]
  · rw [upd_ne hd]
    have h2 : j ≠ i := fun e => hd (by rw [e])
    simp [h2]
theorem bitAt_clear {f : Nat → BitVec 64} {i j : Nat} : bitAt (upd f (i / 64) (f (i / 64) &&& ~~~(1#64 <<< (i % 64)))) j = (bitAt f j && decide (j ≠ i)) := by
  unfold bitAt
  have hj64 : j % 64 < 64 := Nat.mod_lt _ (by omega)
  by_cases hd : j / 64 = i / 64
  · rw [hd, upd_same, BitVec.getLsbD_and, BitVec.getLsbD_not]
    have : (1#64 <<< (i % 64)) = BitVec.twoPow 64 (i % 64) := (BitVec.twoPow_eq ..).symm
    rw [this, BitVec.getLsbD_twoPow]
    have h1 : i % 64 < 64 := Nat.mod_lt _ (by omega)
    by_cases hm : j % 64 = i % 64
    · have : j = i := by omega
      subst this; simp [h1]
    · have h2 : j ≠ i := fun e => hm (by rw [e])
      have h3 : ¬ i % 64 = j % 64 := fun e => hm e.symm
      simp [h2, h3, hj64]
  · rw [upd_ne hd]
    have h2 : j ≠ i := fun e => hd (by rw [e])
    simp [h2]
theorem count_upd {i : Nat} : ∀ n, i < n → ∀ v : Bool, (List.range n).countP (upd S i v) + (if S i then 1 else 0) = (List.range n).countP S + (if v then 1 else 0) := by
  intro n
  induction n with
  | zero => intro h; omega
  | succ n ih =>
    intro hi v
    rw [List.range_succ, List.countP_append, List.countP_append]
    by_cases hn : i = n
    · subst hn
      have : (List.range i).countP (upd S i v) = (List.range i).countP S := by
        apply List.countP_congr
        intro x hx
        rw [List.mem_range] at hx
        rw [upd_ne (by omega)]
      rw [this]
      simp [upd_same, List.countP_cons]
      omega
    · have := ih (by omega) v
      have h2 : List.countP (upd S i v) [n] = List.countP S [n] := by
        simp [List.countP_cons, upd_ne (Ne.symm hn)]
      rw [h2]; omega
theorem c_bits_Set (c : Brw g p h n S) (hi : i < n) (hs : S i = false) (r : ∀ h', Brw g p h' n (upd S i true) → Ex (two p g) h h' → K (int 0) h') : Ca f_bits_Row_Set #[ptr p 0, int i] h K := by
  refine m_bits_Row_Set_ok (c_bits_there c hi ?_)
  have hb := c.big
  rw [BiP_neq]
  refine cdp (fun h => absurd rfl h) fun _ => ?_
  refine c_bits_Has c hi ?_
  rw [hs, CdP_false]
  obtain ⟨k1, k2, k3, k4, f, k5, k6⟩ := c
  refine fl (by rw [k4.get]; rfl) (quo64 (by omega) (by rw [qn]; omega) ?_)
  rw [qn]
  refine (k5.rd (by rw [tab_length]) (Nat.le_refl _)).ei (x := f (i / 64)) (by omega) (by rw [Int.toNat_natCast]; exact tab_get (nw_lt hi)) rfl ?_
  refine rem64 (by omega) ?_
  rw [rn]
  show BiP .shl (w64 1#64) (int (i % 64 : Nat)) _
  rw [bv_shl (by omega)]
  show BiP .or (w64 (f (i / 64))) (w64 _) _
  rw [bv_or]
  refine own_set1 (a' := f (i / 64) ||| (1#64 <<< (i % 64))) rfl rfl rfl k5 (by rw [tab_length]) (by rw [tab_length]; exact nw_lt hi) fun h1 o1 e1 => ⟨trivial, ?_⟩
  rw [tab_set] at o1
  have k4' := k4.ex e1 k3
  have hc : (List.range n).countP S ≤ n := count_le 0
  refine fl (by rw [k4'.get]; rfl) (add64 (by omega) ?_)
  refine Fs_b k4' (by simp) rfl fun h2 _ e2 k2' => ?_
  have hcu := count_upd (S := S) n hi true
  rw [hs] at hcu
  simp only [Bool.false_eq_true, if_false, if_true, Nat.add_zero] at hcu
  refine r h2 ⟨k1, k2, k3, ?_, _, o1.ex e2 (Ne.symm k3), fun j hj => ?_⟩ ((e1.mono fun _ _ h => .inr h).trans (e2.mono fun _ _ h => .inl h))
  · have e : (((List.range n).countP S : Nat) : Int) + 1 = ((List.range n).countP (upd S i true) : Nat) := by omega
    rw [e] at k2'; exact k2'
  · rw [bitAt_set]
    by_cases hji : j = i
    · subst hji; simp [upd_same]
    · rw [upd_ne hji, k6 j hj]; simp [hji]
theorem c_bits_Clear (c : Brw g p h n S) (hi : i < n) (hs : S i = true) (r : ∀ h', Brw g p h' n (upd S i false) → Ex (two p g) h h' → K (int 0) h') : Ca f_bits_Row_Clear #[ptr p 0, int i] h K := by
  refine m_bits_Row_Clear_ok (c_bits_there c hi ?_)
  have hb := c.big
  rw [BiP_neq]
  refine cdp (fun h => absurd rfl h) fun _ => ?_
  refine c_bits_Has c hi ?_
  rw [hs, UnP_not]
  show CdP (.bool false) _ _
  rw [CdP_false]
  obtain ⟨k1, k2, k3, k4, f, k5, k6⟩ := c
  refine fl (by rw [k4.get]; rfl) (quo64 (by omega) (by rw [qn]; omega) ?_)
  rw [qn]
  refine (k5.rd (by rw [tab_length]) (Nat.le_refl _)).ei (x := f (i / 64)) (by omega) (by rw [Int.toNat_natCast]; exact tab_get (nw_lt hi)) rfl ?_
  refine rem64 (by omega) ?_
  rw [rn]
  show BiP .shl (w64 1#64) (int (i % 64 : Nat)) _
  rw [bv_shl (by omega)]
  show BiP .andNot (w64 (f (i / 64))) (w64 _) _
  rw [bv_andNot]
  refine own_set1 (a' := f (i / 64) &&& ~~~(1#64 <<< (i % 64))) rfl rfl rfl k5 (by rw [tab_length]) (by rw [tab_length]; exact nw_lt hi) fun h1 o1 e1 => ⟨trivial, ?_⟩
  rw [tab_set] at o1
  have k4' := k4.ex e1 k3
  have hc : (List.range n).countP S ≤ n := count_le 0
  refine fl (by rw [k4'.get]; rfl) (sub64 (by omega) ?_)
  refine Fs_b k4' (by simp) rfl fun h2 _ e2 k2' => ?_
  have hcu := count_upd (S := S) n hi false
  rw [hs] at hcu
  simp only [Bool.false_eq_true, if_false, if_true, Nat.add_zero] at hcu
  refine r h2 ⟨k1, k2, k3, ?_, _, o1.ex e2 (Ne.symm k3), fun j hj => ?_⟩ ((e1.mono fun _ _ h => .inr h).trans (e2.mono fun _ _ h => .inl h))
  · have e : (((List.range n).countP S : Nat) : Int) - 1 = ((List.range n).countP (upd S i false) : Nat) := by omega
    rw [e] at k2'; exact k2'
  · rw [bitAt_clear]
    by_cases hji : j = i
    · subst hji; simp [upd_same]
    · rw [upd_ne hji, k6 j hj]; simp [hji]
theorem c_bits_New (h0 : 0 < n) (hn : n ≤ 65536) (r : ∀ g p h', h.size ≤ g → h.size ≤ p → Brw g p h' n (fun _ => false) → Ext h h' → K (.tuple #[ptr p 0, int 0]) h') : Ca f_bits_New #[int n] h K := by
  refine m_bits_New_ok ?_
  unfold m_bits_New
  rw [BiP_lss]
  refine cdp (fun h => absurd h (by omega)) fun _ => ?_
  rw [BiP_gtr]
  unfold m_bits_New_j7
  refine cdp (fun h => absurd h (by omega)) fun _ => ?_
  refine add64 (by omega) (sub64 (by omega) (quo64 (by omega) ?_ ?_))
  · have e : ((n : Int) + 64 - 1) = ((n + 63 : Nat) : Int) := by omega
    rw [e, qn]; omega
  have e : ((n : Int) + 64 - 1).tdiv 64 = ((nw n : Nat) : Int) := by
    have e : ((n : Int) + 64 - 1) = ((n + 63 : Nat) : Int) := by omega
    rw [e, qn]; rfl
  rw [e]
  have hnw : nw n ≤ 1024 := by unfold nw; omega
  refine mkn (n0 := h.size) T_u64 z_u64 (Nat.le_refl _) (by show nw n * 1 ≤ _; omega) (by decide) fun g h1 hg o1 e1 => ?_
  refine ⟨_, #[int n, int 0, .slice (some ⟨g, 0, none⟩) (nw n) (nw n)], rfl, rfl, ?_⟩
  refine bxa (cs := [int n, int 0, .slice (some ⟨g, 0, none⟩) (nw n) (nw n)]) fun b h2 e2 hb k2 _ => ?_
  have hgl := o1.lt
  have o2 := o1.ext e2
  rw [tab_rep] at o2
  refine r g b h2 (by omega) (by have := e1.le; omega) ⟨h0, hn, by omega, ?_, _, o2, fun i _ => by simp [bitAt]⟩ (e1.trans e2)
  have : (List.range n).countP (fun _ => false) = 0 := by simp
  rw [this]; exact k2
/-- The first free place from one on, of which there is one. -/
theorem c_bits_Free (c : Brw g p h n S) (t : Tz h) {a : Nat} (hj : ∃ j, a ≤ j ∧ j < n ∧ S j = false) (r : ∀ i, a ≤ i → i < n → S i = false → K (.tuple #[int (i : Nat), .bool true]) h) : Ca f_bits_Row_Free #[ptr p 0, int a] h K := by
  obtain ⟨j0, hj1, hj2, hj3⟩ := hj
  refine m_bits_Row_Free_ok (c_bits_Len c ?_)
  have hp := c.pos
  have hb := c.big
  rw [BiP_eql]
  refine cdp (fun h => absurd h (by omega)) fun _ => ?_
  refine c_bits_Len c ?_
  rw [BiP_geq]
  unfold m_bits_Row_Free_j11
  refine cdp (fun h => absurd h (by omega)) fun _ => ?_
  unfold m_bits_Row_Free_j12
  refine m_bits_Row_seek_ok ?_
  unfold m_bits_Row_seek
  refine max_int ?_
  have hmx : max (0 : Int) (a : Int) = (a : Int) := by omega
  rw [hmx]
  refine quo64 (by omega) (by rw [qn]; omega) ?_
  rw [qn]
  obtain ⟨k1, k2, k3, k4, f, k5, k6⟩ := c
  refine lop (σ := Nat) (fun w => [int 0, .bool false, int w]) (fun w h' => h' = h ∧ a / 64 ≤ w ∧ ∀ j, a ≤ j → j < w * 64 → j < n → S j = true) (fun w => nw n - w) (a / 64) rfl ⟨rfl, Nat.le_refl _, fun j h1 h2 _ => by omega⟩ ?_
  rintro w h1 N ⟨rfl, hw1, hw2⟩ hN
  simp only [m_bits_Row_seek_l5, gv_zero, gv_succ]
  have hw : w < nw n := by
    refine Classical.byContradiction fun hc => ?_
    have : n ≤ nw n * 64 := by unfold nw; omega
    have := hw2 j0 hj1 (by have := Nat.mul_le_mul_right 64 (Nat.le_of_not_lt hc); omega) hj2
    rw [hj3] at this; cases this
  have hnw : nw n ≤ 1024 := by unfold nw; omega
  refine fl (by rw [k4.get]; rfl) ?_
  rw [LenP_slice, BiP_lss]
  refine cdp (fun _ => ?_) fun h => absurd (by omega) h
  refine fl (by rw [k4.get]; rfl) ?_
  refine (k5.rd (by rw [tab_length]) (Nat.le_refl _)).ei (x := f w) (by omega) (by rw [Int.toNat_natCast]; exact tab_get hw) rfl ?_
  show BiP .xor (w64 (f w)) (w64 (BitVec.allOnes 64)) _
  rw [bv_xor]
  refine quo64 (by omega) (by rw [qn]; omega) ?_
  rw [qn, BiP_eql]
  -- what is left: the digits turned, of which those ahead of a are out
  have key : ∀ x : BitVec 64, (∀ b, b < 64 → a ≤ w * 64 + b → x.getLsbD b = !(f w).getLsbD b) → (∀ b, b < 64 → ¬ a ≤ w * 64 + b → x.getLsbD b = false) → m_bits_Row_seek_j25 (ptr p 0) (int a) (.int .u64 18446744073709551615) (int 0) (.bool false) (int w) (w64 x) h1 N
      (fun x14 h13 => ExP x14 0 fun x15 => ExP x14 1 fun x16 => Ca f_bits_told #[x15, x16] h13 fun x18 h17 => ExP x18 0 fun x19 => ExP x18 1 fun x20 => K (.tuple #[x19, x20]) h17) := by
    intro x hx1 hx2
    unfold m_bits_Row_seek_j25
    show BiP .eql (w64 x) (w64 0#64) _
    rw [BiP_eql]
    refine cdp (fun h0 => ?_) (fun h0 => ?_)
    · have h0 : x = 0#64 := w64_inj.1 h0
      unfold m_bits_Row_seek_j35
      refine add64 (by omega) ?_
      have := hN (w + 1) h1 ⟨rfl, by omega, fun j q1 q2 q3 => ?_⟩ (by omega)
      · simpa using this
      · by_cases hjw : j < w * 64
        · exact hw2 j q1 hjw q3
        · have h1 := hx1 (j - w * 64) (by omega) (by omega)
          rw [h0] at h1
          have e1 : j / 64 = w := by omega
          have e2 : j % 64 = j - w * 64 := by omega
          rw [k6 j q3, bitAt, e1, e2]
          simpa using h1.symm
    · have h0 : x ≠ 0#64 := fun e => h0 (by rw [e])
      refine mul64 (by omega) ?_
      refine c_tz t h0 fun k hk1 hk2 hk3 => ?_
      refine add64 (by omega) ?_
      have e : ((w : Int) * 64 + (k : Int)) = ((w * 64 + k : Nat) : Int) := by omega
      rw [e]
      have hak : a ≤ w * 64 + k := by
        refine Classical.byContradiction fun hc => ?_
        rw [hx2 k hk1 hc] at hk2; cases hk2
      have hfk : (f w).getLsbD k = false := by
        have := hx1 k hk1 hak
        rw [hk2] at this
        simpa using this.symm
      have hle : w * 64 + k ≤ j0 := by
        refine Classical.byContradiction fun hc => ?_
        by_cases hjw : j0 < w * 64
        · have := hw2 j0 hj1 hjw hj2; rw [hj3] at this; cases this
        · have q := hx1 (j0 - w * 64) (by omega) (by omega)
          rw [hk3 _ (by omega)] at q
          have e1 : j0 / 64 = w := by omega
          have e2 : j0 % 64 = j0 - w * 64 := by omega
          have := k6 j0 hj2
          rw [bitAt, e1, e2, hj3] at this
          rw [← this] at q; cases q
      refine fl (by rw [k4.get]; rfl) ?_
      rw [BiP_lss, decide_eq_true (by omega)]
      refine ex20.2 (ex21.2 ?_)
      refine m_bits_told_ok ?_
      unfold m_bits_told
      rw [UnP_not]
      show CdP (.bool false) _ _
      rw [CdP_false]
      refine ex20.2 (ex21.2 ?_)
      refine r _ hak (by omega) ?_
      have e1 : (w * 64 + k) / 64 = w := by omega
      have e2 : (w * 64 + k) % 64 = k := by omega
      rw [k6 _ (by omega), bitAt, e1, e2]; exact hfk
  refine cdp (fun hwa => ?_) (fun hwa => ?_)
  · refine rem64 (by omega) ?_
    rw [rn]
    show BiP .shl (w64 (BitVec.allOnes 64)) (int (a % 64 : Nat)) _
    rw [bv_shl (by omega), bv_and]
    refine key _ (fun b hb1 hb2 => ?_) (fun b hb1 hb2 => ?_)
    · rw [BitVec.getLsbD_and, BitVec.getLsbD_xor, BitVec.getLsbD_shiftLeft, BitVec.getLsbD_allOnes, BitVec.getLsbD_allOnes]
      have : ¬ b < a % 64 := by omega
      have h3 : b - a % 64 < 64 := by omega
      simp [hb1, this, h3]
    · rw [BitVec.getLsbD_and, BitVec.getLsbD_shiftLeft]
      have : b < a % 64 := by omega
      simp [this]
  · refine key _ (fun b hb1 hb2 => ?_) (fun b hb1 hb2 => ?_)
    · rw [BitVec.getLsbD_xor, BitVec.getLsbD_allOnes]; simp [hb1]
    · omega
end
end Go.Sg
/-! Contracts of pool. -/
namespace Go.Sg
open Go Vc
/-- A pool: its own block o, a row's block p, its words' block g. -/
structure Pol (o g p : Nat) (h : Heap) (n : Nat) (S : Nat → Bool) : Prop where
  blk : Blk h o [ptr p 0]
  row : Brw g p h n S
  zero : S 0 = true
  tz : Tz h
  o1 : o ≠ p
  o2 : o ≠ g
  t1 : gTab ≠ p
  t2 : gTab ≠ g
def cnt (n : Nat) (S : Nat → Bool) : Nat := (List.range n).countP S
theorem cnt_le {n : Nat} {S : Nat → Bool} : cnt n S ≤ n := count_le 0
theorem cnt_free {n : Nat} {S : Nat → Bool} (h : cnt n S < n) : ∃ j, j < n ∧ S j = false := by
  refine Classical.byContradiction fun hc => ?_
  have : cnt n S = (List.range n).length := by
    refine List.countP_eq_length.2 fun j hj => ?_
    rw [List.mem_range] at hj
    cases hs : S j with
    | true => rfl
    | false => exact absurd ⟨j, hj, hs⟩ hc
  rw [List.length_range] at this; omega
theorem cnt_upd {n i : Nat} {S : Nat → Bool} (hi : i < n) (v : Bool) : cnt n (upd S i v) + (if S i then 1 else 0) = cnt n S + (if v then 1 else 0) := count_upd n hi v
section
variable {h : Heap} {K : Kt} {o g p n i : Nat} {S : Nat → Bool}
theorem Pol.ex {M : Nat → Prop} {h' : Heap} (c : Pol o g p h n S) (e : Ex M h h') (h0 : ¬ M o) (h1 : ¬ M p) (h2 : ¬ M g) (h3 : ¬ M gTab) : Pol o g p h' n S :=
  ⟨c.blk.ex e h0, c.row.ex e h1 h2, c.zero, c.tz.ex e h3, c.o1, c.o2, c.t1, c.t2⟩
theorem Pol.ext {h' : Heap} (c : Pol o g p h n S) (e : Ext h h') : Pol o g p h' n S := c.ex e (fun x => x) (fun x => x) (fun x => x) (fun x => x)
theorem Pol.with {h' : Heap} {S' : Nat → Bool} (c : Pol o g p h n S) (r : Brw g p h' n S') (e : Ex (two p g) h h') (z : S' 0 = true) : Pol o g p h' n S' :=
  ⟨c.blk.ex e (fun x => x.elim c.o1 c.o2), r, z, c.tz.ex e (fun x => x.elim c.t1 c.t2), c.o1, c.o2, c.t1, c.t2⟩
theorem c_pool_none (c : Pol o g p h n S) (r : K (.bool false) h) : Ca f_pool_Pool_none #[ptr o 0] h K := by
  refine m_pool_Pool_none_ok (eq_ptr_nil (by kernel_rfl) (fl (by rw [c.blk.get]; rfl) ?_))
  unfold m_pool_Pool_none_j11
  exact eq_ptr_nil (by kernel_rfl) r
theorem c_pool_Free (c : Pol o g p h n S) (r : K (int (n - cnt n S : Nat)) h) : Ca f_pool_Pool_Free #[ptr o 0] h K := by
  refine m_pool_Pool_Free_ok (c_pool_none c ?_)
  rw [CdP_false]
  refine ⟨fun b' _ => b' = o, ?_⟩
  rw [NilP_ptr, FaP_ptr]
  refine LdX_b c.blk rfl (fun _ => rfl) ?_
  rw [NilP_ptr, FaP_ptr]
  refine LdX_b c.blk rfl (fun _ => rfl) ?_
  refine c_bits_Len c.row ⟨fun _ _ _ => rfl, c_bits_Count c.row ⟨trivial, ?_⟩⟩
  have h1 : cnt n S ≤ n := cnt_le
  have hb := c.row.big
  unfold cnt at h1 r
  refine sub64 (by omega) ?_
  have e : ((n : Int) - (((List.range n).countP S : Nat) : Int)) = ((n - (List.range n).countP S : Nat) : Int) := by omega
  rw [e]; exact r
theorem c_pool_Has (c : Pol o g p h n S) (hi : i < n) (r : K (.bool (S i)) h) : Ca f_pool_Pool_Has #[ptr o 0, .int .u32 i] h K := by
  refine m_pool_Pool_Has_ok (c_pool_none c ?_)
  rw [UnP_not]
  show CdP (.bool true) _ _
  rw [CdP_true]
  have hb := c.row.big
  refine fl (by rw [c.blk.get]; rfl) ?_
  rw [CvP_int, wrap64 (by omega) (by omega)]
  exact c_bits_Has c.row hi r
theorem c_pool_Mark (c : Pol o g p h n S) (hi : i < n) (hs : S i = false) (r : ∀ h', Pol o g p h' n (upd S i true) → Ex (two p g) h h' → K (int 0) h') : Ca f_pool_Pool_Mark #[ptr o 0, .int .u32 i] h K := by
  refine m_pool_Pool_Mark_ok (c_pool_none c ?_)
  rw [CdP_false]
  have hb := c.row.big
  refine fl (by rw [c.blk.get]; rfl) ?_
  rw [CvP_int, wrap64 (by omega) (by omega)]
  have h0 : 0 ≠ i := fun e => by subst e; rw [c.zero] at hs; cases hs
  exact c_bits_Set c.row hi hs fun h' b' e' => r h' (c.with b' e' (by rw [upd_ne h0]; exact c.zero)) e'
theorem c_pool_Give (c : Pol o g p h n S) (h0 : i ≠ 0) (hi : i < n) (hs : S i = true) (r : ∀ h', Pol o g p h' n (upd S i false) → Ex (two p g) h h' → K (int 0) h') : Ca f_pool_Pool_Give #[ptr o 0, .int .u32 i] h K := by
  refine m_pool_Pool_Give_ok (c_pool_none c ?_)
  rw [CdP_false, BiP_eql]
  have hb := c.row.big
  refine cdp (fun h => absurd h (by omega)) fun _ => ?_
  refine fl (by rw [c.blk.get]; rfl) ?_
  rw [CvP_int, wrap64 (by omega) (by omega)]
  exact c_bits_Clear c.row hi hs fun h' b' e' => r h' (c.with b' e' (by rw [upd_ne (Ne.symm h0)]; exact c.zero)) e'
theorem c_pool_Grab1 (c : Pol o g p h n S) (hf : cnt n S < n) (r : ∀ i v h', 1 ≤ i → i < n → S i = false → Ow h.size t_uint32 h' v [(⟨i⟩ : U32)] → Pol o g p h' n (upd S i true) → Ex (two p g) h h' → K (.tuple #[v, int 0]) h') : Ca f_pool_Pool_Grab #[ptr o 0, int 1] h K := by
  refine m_pool_Pool_Grab_ok (c_pool_none c ?_)
  rw [CdP_false, BiP_lss]
  refine cdp (fun h => absurd h (by omega)) fun _ => ?_
  refine c_pool_Free c ?_
  rw [BiP_gtr]
  refine cdp (fun h => absurd h (by omega)) fun _ => ?_
  have hb := c.row.big
  refine lop (σ := Option (Nat × Value)) (fun s => match s with
      | none => [.slice none 0 0, int 0, int 0]
      | some (i, v) => [v, int (i + 1 : Nat), int 1])
    (fun s h' => match s with
      | none => h' = h
      | some (i, v) => 1 ≤ i ∧ i < n ∧ S i = false ∧ Ow h.size t_uint32 h' v [(⟨i⟩ : U32)] ∧ Pol o g p h' n (upd S i true) ∧ Ex (two p g) h h')
    (fun s => match s with | none => 1 | some _ => 0) none rfl rfl ?_
  rintro s h1 N hI hN
  cases s with
  | some s =>
    obtain ⟨i, v⟩ := s
    obtain ⟨q1, q2, q3, q4, q5, q6⟩ := hI
    simp only [m_pool_Pool_Grab_l9, gv_zero, gv_succ]
    rw [BiP_lss]
    refine cdp (fun h => absurd h (by omega)) fun _ => ?_
    exact r i v h1 q1 q2 q3 q4 q5 q6
  | none =>
    simp only at hI
    subst hI
    simp only [m_pool_Pool_Grab_l9, gv_zero, gv_succ]
    rw [BiP_lss]
    refine cdp (fun _ => ?_) fun h => absurd (by omega) h
    refine fl (by rw [c.blk.get]; rfl) ?_
    obtain ⟨j, hj1, hj2⟩ := cnt_free hf
    refine c_bits_Free (a := 0) c.row c.tz ⟨j, Nat.zero_le _, hj1, hj2⟩ fun i _ hi hs => ?_
    have hi0 : 0 ≠ i := fun e => by subst e; rw [c.zero] at hs; cases hs
    rw [ex20, ex21]
    refine fl (by rw [c.blk.get]; rfl) ?_
    refine c_bits_Set c.row hi hs fun h2 b2 e2 => ?_
    have c2 := c.with b2 e2 (by rw [upd_ne hi0]; exact c.zero)
    rw [CvP_int, wrap32 (by omega) (by omega)]
    refine bs (n0 := h2.size) (e := t_uint32) (zs := #[.int .u32 0]) [(⟨i⟩ : U32)] rfl (Nat.le_refl _) rfl (by decide) (cs := #[.int .u32 i]) (by kernel_rfl) rfl fun v3 h3 o3 e3 => ?_
    have s3 : Sl No h3 v3 [(⟨i⟩ : U32)] := o3.sl fun _ _ h => h
    refine app T_u32 (Ow.nil h1.size t_uint32 h3) s3 (by have := e2.le; have := e3.le; omega) (by simp) (by decide) fun v4 h4 o4 _ e4 => ?_
    have e4 := e4 rfl
    refine add64 (by omega) (add64 (by omega) ?_)
    have := hN (some (i, v4)) h4 ⟨by omega, hi, hs, o4, (c2.ext e3).ext e4, (e2.trans e3.toM).trans e4.toM⟩ (by simp)
    simpa using this
theorem c_pool_Take (c : Pol o g p h n S) (hf : cnt n S < n) (r : ∀ i h', 1 ≤ i → i < n → S i = false → Pol o g p h' n (upd S i true) → Ex (two p g) h h' → K (.tuple #[.int .u32 (i : Nat), int 0]) h') : Ca f_pool_Pool_Take #[ptr o 0] h K := by
  refine m_pool_Pool_Take_ok (c_pool_Grab1 c hf fun i v h1 q1 q2 q3 q4 q5 q6 => ?_)
  rw [ex20, ex21, BiP_neq]
  refine cdp (fun h => absurd rfl h) fun _ => ?_
  refine (q4.sl (U := No) fun _ _ h => h).ei (x := (⟨i⟩ : U32)) (by omega) rfl rfl ?_
  exact r i h1 q1 q2 q3 q5 q6
theorem c_pool_Take_full (c : Pol o g p h n S) (hf : cnt n S = n) (r : K (.tuple #[.int .u32 0, int 11]) h) : Ca f_pool_Pool_Take #[ptr o 0] h K := by
  refine m_pool_Pool_Take_ok (m_pool_Pool_Grab_ok (c_pool_none c ?_))
  rw [CdP_false, BiP_lss]
  refine cdp (fun h => absurd h (by omega)) fun _ => ?_
  refine c_pool_Free c ?_
  rw [BiP_gtr]
  refine cdp (fun _ => ?_) fun h => absurd (by omega) h
  refine ex20.2 (ex21.2 ?_)
  rw [BiP_neq]
  exact cdp (fun _ => r) fun h => absurd (by decide) h
theorem c_pool_New (h0 : 5 ≤ n) (hn : n ≤ 65536) (t : Tz h) (r : ∀ o g p h', h.size ≤ o → h.size ≤ g → h.size ≤ p → Pol o g p h' n (upd (fun _ => false) 0 true) → Ext h h' → K (.tuple #[ptr o 0, int 0]) h') : Ca f_pool_New #[int n] h K := by
  refine m_pool_New_ok ?_
  unfold m_pool_New
  rw [BiP_lss]
  refine cdp (fun h => absurd h (by omega)) fun _ => ?_
  refine c_bits_New (by omega) hn fun g p h1 hg hp b1 e1 => ?_
  rw [ex20, ex21, BiP_neq]
  refine cdp (fun h => absurd rfl h) fun _ => ?_
  refine c_bits_Set (i := 0) b1 (by omega) rfl fun h2 b2 e2 => ?_
  refine ⟨_, #[ptr p 0], rfl, rfl, ?_⟩
  refine bxa (cs := [ptr p 0]) fun b h3 e3 hb k3 _ => ?_
  have e02 : Ext h h2 := e1.andThen e2 fun x hx hM => by rcases hM with rfl | rfl <;> omega
  have hlt := b2.lt
  have ht := t.lt
  exact r b g p h3 (by have := e02.le; omega) hg hp ⟨k3, b2.ext e3, upd_same, (t.ext e02).ext e3, by omega, by omega, by omega, by omega⟩ (e02.trans e3)
end
end Go.Sg
