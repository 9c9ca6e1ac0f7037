/-
  Of stores that nobody made, or that are closed, there are no pairs, and nothing is laid: the law returns true at every input, and its arguments read as they did; under the row's condition on the package variable math/bits.deBruijn64tab, which the card ties to the program's text.
-/
import Derived.ProofKit
import Derived.Lib.SmallJoins
import Derived.Carry
import Derived.Test.YtfdephgpijheoaaGreatDoorRows
import Derived.Test.YtfdephgpijheoaaGreatDoorTie
import Derived.Test.YtfdephgpijheoaaGreatDoorCards
import Derived.LaidMore
import Derived.LaidHandle
import Derived.MakeChecks
import Derived.OpenShut
import Derived.Stop.Joined
import Derived.SevenTiedAt
import Derived.JoinedOf
import Derived.Test.YtfdephgpijheoaaGreatDoorP15
set_option linter.unusedVariables false
set_option linter.unusedSimpArgs false
namespace Go.Sg
open Go Vc
theorem Ow.ownLt {α : Type} [El α] {n0 e h v} {l : List α} (o : Ow n0 e h v l) {b : Nat} (hb : v.ownBlock = some b) : b < h.size := by
  rcases o with ⟨rfl, rfl⟩ | ⟨g, cap, cur, rfl, h2, h3, _⟩
  · simp [Value.ownBlock] at hb
  · simp [Value.ownBlock] at hb
    subst hb
    exact (Array.getElem?_eq_some_iff.1 h3).1
section
variable {lab lab' : Nat → Nat} {h h' : Heap} {K : Kt} {c : Config} {b q : Nat} {x : Value} {ps : List Pair} {first lo hi : Str} {batch told : Int}
theorem c_cursor_Next_void (k : Blk h b (curc q first lo hi batch told (.slice none 0 0))) (kx : Nob h (ptr q 0)) (hbq : b ≠ q)
    (r : ∀ h', Nob h' (ptr q 0) → Blk h' b (curc q first lo hi batch told (.slice none 0 0)) → Ex (fun x => x = q) h h' → K (.tuple #[.agg #[str [], str []], .bool false, int 1]) h') : Ca f_cursor_Cursor_Next #[ptr b 0] h K := by
  refine m_cursor_Cursor_Next_ok (ala (cs := [str [], str []]) fun b1 h1 e1 hb1 k1 _ => ?_)
  have k := k.ext e1
  have hq : q < h.size := kx.lt (x := q) rfl
  refine c_cursor_none k ?_
  rw [CdP_false]
  refine fl (v := .slice none 0 0) (by rw [k.get]; rfl) ((Sl.nil (α := Pair) No h1).len ?_)
  rw [BiP_eql]
  refine cdp (fun _ => ?_) fun h => absurd rfl h
  refine fl (v := ptr q 0) (by rw [k.get]; rfl) (fl (v := str lo) (by rw [k.get]; rfl) (fl (v := str hi) (by rw [k.get]; rfl) (fl (v := int batch) (by rw [k.get]; rfl) ?_)))
  refine c_kv_Range_nob (kx.ext e1) fun h2 kx2 e2' => ⟨trivial, ?_⟩
  have e2 : Ex (fun x => x = q) h1 h2 := e2'.mono fun y _ hy => by
    have : ptr q 0 = ptr y 0 := hy
    simpa using this.symm
  rw [ex20, ex21, BiP_neq]
  refine cdp (fun _ => ?_) fun h => absurd (by decide) h
  unfold m_cursor_Cursor_Next_j37
  rw [CdP_true]
  refine ⟨_, #[str [], str []], rfl, rfl, ?_⟩
  have k12 := k1.ex e2 (show ¬ b1 = q by omega)
  have kb2 := k.ex e2 hbq
  have hb : b ≠ b1 := by have := k.lt; intro hh; subst hh; exact absurd (k.uniq k1) (by simp [curc])
  refine StA_b (vs := [str [], str []]) k12 rfl rfl rfl fun h3 _ e3 k3 => ?_
  refine (LdA_b k3 rfl).2 (r h3 ?_ (kb2.ex e3 hb) ?_)
  · exact kx2.imp id fun ⟨z, q1, q2⟩ => ⟨z, q1, q2.ex e3 (by
      have : q = z := by simpa using q1
      omega)⟩
  · exact ((Ex.toM e1).trans e2).fresh e3 fun y hy he => by omega
theorem c_cursor_All_err {e : Int} {P : Heap → Prop} {f : Fn} {fs cap : Array Value} {cs : List Value} (kb : Blk h b (ptr q 0 :: cs))
    (next : ∀ Q : Kt, (∀ h', P h' → Q (.tuple #[.agg #[str [], str []], .bool false, int e]) h') → Ca f_cursor_Cursor_Next #[ptr b 0] h Q)
    (r : ∀ h1 h', P h1 → Ext h1 h' → K (int e) h') : Ca f_cursor_Cursor_All #[ptr b 0, .func f fs cap] h K := by
  refine m_cursor_Cursor_All_ok (c_cursor_none kb ?_)
  rw [CdP_false]
  refine lop (σ := Unit) (fun _ => [int 0]) (fun _ h' => h' = h) (fun _ => 0) () rfl rfl ?_
  rintro _ h1 N rfl hN
  simp only [m_cursor_Cursor_All_l4, gv_zero]
  refine neq_func_nil (ts := #[t_api_Pair]) (rs := #[t_bool]) (vr := false) (by kernel_rfl) ?_
  rw [CdP_true]
  refine next _ fun h2 p2 => ?_
  rw [ex30, ex31, ex32]
  refine alst (vs := [str [], str []]) rfl rfl rfl fun b3 h3 e3 hb3 k3 _ => ?_
  rw [UnP_not]
  refine cd (fun _ => ?_) fun h => absurd h (by decide)
  unfold m_cursor_Cursor_All_j24
  rw [CdP_true]
  exact r h2 h3 p2 e3
def topK (c : Config) : Str := Lib.repeatL [255] (c.key + 1).toNat
theorem squeeze_hi (h0 : 0 ≤ c.key) (h1 : c.key ≤ 2 ^ 20) {R : Kt} (r : ∀ h', Ext h h' → R (str (topK c)) h') : Ca f_strings_Repeat #[.string { data := #[255] }, int (c.key + 1)] h R := by
  have : c.key + 1 = (((c.key + 1).toNat : Nat) : Int) := by omega
  rw [this]
  exact c_strings_Repeat (s := [255]) (by omega) (by show 1 * _ ≤ _; omega) r
theorem c_squeeze_Pairs_nil (r : ∀ h', Ext h h' → K (.tuple #[.slice none 0 0, int 1]) h') : Ca f_squeeze_Pairs #[.pointer none] h K := by
  refine m_squeeze_Pairs_ok (c_kv_Config_nob (.inl rfl) fun h1 e1 => ?_)
  refine ⟨_, int 0, rfl, rfl, add64 (by decide) ?_⟩
  refine c_strings_Repeat (s := [255]) (n := 1) (by decide) (by decide) fun h2 e2 => ?_
  refine c_cursor_New_nil ?_
  rw [ex20, ex21, BiP_neq]
  refine cdp (fun _ => ?_) fun h => absurd (by decide) h
  exact r h2 (e1.trans e2)
theorem c_squeeze_Pairs_void (kx : Nob h (ptr q 0)) (r : ∀ h', Nob h' (ptr q 0) → Ex (fun x => x = q) h h' → K (.tuple #[.slice none 0 0, int 1]) h') : Ca f_squeeze_Pairs #[ptr q 0] h K := by
  refine m_squeeze_Pairs_ok (c_kv_Config_nob kx fun h1 e1 => ?_)
  refine ⟨_, int 0, rfl, rfl, add64 (by decide) ?_⟩
  refine c_strings_Repeat (s := [255]) (n := 1) (by decide) (by decide) fun h2 e2 => ?_
  refine c_cursor_New (by decide) (by decide) fun b h3 e3 hb k3 => ?_
  rw [ex20, ex21, BiP_neq]
  refine cdp (fun h => absurd rfl h) fun _ => ?_
  have e03 := (e1.trans e2).trans e3
  have hq : q < h.size := kx.lt (x := q) rfl
  refine al fun b4 h4 e4 hb4 k4 _ => ?_
  have hl2 := (e1.trans e2).le
  have hl3 := e03.le
  have kx4 := (kx.ext e03).ext e4
  have k34 := k3.ext e4
  refine c_cursor_All_err (P := fun h' => Nob h' (ptr q 0) ∧ Ex (fun x => x = q) h4 h') k34 (fun Q hQ => c_cursor_Next_void k34 kx4 (by omega) fun h5 n5 k5 e5 => hQ h5 ⟨n5, e5⟩) fun h5 h6 ⟨n5, e5⟩ e6 => ?_
  rw [BiP_neq]
  refine cdp (fun _ => ?_) fun h => absurd (by decide) h
  exact r h6 (n5.ext e6) ((Ex.toM (e03.trans e4)).trans (e5.trans (Ex.toM e6)))
theorem c_squeeze_Pairs_closed (kx : KvX h q c) (h0 : 0 ≤ c.key) (h20 : c.key ≤ 2 ^ 20) (r : ∀ h', KvX h' q c → Ex (fun x => x = q) h h' → K (.tuple #[.slice none 0 0, int 13]) h') : Ca f_squeeze_Pairs #[ptr q 0] h K := by
  refine m_squeeze_Pairs_ok (c_kv_Config kx.cf fun h1 e1 => ?_)
  refine ⟨_, int c.key, rfl, rfl, add64 (by omega) ?_⟩
  refine squeeze_hi h0 h20 fun h2 e2 => ?_
  refine c_cursor_New (by decide) (by decide) fun b h3 e3 hb k3 => ?_
  rw [ex20, ex21, BiP_neq]
  refine cdp (fun h => absurd rfl h) fun _ => ?_
  have e03 := (e1.trans e2).trans e3
  have hq : q < h.size := by obtain ⟨_, _, _, _, z⟩ := kx; exact z.lt
  refine al fun b4 h4 e4 hb4 k4 _ => ?_
  have hl2 := (e1.trans e2).le
  have hl3 := e03.le
  have kx4 := (kx.ext e03).ext e4
  have k34 := k3.ext e4
  refine c_cursor_All_err (P := fun h' => KvX h' q c ∧ Ex (fun x => x = q) h4 h') k34 (fun Q hQ => c_cursor_Next_closed k34 kx4 (by omega) fun h5 n5 k5 e5 => hQ h5 ⟨n5, e5⟩) fun h5 h6 ⟨n5, e5⟩ e6 => ?_
  rw [BiP_neq]
  refine cdp (fun _ => ?_) fun h => absurd (by decide) h
  exact r h6 (n5.ext e6) ((Ex.toM (e03.trans e4)).trans (e5.trans (Ex.toM e6)))
def GotJ (n0 bv : Nat) (T : List Pair) (l : Nat → Nat) (h : Heap) : Prop := ∃ v, Blk h bv [v] ∧ Ow 0 t_api_Pair h v T ∧ n0 ≤ bv ∧ l bv = 70 ∧ (∀ x, v.ownBlock = some x → l x = 71 ∧ n0 ≤ x) ∧ T.length ≤ 2 ^ 30
theorem gotJ_call {n0 bv : Nat} {T : List Pair} {p : Pair} {l1 : Nat → Nat} {h1 : Heap} {Q : Kt} (hn0 : n0 ≤ h1.size) (j : GotJ n0 bv T l1 h1) (hT : T.length < 2 ^ 30)
    (r : ∀ l2 h2, Lat l1 l2 h1 → GotJ n0 bv (T ++ [p]) l2 h2 → Ex (fun x => n0 ≤ x ∧ Lb l1 61 98 x) h1 h2 → Q (.bool true) h2) : CvH Pg (.func (.func f_squeeze_Pairs_1) #[] #[ptr bv 0]) #[p.v] h1 Q := by
  obtain ⟨v, kb, o, hnb, l70, z71, hlen⟩ := j
  refine cvhc (by kernel_rfl) ?_
  show Ca f_squeeze_Pairs_1 #[p.v, ptr bv 0] h1 Q
  refine m_squeeze_Pairs_1_ok (bxa (cs := [str p.key, str p.val]) fun b2 h2 e2 hb2 k2 _ => ?_)
  refine ld (v := v) (by rw [(kb.ext e2).get]; rfl) ((LdA_b k2 rfl).2 ?_)
  refine bs (n0 := h2.size) (e := t_api_Pair) (zs := #[str [], str []]) [p] rfl (Nat.le_refl _) rfl (by decide) (cs := #[str p.key, str p.val]) (by kernel_rfl) rfl fun v3 h3 o3 e3 => ?_
  have e13 := e2.trans e3
  have hbl := kb.lt
  refine app_ob T_Pair (o.ext e13) (o3.sl (U := No) fun _ _ h => h) (by simp only [List.length_singleton]; omega) (by decide) fun v4 h4 o4 e4 hv4 => ?_
  have hne : ¬ v.ownBlock = some bv := fun h => by have := (z71 bv h).1; omega
  have k4 := (kb.ext e13).ex e4 hne
  refine StP_b k4 (show 0 < 1 by decide) (by rw [one_eq]; exact o4.one) fun h5 _ e5 k5 => ?_
  have k5 : Blk h5 bv [v4] := k5
  have hl13 := e13.le
  have hl34 := e4.le
  have own : ∀ y, v.ownBlock = some y → y < h1.size := fun y hy => o.ownLt hy
  let l2 : Nat → Nat := fun y => if v4.ownBlock = some y then 71 else frl l1 h1 y
  have a2 : Lat l1 l2 h1 := fun y hy => by
    show (if v4.ownBlock = some y then 71 else frl l1 h1 y) = l1 y
    split
    · rename_i hz
      rcases hv4 with q | q
      · rw [q] at hz; exact (z71 y hz).1.symm
      · rw [q] at hz; injection hz with hz; omega
    · exact frl_lat l1 h1 y hy
  have hne4 : ¬ v4.ownBlock = some bv := fun h => by
    rcases hv4 with q | q
    · exact hne (q ▸ h)
    · rw [q] at h; injection h with h; omega
  refine r l2 h5 a2 ⟨v4, k5, (o4.exb e5 fun y hy he => hne4 (he ▸ hy)), hnb, (a2 bv hbl).trans l70, fun y hy => ⟨if_pos hy, ?_⟩, by simp; omega⟩ ?_
  · rcases hv4 with q | q
    · rw [q] at hy; exact (z71 y hy).2
    · rw [q] at hy; injection hy with hy; omega
  · refine ⟨by have := e5.le; omega, fun y hy hm => ?_⟩
    rw [e5.eq y (by omega) (fun he => hm (by subst he; exact ⟨hnb, by rw [l70]; decide, by rw [l70]; decide⟩)), e4.eq y (by omega) (fun he => hm ⟨(z71 y he).2, by rw [(z71 y he).1]; decide, by rw [(z71 y he).1]; decide⟩), e13.eq y hy id]
theorem topK_gt {c : Config} {k : Str} (hk : (k.length : Int) ≤ c.key) : k < topK c := by
  have gen : ∀ (k : Str) (n : Nat), k.length ≤ n → k < Lib.repeatL [255] (n + 1) := by
    intro k
    induction k with
    | nil => intro n _; simp [Lib.repeatL]
    | cons x k ih =>
      intro n hn
      obtain ⟨m, rfl⟩ : ∃ m, n = m + 1 := ⟨n - 1, by simp at hn; omega⟩
      have := ih m (by simp at hn; omega)
      rw [Lib.repeatL, List.singleton_append, List.cons_lt_cons_iff]
      by_cases hx : x = 255
      · exact .inr ⟨hx, this⟩
      · exact .inl (UInt8.lt_of_le_of_ne (UInt8.le_iff_toNat_le.2 (by have := x.toNat_lt; show x.toNat ≤ 255; omega)) hx)
  unfold topK
  have : (c.key + 1).toNat = c.key.toNat + 1 := by omega
  rw [this]
  exact gen k c.key.toNat (by omega)
theorem partK_top {c : Config} {ps : List Pair} (hk : ∀ p ∈ ps, keyOk c p.key = true) : partK ps [] (topK c) = ps := by
  unfold partK
  by_cases he : ps = []
  · subst he; split <;> rfl
  · obtain ⟨p, hp⟩ := List.exists_mem_of_ne_nil _ he
    have len : ∀ p ∈ ps, (p.key.length : Int) ≤ c.key := fun p hp => by
      have := hk p hp
      unfold keyOk at this
      simp only [Bool.and_eq_true, decide_eq_true_eq] at this
      exact this.2
    have hlt : ([] : Str) < topK c := by
      have := topK_gt (len p hp)
      cases hq : topK c with
      | nil => rw [hq] at this; simp at this
      | cons a l => simp
    rw [if_pos hlt, List.filter_eq_self]
    intro a ha
    unfold inSpan
    simp [topK_gt (len a ha)]
theorem c_squeeze_Pairs (kk : KvS lab h q c ps) (ha : Asc Pair.key ps) (hk : ∀ p ∈ ps, keyOk c p.key = true) (hlen : ps.length ≤ 2 ^ 30) (h0 : 0 ≤ c.key) (h20 : c.key ≤ 2 ^ 20)
    (r : ∀ lab' h' v, Lat lab lab' h → KvS lab' h' q c ps → Ow 0 t_api_Pair h' v ps → (∀ x, v.ownBlock = some x → lab' x = 71 ∧ h.size ≤ x) → Ex (Lb lab 1 60) h h' → K (.tuple #[v, int 0]) h') : Ca f_squeeze_Pairs #[ptr q 0] h K := by
  have len : ∀ p ∈ ps, (p.key.length : Int) ≤ c.key := fun p hp => by
    have := hk p hp
    unfold keyOk at this
    simp only [Bool.and_eq_true, decide_eq_true_eq] at this
    exact this.2
  refine m_squeeze_Pairs_ok (c_kv_Config kk.cf fun h1 e1 => ?_)
  refine ⟨_, int c.key, rfl, rfl, add64 (by omega) ?_⟩
  refine squeeze_hi h0 h20 fun h2 e2 => ?_
  refine c_cursor_New (by decide) (by decide) fun b h3 e3 hb k3 => ?_
  rw [ex20, ex21, BiP_neq]
  refine cdp (fun h => absurd rfl h) fun _ => ?_
  have e03 := (e1.trans e2).trans e3
  refine al fun bv h4 e4 hb4 k4 _ => ?_
  have hl2 := (e1.trans e2).le
  have hl23 := e3.le
  have hbl := k3.lt
  let l4 : Nat → Nat := upd (upd (frl lab h) b 60) bv 70
  have a4 : Lat lab l4 h := fun y hy => by
    show upd (upd (frl lab h) b 60) bv 70 y = lab y
    rw [upd_ne (by omega), upd_ne (by omega)]; exact frl_lat lab h y hy
  have q60 : l4 b = 60 := by
    show upd (upd (frl lab h) b 60) bv 70 b = 60
    rw [upd_ne (by omega), upd_same]
  have e04 := e03.trans e4
  refine c_cursor_All (c := c) (ps := ps) (R := []) (lo := []) (n0 := h.size) (J := GotJ h.size bv) (on := fun _ => true) (lab := l4) ⟨⟨_, k3.ext e4, Sl.nil _ _⟩, q60⟩ ((kk.lat a4).ext e04) ha (by decide) (by decide) (by decide) (by simp; omega) (fun p hp => by have := len p hp; omega) [] rfl rfl ?_ ?_ ?_ fun l5 h5 a5 k5 j5 _ e5 => ?_
  · exact ⟨_, k4, Ow.nil _ _ _, (by omega), upd_same, (fun y hy => (by cases hy)), Nat.zero_le _⟩
  · rintro T l1 l2 h1 h2 ⟨v, kb, o, hn, l70, z71, hT⟩ al ex
    have hb' := kb.lt
    exact ⟨v, kb.ex ex (nLb l70 (by decide)), o.exb ex fun y hy => nLb (z71 y hy).1 (by decide), hn, (al bv hb').trans l70, fun y hy => ⟨(al y (o.ownLt hy)).trans (z71 y hy).1, (z71 y hy).2⟩, hT⟩
  · intro T p l1 h1 Q hT j rr
    have hn0 : h.size ≤ h1.size := by obtain ⟨v, kb, o, hn, _⟩ := j; have := kb.lt; omega
    exact gotJ_call hn0 j (by omega) rr
  · rw [tellOn_all (fun _ => rfl), List.nil_append, partK_top hk] at j5
    obtain ⟨v, kb, o, hn, l70, z71, hT⟩ := j5
    rw [BiP_neq]
    refine cdp (fun h => absurd rfl h) fun _ => ?_
    refine ld (v := v) (by rw [kb.get]; rfl) ?_
    have hl04 := e04.le
    refine r l5 h5 v (fun y hy => (a5 y (by omega)).trans (a4 y hy)) k5 o z71 ?_
    refine (Ex.toM e04 : Ex (Lb lab 1 60) h h4).comp e5 fun y hy m => ?_
    rcases m with m | m
    · show 1 ≤ lab y ∧ lab y ≤ 60; rw [← a4 y hy]; exact m
    · omega
end
end Go.Sg
namespace Go.Sg
open Go Vc
def BaV (B : Nat) (h : Heap) (b : Nat) (L : List Msg) : Prop := b < B ∧ ∃ v, Blk h b [v] ∧ Sl (fun x => B ≤ x) h v L
theorem BaV.ex {B : Nat} {h h' : Heap} {b : Nat} {L : List Msg} {M : Nat → Prop} (k : BaV B h b L) (e : Ex M h h') (hm : ∀ x, x < B → ¬ M x) : BaV B h' b L := by
  obtain ⟨hb, v, k1, k2⟩ := k
  exact ⟨hb, v, k1.ex e (hm b hb), k2.ex e (fun x _ m => by
    rcases Nat.lt_or_ge x B with q | q
    · exact absurd m (hm x q)
    · exact q) (fun _ _ q => q)⟩
theorem BaS.v {lab : Nat → Nat} {h : Heap} {b : Nat} {L : List Msg} (k : BaS lab h b L) : BaV h.size h b L := by
  obtain ⟨⟨v, kb, sv⟩, l61, ha, hf⟩ := k
  refine ⟨kb.lt, v, kb, ?_⟩
  obtain ⟨a, cap, hv, hc, hn0, hx⟩ := sv.out
  exact ⟨a, cap, hv, hc, hn0, fun y hy => ⟨(hx y hy).1, fun hl => ⟨((hx y hy).2 hl).1, fun hu => by have := ((hx y hy).2 hl).1; omega, ((hx y hy).2 hl).2.2⟩⟩⟩
structure KvF (lab : Nat → Nat) (h : Heap) (s : Nat) (c : Config) (ps : List Pair) (S : Nat → Bool) : Prop where
  out : ∃ mp tp sp dp D V root rd wr a b d e, Blk h s (kvc c (ptr mp 0) true a b d e) ∧ MtS lab h mp tp sp dp c D V S root ps rd wr ∧ lab s = 15
theorem KvF.s {lab : Nat → Nat} {h : Heap} {s : Nat} {c : Config} {ps : List Pair} {S : Nat → Bool} (k : KvF lab h s c ps S) : KvS lab h s c ps := by
  obtain ⟨mp, tp, sp, dp, D, V, root, rd, wr, a, b, d, e, k1, k2, k3⟩ := k
  exact ⟨mp, tp, sp, dp, D, V, S, root, rd, wr, a, b, d, e, k1, k2, k3⟩
theorem c_kv_beginF {lab : Nat → Nat} {h : Heap} {K : Kt} {c : Config} {ps : List Pair} {mp tp sp dp root : Nat} {D : List (List UInt8)} {V : Nat → List UInt8} {S : Nat → Bool} {rd wr : BitVec 64} (k : MtS lab h mp tp sp dp c D V S root ps rd wr)
    (r : ∀ lab' s h', Lat lab lab' h → KvF lab' h' s c ps S → Ext h h' → h.size ≤ s → K (ptr s 0) h') : Ca f_kv_begin #[ptr mp 0] h K := by
  refine m_kv_begin_ok (c_mount_Head k fun h1 e1 => ?_)
  refine ⟨_, rfl, ?_⟩
  refine ⟨_, (kvc c (ptr mp 0) true 0 0 0 0).toArray, rfl, by kernel_rfl, ?_⟩
  refine bxa (cs := kvc c (ptr mp 0) true 0 0 0 0) fun s h2 e2 hs k2 _ => ?_
  let l2 := upd (frl lab h1) s 15
  have a2 : Lat lab l2 h1 := fun x hx => (upd_ne (by omega)).trans (frl_lat lab h1 x hx)
  have hl := e1.le
  exact r l2 s h2 (fun x hx => a2 x (by omega)) ⟨mp, tp, sp, dp, D, V, root, rd, wr, 0, 0, 0, 0, k2, ((k.ext e1).lat a2).ext e2, upd_same⟩ (e1.trans e2) (by omega)
theorem c_kv_Left {lab : Nat → Nat} {h : Heap} {K : Kt} {c : Config} {s : Nat} {ps : List Pair} {S : Nat → Bool} (k : KvF lab h s c ps S) (r : K (int (c.blocks.toNat - cnt c.blocks.toNat S : Nat)) h) : Ca f_kv_Store_Left #[ptr s 0] h K := by
  obtain ⟨mp, tp, sp, dp, D, V, root, rd, wr, a, b, d, e, k1, k2, k3⟩ := k
  refine m_kv_Store_Left_ok (c_kv_open k1 ?_)
  rw [BiP_neq]
  refine cdp (fun h => absurd rfl h) fun _ => ?_
  refine fl (v := ptr mp 0) (by rw [k1.get]; rfl) (c_mount_Tree k2 (c_tree_Shelf k2.tr (c_shelf_Left k2.tr.sh r)))
section
variable {lab lab' : Nat → Nat} {h h' : Heap} {K : Kt} {c : Config} {U : Nat → Prop} {x : Value} {L : List Opx} {ps : List Pair} {D : List (List UInt8)} {root s b : Nat} {m : Msg} {Ms : List Msg}
theorem c_law34_Stored (hL : c.Light) (ho : lok c []) (hnf : c.frames.toNat ≤ 12) (h24 : c.blocks.toNat * c.bytes.toNat ≤ 2 ^ 24) (t : Tz h) (s : Sl U h x L) (hlen : L.length ≤ 199) (hg : goodOps c L)
    (r : ∀ lab' q h' y, KvS lab' h' q c (psOf L L.length) → (∀ b, b < h.size → lab' b = 0) → Ext h h' → h.size ≤ q → K (.tuple #[ptr q 0, y]) h') : Ca f_law34_Stored #[c.v, x] h K := by
  have hr := hL.1
  have h0v : 0 ≤ c.val := by have := hr.1; unfold Config.Sized at this; omega
  refine m_law34_Stored_ok (bxa (cs := c.cs) fun b2 h1 e1 hb2 k2 _ => (LdA_b k2 rfl).2 (c_law18_Light (c := c) fun h2 e2 => ?_))
  have k2 := k2.ext e2
  have e02 := e1.trans e2
  rw [decide_eq_true hL, UnP_not]
  refine cd (fun h => absurd h (by decide)) fun _ => (LdA_b k2 rfl).2 ?_
  refine c_kv_New hr ho hnf h24 (t.ext e02) fun l3 q h3 k3 z3 e3 hq => ?_
  rw [ex20, ex21, BiP_neq]
  refine cdp (fun h => absurd rfl h) fun _ => ?_
  refine bs (n0 := h3.size) (e := t_api_Pair) (zs := #[str [], str []]) ([] : List Pair) rfl (Nat.le_refl _) rfl (by decide) (cs := #[]) (by kernel_rfl) rfl fun v4 h4 o4 e4 => ?_
  have e34 := e3.trans e4
  have s2 : Sl No h2 x L := (s.ext e02).no
  have a4 := frl_lat l3 h3
  have k4 := (k3.lat a4).ext e4
  have hl02 := e02.le
  have hl23 := e3.le
  have z4 : ∀ b, b < h2.size → frl l3 h3 b = 0 := fun b hb => (a4 b (by omega)).trans (z3 b hb)
  have s4 : Sl (Use (frl l3 h3)) h4 x L := (s2.ex e34 (fun b hb hm => hm) (fun b hb hm => absurd (z4 b hb) hm) : Sl (Use (frl l3 h3)) h4 x L)
  have hb2l := k2.lt
  refine lop (σ := Nat × Value × (Nat → Nat)) (fun p => [.pointer none, .slice none 0 0, p.2.1, int p.1])
    (fun p h' => p.1 ≤ L.length ∧ KvS p.2.2 h' q c (psOf L p.1) ∧ (∀ b, b < h2.size → p.2.2 b = 0) ∧ Sl (Use p.2.2) h' x L ∧ Ow h2.size t_api_Pair h' p.2.1 (psOf L p.1) ∧ (∀ b, p.2.1.ownBlock = some b → p.2.2 b = 0) ∧ Ext h2 h')
    (fun p => L.length - p.1) (0, v4, frl l3 h3) rfl ⟨Nat.zero_le _, k4, z4, s4, o4.low hl23, fun b hb => frl_new (o4.block b hb), e34⟩ ?_
  rintro ⟨i, y, l5⟩ h5 N ⟨hi, k5, z5, s5, o5, zy, e5⟩ hN
  simp only at hi k5 z5 s5 o5 zy
  simp only [m_law34_Stored_l16, gv_zero, gv_succ]
  refine s5.len ?_
  have k25 := k2.ext e5
  rw [BiP_lss]
  unfold m_law34_Stored_j25
  refine cdp (fun hlt => ?_) (fun hge => ?_)
  · have hlt : i < L.length := by omega
    rw [BiP_lss, decide_eq_true (show (i : Int) < 200 by omega), CdP_true]
    have hx := List.getElem?_eq_getElem hlt
    obtain ⟨g1, g2, g3, g4, g5⟩ := hg i _ hx
    have hps := psOf_succ hx
    unfold m_law34_Stored_j26
    refine s5.ea (x := L[i]) (by omega) (by rw [Int.toNat_natCast]; exact hx) ?_
    refine c_law27_Long (o := L[i]) fun h6 e6 => ?_
    rw [decide_eq_false (by omega), decide_eq_false (by omega)]
    show CdP (.bool false) _ _
    rw [CdP_false]
    have s6 := s5.ext e6
    refine s6.ea (x := L[i]) (by omega) (by rw [Int.toNat_natCast]; exact hx) ?_
    have a6 := frl_lat l5 h5
    have k6 := (k5.lat a6).ext e6
    have hl25 := e5.le
    refine c_law27_Step (o := L[i]) k6 h0v g1 g4 (by rw [← hps]; exact g5) fun l7 h7 a7 k7 e7 => ?_
    refine ⟨_, int 0, rfl, rfl, ?_⟩
    show BiP .eql (int 0) (int 0) _
    rw [BiP_eql]
    refine cdp (fun _ => ?_) fun h => absurd rfl h
    have hl56 := e6.le
    have z6 : ∀ b, b < h2.size → frl l5 h5 b = 0 := fun b hb => (a6 b (by omega)).trans (z5 b hb)
    have hz25 : ∀ b, b < h2.size → ¬ Lb (frl l5 h5) 1 15 b := fun b hb hm => by have := z6 b hb; obtain ⟨m1, m2⟩ := hm; omega
    have e57 : Ext h2 h7 := (e5.trans e6).andThen e7 hz25
    have k27 := k2.ext e57
    have zy6 : ∀ b, y.ownBlock = some b → frl l5 h5 b = 0 := fun b hb => by
      rcases Nat.lt_or_ge b h5.size with h | h
      · exact (a6 b h).trans (zy b hb)
      · exact frl_new h
    have o7 : Ow h2.size t_api_Pair h7 y (psOf L i) := (o5.ext e6).exb e7 fun b hb => nLb (zy6 b hb) (by decide)
    have s5' : Sl (Use (frl l5 h5)) h6 x L := s6.ex (Ex.refl No _) (fun _ _ h => h.elim) (fun b hb hm => by
      rcases Nat.lt_or_ge b h5.size with h | h
      · show l5 b ≠ 0; rw [← a6 b h]; exact hm
      · exact absurd (frl_new h) hm)
    have s7 : Sl (Use l7) h7 x L := s5'.lat e7 (by decide) a7
    refine (LdA_b k27 rfl).2 (s7.ea (x := L[i]) (by omega) (by rw [Int.toNat_natCast]; exact hx) ?_)
    have hob := lok_bounds (c := c) hr (ps := psOf L i) (by
      cases i with
      | zero => exact ho
      | succ j =>
        have hj : j < L.length := by omega
        exact (hg j _ (List.getElem?_eq_getElem hj)).2.2.2.2)
    have hasc : Asc Pair.key (psOf L i) := by
      cases i with
      | zero => exact List.Pairwise.nil
      | succ j =>
        have hj : j < L.length := by omega
        exact lok_asc (hg j _ (List.getElem?_eq_getElem hj)).2.2.2.2
    refine c_ref27_Do (o := L[i]) (o7.sl (U := No) fun _ _ h => h) hasc hob.1 hob.2 g1 fun w h8 o8 e8 => ⟨trivial, ?_⟩
    rw [ex20, ex21]
    unfold m_law34_Stored_j45
    refine add64 (by omega) ?_
    have a8 := frl_lat l7 h7
    have hl67 := e7.le
    have hl27 := e57.le
    have z8 : ∀ b, b < h2.size → frl l7 h7 b = 0 := fun b hb => by rw [a8 b (by omega), a7 b (by omega)]; exact z6 b hb
    have s8 : Sl (Use (frl l7 h7)) h8 x L := (s7.ext e8).ex (Ex.refl No _) (fun _ _ h => h.elim) (fun b hb hm => by
      rcases Nat.lt_or_ge b h7.size with h | h
      · show l7 b ≠ 0; rw [← a8 b h]; exact hm
      · exact absurd (frl_new h) hm)
    have := hN (i + 1, w, frl l7 h7) h8 ⟨by show i + 1 ≤ _; omega, by show KvS _ _ _ _ (psOf L (i + 1)); rw [hps]; exact (k7.lat a8).ext e8, z8, s8, by show Ow _ _ _ _ (psOf L (i + 1)); rw [hps]; exact o8.low hl27, fun b hb => frl_new (o8.block b hb), e57.trans e8⟩ (by simp only; omega)
    simpa using this
  · have hin : i = L.length := by omega
    subst hin
    rw [CdP_false]
    unfold m_law34_Stored_j47
    exact r l5 q h5 y k5 (fun b hb => z5 b (by omega)) (e02.trans e5) (by omega)
theorem c_kv_OpenF (hr : c.Right) (hD : D.length = c.blocks.toNat) (hall : ∀ b ∈ D, b.length = c.bytes.toNat) (sx : Sl U h x D.flatten) (t : Tz h) (im : ImgD c root ps D) (h0 : 0 < root) (hi : root < c.blocks.toNat) (ho : lok c ps)
    (r : ∀ lab' q h', KvF lab' h' q c ps (upd (upd (fun _ => false) 0 true) root true) → (∀ b, b < h.size → lab' b = 0) → Ext h h' → h.size ≤ q → K (.tuple #[ptr q 0, int 0]) h') : Ca f_kv_Open #[int c.bytes, x] h K := by
  have h5 : (5 : Int) ≤ c.blocks ∧ c.blocks ≤ 65536 := ⟨hr.2.1, hr.2.2.1⟩
  have hb64 := bytes64 hr
  have hbm := hr.2.2.2.2.2.1
  have hbn : int c.bytes = int ((c.bytes.toNat : Nat) : Int) := by rw [Int.toNat_of_nonneg (by omega)]
  rw [hbn]
  refine m_kv_Open_ok (c_dev_From (n := c.bytes.toNat) (D := D) (by omega) (by omega) (by omega) (by omega) hall sx fun g p h1 hg hp d1 e1 => ?_)
  rw [ex20, ex21, BiP_neq]
  refine cdp (fun h => absurd rfl h) fun _ => ?_
  have hT := t.lt
  refine c_mount_Open d1 hr hD rfl (t.ext e1) (by omega) (by omega) im h0 hi ho fun l2 h2 mp tp sp D' V' rd' wr' m2 a2 e2 => ?_
  rw [ex20, ex21, BiP_neq]
  refine cdp (fun h => absurd rfl h) fun _ => ?_
  refine c_kv_beginF m2 fun l3 q h3 a3 k3 e3 hq => ?_
  have hl1 := e1.le
  have hl2 := e2.le
  have z : ∀ y, y < h.size → l3 y = 0 := fun y hy => by
    rw [a3 y (by omega), a2 y (by omega)]
    unfold dlab
    rw [if_neg (by omega), if_neg (by omega)]
  refine r l3 q h3 k3 z ?_ (by omega)
  exact (e1.andThen e2 fun y hy m => by rcases m with m | m <;> omega).trans e3
theorem KvS.lt (k : KvS lab h s c ps) : s < h.size := by
  obtain ⟨_, _, _, _, _, _, _, _, _, _, _, _, _, _, z, _⟩ := k; exact z.lt
end
end Go.Sg
namespace Go.Sg
open Go Vc
section
variable {lab : Nat → Nat} {h : Heap} {K : Kt} {lo hi : Str} {batch : Int}
theorem least_light : leastC.Light := by decide
theorem least_ok : lok leastC [] := by decide
end
end Go.Sg
set_option maxRecDepth 100000
namespace Go.Sg
open Go Vc Go.Proofs
def bt_bulk_spot : Option BInfo := some ⟨#[(.int .u32 0), (.string ⟨#[]⟩), (.string ⟨#[]⟩)], [(0, 1), (1, 1), (2, 1)]⟩
def st_S_bulk_spot : Option (Array Value × Nat × TypeId) := some (#[(.int .u32 0), (.string ⟨#[]⟩), (.string ⟨#[]⟩)], 3, t_bulk_spot)
def zt_api_Errno : Option Value := some (.int .i64 0)
def zt_S_bulk_spot : Option Value := some (.slice none 0 0)
def m_bulk_leaves (x0_ x1_ x2_ : Value) (h : Heap) (K : Kt) : Prop :=
 BxP t_P_shelf_Shelf x0_ h fun x2 h1 =>
 AlP t_S_bulk_spot zt_S_bulk_spot h1 fun x4 h3 =>
 AlP t_api_Errno zt_api_Errno h3 fun x6 h5 =>
 LenP (some true) x1_ fun x7 =>
 BiP .eql x7 (.int .i64 0) fun x8 =>
 CdP x8
 (LdP x2 h5 fun x9 =>
 BlP bt_api_Node [] fun x10 =>
 Ca f_shelf_Shelf_Make #[x9, x10] h5 fun x12 h11 =>
 ExP x12 0 fun x13 =>
 ExP x12 1 fun x14 =>
 BlP bt_bulk_spot [(0, x13)] fun x15 =>
 BsP st_S_bulk_spot 1 [(0, x15)] h11 fun x17 h16 =>
 StP x4 x17 h16 fun h18 =>
 StP x6 x14 h18 fun h19 =>
 LdP x4 h19 fun x20 =>
 LdP x6 h19 fun x21 =>
 K (.tuple #[x20, x21]) h19)
 (AlP t_S_bulk_spot zt_S_bulk_spot h5 fun x23 h22 =>
 Ca f_slices_Chunk_api_Pair #[x1_, x2_] h22 fun x26 h25 =>
 False)
theorem m_bulk_leaves_ok {x0_ x1_ x2_ : Value} {h : Heap} {K : Kt} (hh : m_bulk_leaves x0_ x1_ x2_ h K) : Ca f_bulk_leaves #[x0_, x1_, x2_] h K := cv Tryz.func143 (by kernel_rfl) hh
end Go.Sg
namespace Go.Sg
open Go Vc
section
variable {lab lab' : Nat → Nat} {h h' : Heap} {K : Kt} {c d : Config} {b q : Nat} {x : Value} {ps : List Pair} {per : Int} {U : Nat → Prop}
theorem c_squeeze_Squeeze_err {e : Int} {P : Heap → Prop} (he : e ≠ 0) (prs : ∀ h1 Q, Ext h h1 → (∀ h', P h' → Q (.tuple #[.slice none 0 0, int e]) h') → Ca f_squeeze_Pairs #[x] h1 Q) (r : ∀ h', P h' → K (.tuple #[.pointer none, int e]) h') : Ca f_squeeze_Squeeze #[x, c.v, int per] h K := by
  refine m_squeeze_Squeeze_ok (bxa (cs := c.cs) fun b h1 e1 hb1 k1 _ => prs h1 _ e1 fun h2 p2 => ?_)
  rw [ex20, ex21, BiP_neq]
  exact cdp (fun _ => r h2 p2) fun h => absurd he h
theorem c_squeeze_Union_err {e : Int} {P : Heap → Prop} {y : Cl} {v : Value} (he : e ≠ 0) (sv : Sl No h v [y]) (prs : ∀ h1 Q, Ext h h1 → (∀ h', P h' → Q (.tuple #[.slice none 0 0, int e]) h') → Ca f_squeeze_Pairs #[y.v] h1 Q) (r : ∀ h', P h' → K (.tuple #[.pointer none, int e]) h') : Ca f_squeeze_Union #[c.v, int per, v] h K := by
  refine m_squeeze_Union_ok (bxa (cs := c.cs) fun b h1 e1 hb1 k1 _ => (sv.ext e1).len ?_)
  refine lop (σ := Unit) (fun _ => [.pointer none, int 0, .slice none 0 0, int 0]) (fun _ h' => h' = h1) (fun _ => 0) () rfl rfl ?_
  rintro _ h2 N rfl hN
  simp only [m_squeeze_Union_l5, gv_zero, gv_succ]
  rw [BiP_lss]
  refine cdp (fun _ => ?_) fun h => absurd (by simp) h
  refine (sv.ext e1).ei (x := y) (w := y.v) (by decide) rfl rfl ?_
  refine prs h2 _ e1 fun h3 p3 => ?_
  rw [ex20, ex21, BiP_neq]
  exact cdp (fun _ => r h3 p3) fun h => absurd he h
def badP0 (c : Config) (p : Pair) : Bool := !keyOk c p.key || decide ((p.val.length : Int) > c.val)
theorem tst_bulk {b1 : Nat} (k1 : Blk h b1 c.cs) : Tst h (.func (.func f_bulk_may_1) #[] #[ptr b1 0]) Pair.v (badP0 c) := by
  intro p h0 R e0 r
  refine cvhc (by kernel_rfl) ?_
  show Ca f_bulk_may_1 #[p.v, ptr b1 0] h0 R
  refine m_bulk_may_1_ok (bxa (cs := [str p.key, str p.val]) fun b h1 e1 hb k _ => ?_)
  have e01 := e0.trans e1
  refine (LdA_b (k1.ext e01) rfl).2 ?_
  refine fv (v := str p.key) (by rw [k.get]; rfl) ?_
  refine c_node_Key (c := c) fun h2 e2 => ?_
  have e02 := e01.trans e2
  rw [UnP_not]
  unfold badP0 at r
  have r := r h2 (e1.trans e2)
  refine cd (fun h => ?_) (fun h => ?_)
  · rw [h] at r; exact r
  · rw [h] at r
    refine fv (v := str p.val) (by rw [(k.ext e2).get]; rfl) ?_
    rw [LenP_str]
    refine fv (v := int c.val) (by rw [(k1.ext e02).get]; rfl) ?_
    rw [BiP_gtr]
    unfold m_bulk_may_1_j18
    simpa using r
theorem c_bulk_rows0 (hr : c.Right) (h1 : 1 ≤ per) (h2 : per ≤ c.leaf) (r : ∀ v h', Ow h.size t_int h' v [(1 : Int)] → Ext h h' → K v h') : Ca f_bulk_rows #[c.v, int 0, int per] h K := by
  have hs := hr.1
  unfold Config.Sized at hs
  refine m_bulk_rows_ok (bxa (cs := c.cs) fun b h1' e1 hb1 k1 _ => (LdA_b k1 rfl).2 (c_conf_Check (c := c) fun h2' e2 => ?_))
  have k2 := k1.ext e2
  rw [if_pos hr, BiP_neq]
  refine cdp (fun h => absurd rfl h) fun _ => ?_
  rw [BiP_lss, decide_eq_false (by decide), CdP_false, BiP_gtr, decide_eq_false (by decide), CdP_false, BiP_lss, decide_eq_false (by omega), CdP_false]
  refine fv (v := int c.leaf) (by rw [k2.get]; rfl) ?_
  rw [BiP_gtr, decide_eq_false (by omega)]
  unfold m_bulk_rows_j29
  rw [CdP_false]
  unfold m_bulk_rows_j30
  refine add64 (by omega) (sub64 (by omega) ?_)
  have hq : (0 + per - 1).tdiv per = 0 := Int.tdiv_eq_zero_of_lt (by omega) (by omega)
  refine quo64 (by omega) (by rw [hq]; decide) ?_
  rw [hq]
  refine max_int ?_
  show BsP st_S_int 1 [(0, int 1)] h2' _
  refine bs (n0 := h2'.size) (e := t_int) (zs := #[int 0]) [(1 : Int)] rfl (Nat.le_refl _) rfl (by decide) (cs := #[int 1]) (by kernel_rfl) rfl fun v3 h3 o3 e3 => ?_
  refine lop (σ := Unit) (fun _ => [int 1, v3]) (fun _ h' => h' = h3) (fun _ => 0) () rfl rfl ?_
  rintro _ h4 N rfl hN
  simp only [m_bulk_rows_l39, gv_zero, gv_succ]
  rw [BiP_gtr, decide_eq_false (by decide), CdP_false]
  unfold m_bulk_rows_j53
  have e12 := e1.trans e2
  exact r v3 h4 (o3.low e12.le) (e12.trans e3)
theorem c_bulk_Blocks0 (hr : c.Right) (h1 : 1 ≤ per) (h2 : per ≤ c.leaf) (r : ∀ h', Ext h h' → K (int 2) h') : Ca f_bulk_Blocks #[c.v, int 0, int per] h K := by
  refine m_bulk_Blocks_ok (bxa (cs := c.cs) fun b h1' e1 hb1 k1 _ => (LdA_b k1 rfl).2 (c_bulk_rows0 hr h1 h2 fun v h2' o2 e2 => ?_))
  have s2 : Sl No h2' v [(1 : Int)] := o2.sl fun _ _ h => h
  refine s2.len ?_
  rw [BiP_eql]
  refine cdp (fun h => absurd h (by decide)) fun _ => s2.len ?_
  refine lop (σ := Nat) (fun i => [int (1 + i), int i]) (fun i h' => i ≤ 1 ∧ h' = h2') (fun i => 1 - i) 0 rfl ⟨by decide, rfl⟩ ?_
  rintro i h4 N ⟨hi, rfl⟩ hN
  simp only [m_bulk_Blocks_l10, gv_zero, gv_succ]
  rw [BiP_lss]
  refine cdp (fun hlt => ?_) (fun hge => ?_)
  · have hi0 : i = 0 := by have h2 : (i : Int) < ((1 : Nat) : Int) := hlt; omega
    subst hi0
    refine s2.ei (x := (1 : Int)) (w := int 1) (by decide) rfl rfl ?_
    refine add64 (by decide) (add64 (by decide) ?_)
    exact hN 1 h4 ⟨by decide, rfl⟩ (by decide)
  · have hi1 : i = 1 := by have h2 : ¬ ((i : Int) < ((1 : Nat) : Int)) := hge; omega
    subst hi1
    unfold m_bulk_Blocks_j18
    exact r h4 (e1.trans e2)
theorem c_bulk_may0 (hr : c.Right) (h1 : 1 ≤ per) (h2 : per ≤ c.leaf) (sx : Sl U h x ([] : List Pair)) (r : ∀ h', Ext h h' → K (int 0) h') : Ca f_bulk_may #[c.v, x, int per] h K := by
  refine m_bulk_may_ok (bxa (cs := c.cs) fun b h1' e1 hb1 k1 _ => (LdA_b k1 rfl).2 (c_conf_Check (c := c) fun h2' e2 => ?_))
  have k2 := k1.ext e2
  rw [if_pos hr, BiP_neq]
  refine cdp (fun h => absurd rfl h) fun _ => ?_
  rw [BiP_lss, decide_eq_false (by omega), CdP_false]
  refine fv (v := int c.leaf) (by rw [k2.get]; rfl) ?_
  rw [BiP_gtr, decide_eq_false (by omega)]
  unfold m_bulk_may_j18
  rw [CdP_false]
  have e12 := e1.trans e2
  refine c_leaf_Right (sx.ext e12) (by decide) fun h3 e3 => ?_
  show UnP .not (.bool true) _
  rw [UnP_not]
  refine cd (fun h => absurd h (by decide)) fun _ => ?_
  have e13 := e12.trans e3
  have k3 := k2.ext e3
  refine c_ContainsFunc_Pair (tst_bulk k3) (sx.ext e13) (by decide) fun h4 e4 => ?_
  show CdP (.bool false) _ _
  rw [CdP_false]
  have k4 := k3.ext e4
  have s4 := sx.ext (e13.trans e4)
  refine ⟨fun b' _ => b' = b, s4.len ?_⟩
  rw [BiP_gtr, decide_eq_false (by decide), CdP_false]
  refine LaX_b k4 rfl (fun _ => rfl) (s4.len ?_)
  rw [FaP_ptr]
  refine LdX_b k4 (v := int c.blocks) rfl (fun _ => rfl) ?_
  refine c_bulk_Blocks0 (c := c) hr h1 h2 fun h5 e5 => ⟨agr_b e5 k4.lt id, ?_⟩
  have hb5 := hr.2.1
  rw [BiP_gtr, decide_eq_false (by omega)]
  unfold m_bulk_may_j37
  rw [CdP_false]
  unfold m_bulk_may_j38
  exact r h5 ((e13.trans e4).trans e5)
end
structure Spot where
  block : Nat
  low : Str
  top : Str
instance : El Spot := ⟨3, fun s => [.int .u32 s.block, str s.low, str s.top], fun _ => rfl, by decide, fun _ v h => by simp at h; rcases h with rfl | rfl | rfl <;> rfl⟩
section
variable {lab lab' : Nat → Nat} {h h' : Heap} {K : Kt} {c d : Config} {b q : Nat} {x : Value} {ps : List Pair} {per : Int} {U : Nat → Prop} {sp dp kept : Nat} {D : List (List UInt8)} {V : Nat → List UInt8} {S : Nat → Bool} {rd wr : BitVec 64}
theorem c_bulk_leaves0 (k : ShS lab h sp dp c D V S kept rd wr) (hf : cnt c.blocks.toNat S < c.blocks.toNat) (hkS : S kept = true) (ho : lok c []) (sx : Sl U h x ([] : List Pair))
    (r : ∀ i lab' h' D' wr' v, 0 < i → i < c.blocks.toNat → S i = false → Lat lab lab' h → ShS lab' h' sp dp c D' (upd V i (leafOf c (nl []))) (upd S i true) kept rd wr' → Ow h.size t_bulk_spot h' v [(⟨i, [], []⟩ : Spot)] → (∀ y, v.ownBlock = some y → lab' y = 0) → Ex (Lb lab 1 12) h h' → K (.tuple #[v, int 0]) h') : Ca f_bulk_leaves #[ptr sp 0, x, int per] h K := by
  refine m_bulk_leaves_ok (bx (v := ptr sp 0) fun b1 h1 e1 hb1 k1 _ => al fun b2 h2 e2 hb2 k2 _ => al fun b3 h3 e3 hb3 k3 _ => ?_)
  have e13 := e2.trans e3
  have e03 := e1.trans e13
  have hl1 := e1.le
  have hl2 := e2.le
  let l0 : Nat → Nat := upd (upd (frl lab h) b2 99) b3 99
  have a0 : Lat lab l0 h := fun y hy => by
    show upd (upd (frl lab h) b2 99) b3 99 y = lab y
    rw [upd_ne (by omega), upd_ne (by omega)]; exact frl_lat lab h y hy
  have q2 : l0 b2 = 99 := by
    show upd (upd (frl lab h) b2 99) b3 99 b2 = 99
    rw [upd_ne (by omega), upd_same]
  have q3 : l0 b3 = 99 := upd_same
  refine (sx.ext e03).len ?_
  rw [BiP_eql]
  refine cdp (fun _ => ?_) fun h => absurd rfl h
  refine ld (v := ptr sp 0) (by rw [(k1.ext e13).get]; rfl) ?_
  refine ⟨_, #[int 0, .slice none 0 0, .slice none 0 0, .slice none 0 0, .slice none 0 0], rfl, rfl, ?_⟩
  refine c_shelf_Make ((k.lat a0).ext e03) hf hkS (n := nl []) (U := No) ⟨_, _, _, _, rfl, Sl.nil _ _, Sl.nil _ _, Sl.nil _ _, Sl.nil _ _⟩ ⟨Nat.zero_le _, Nat.zero_le _, Nat.zero_le _, Nat.zero_le _⟩ rfl ho fun i l4 h4 D4 w4 hi0 hi hS a4 k4 e4 _ => ?_
  rw [ex20, ex21]
  refine ⟨_, #[.int .u32 i, str [], str []], rfl, rfl, ?_⟩
  refine bs (n0 := h4.size) (e := t_bulk_spot) (zs := #[.int .u32 0, str [], str []]) [(⟨i, [], []⟩ : Spot)] rfl (Nat.le_refl _) rfl (by decide) (cs := #[.int .u32 i, str [], str []]) (by kernel_rfl) rfl fun v5 h5 o5 e5 => ?_
  have k24 := ((k2.ext e3).ex e4 (nLb q2 (by decide))).ext e5
  have k34 := (k3.ex e4 (nLb q3 (by decide))).ext e5
  have hl3 := e3.le
  have hl4 := e4.le
  have hl5 := e5.le
  refine StP_b k24 (show 0 < 1 by decide) (by rw [one_eq]; exact o5.one) fun h6 _ e6 k26 => ?_
  have k36 := k34.ex e6 (show ¬ b3 = b2 by omega)
  refine StP_b k36 (show 0 < 1 by decide) rfl fun h7 _ e7 k37 => ?_
  have k27 := k26.ex e7 (show ¬ b2 = b3 by omega)
  refine ld (v := v5) (by rw [k27.get]; rfl) (ld (v := int 0) (by rw [k37.get]; rfl) ?_)
  have ob := o5.block
  have o7 := (o5.exb e6 fun y hy he => by have := ob y hy; omega).exb e7 fun y hy he => by have := ob y hy; omega
  have a5 := frl_lat l4 h4
  have hb2 : l4 b2 = 99 := (a4 b2 (by omega)).trans q2
  have hb3' : l4 b3 = 99 := (a4 b3 (by have := k3.lt; omega)).trans q3
  have k3l := k3.lt
  have e6' : Ex (Lb (frl l4 h4) 99 99) h5 h6 := one_lb e6 ⟨by rw [a5 b2 (by omega), hb2]; decide, by rw [a5 b2 (by omega), hb2]; decide⟩
  have e7' : Ex (Lb (frl l4 h4) 99 99) h6 h7 := one_lb e7 ⟨by rw [a5 b3 (by omega), hb3']; decide, by rw [a5 b3 (by omega), hb3']; decide⟩
  have k7 := (((k4.lat a5).ext e5).ex13 e6' (by decide)).ex13 e7' (by decide)
  have hl03 := e03.le
  refine r i (frl l4 h4) h7 D4 w4 v5 hi0 hi hS (fun y hy => by rw [a5 y (by omega), a4 y (by omega)]; exact a0 y hy) k7 (o7.low (by omega)) (fun y hy => frl_new (ob y hy)) ?_
  have e04 : Ex (Lb lab 1 12) h h4 := a0.ex (Ex.toM e03) e4
  exact ((e04.trans (Ex.toM e5)).fresh e6 fun y hy he => by omega).fresh e7 fun y hy he => by omega
theorem c_bulk_Lay0 (hr : c.Right) (ho : lok c []) (hnf : c.frames.toNat ≤ 12) (h24 : c.blocks.toNat * c.bytes.toNat ≤ 2 ^ 24) (h1 : 1 ≤ per) (h2 : per ≤ c.leaf) (sx : Sl No h x ([] : List Pair)) (t : Tz h)
    (r : ∀ v h' root D, Ow h.size t_uint8 h' v D.flatten → ImgD c root [] D → 0 < root → root < c.blocks.toNat → D.length = c.blocks.toNat → (∀ b ∈ D, b.length = c.bytes.toNat) → Ext h h' → K (.tuple #[v, int 0]) h') : Ca f_bulk_Lay #[c.v, x, int per] h K := by
  have hb := blocks_eq hr
  have h64 := bytes64 hr
  have h65 := hr.2.2.2.2.2.1
  refine m_bulk_Lay_ok (bxa (cs := c.cs) fun b h1' e1 hb1 kb _ => (LdA_b kb rfl).2 (c_bulk_may0 hr h1 h2 (sx.ext e1) fun h2' e2 => ?_))
  have kb := kb.ext e2
  rw [BiP_neq]
  refine cdp (fun h => absurd rfl h) fun _ => ?_
  refine fv (v := int c.blocks) (by rw [kb.get]; rfl) ?_
  refine fv (v := int c.bytes) (by rw [kb.get]; rfl) ?_
  rw [hb.1, hb.2.1]
  refine c_dev_New hb.2.2.2.1 hb.2.2.2.2.1 (by omega) (by omega) h24 fun dg dp h3 hdg hdp d3 e3 => ?_
  have kb := kb.ext e3
  rw [ex20, ex21, BiP_neq]
  refine cdp (fun h => absurd rfl h) fun _ => (LdA_b kb rfl).2 ?_
  have e03 : Ext h h3 := (e1.trans e2).trans e3
  have t3 := t.ext e03
  have tl := t.lt
  have hle1 := e1.le
  have hle2 := e2.le
  have hle3 := e3.le
  have hbl := kb.lt
  refine c_shelf_New d3 hr (by rw [List.length_replicate]) rfl t3 (by omega) (by omega) fun l4 sp h4 a4 k4 hsp e4 => ?_
  rw [ex20, ex21, BiP_neq]
  refine cdp (fun h => absurd rfl h) fun _ => ?_
  have hbd : b ≠ dp ∧ b ≠ dg := ⟨by omega, by omega⟩
  have kb4 := kb.ex e4 (by rintro (h | h) <;> omega)
  have z4 : ∀ x, x < h.size → l4 x = 0 := fun x hx => by
    rw [a4 x (by omega)]
    unfold dlab
    rw [if_neg (by omega), if_neg (by omega)]
  have zb4 : l4 b = 0 := by
    rw [a4 b hbl]
    unfold dlab
    rw [if_neg hbd.1, if_neg hbd.2]
  have e04 : Ext h h4 := e03.andThen e4 fun x hx hm => by rcases hm with h | h <;> omega
  have hle4 := e4.le
  refine c_bulk_leaves0 k4 (cnt_one (by omega)) upd_same ho (sx.ext e04) fun root l5 h5 D5 w5 v5 hi0 hi hS a5 k5 o5 z5 e5 => ?_
  have kb5 := kb4.ex e5 (nLb zb4 (by decide))
  have e05 := Ex.lab0 e04 e5 (by decide) z4
  rw [ex20, ex21]
  have hle5 := e5.le
  refine lop (σ := Unit) (fun _ => [int 0, v5, int 0]) (fun _ h' => h' = h5) (fun _ => 0) () rfl rfl ?_
  rintro _ h6 N rfl hN
  simp only [m_bulk_Lay_l27, gv_zero, gv_succ]
  rw [BiP_eql]
  refine cdp (fun _ => ?_) fun h => absurd rfl h
  have s5 : Sl No h6 v5 [(⟨root, [], []⟩ : Spot)] := o5.sl fun _ _ h => h
  refine s5.len ?_
  rw [BiP_gtr, decide_eq_false (show ¬ (1 : Int) < (([(⟨root, [], []⟩ : Spot)].length : Nat) : Int) by simp)]
  unfold m_bulk_Lay_j36
  rw [CdP_false]
  unfold m_bulk_Lay_j43
  rw [BiP_neq]
  refine cdp (fun h => absurd rfl h) fun _ => (LdA_b kb5 rfl).2 ?_
  refine s5.ef (f := 0) (w := .int .u32 root) (x := ⟨root, [], []⟩) (by decide) rfl rfl ?_
  refine add64 (by decide) ?_
  refine ⟨_, (hdv c root 1).toArray, rfl, by kernel_rfl, ?_⟩
  refine c_head_Encode ⟨hr, by omega, by omega, by decide, by decide⟩ fun y h7 o7 e7 => ⟨trivial, ?_⟩
  rw [ex20, ex21, BiP_neq]
  refine cdp (fun h => absurd rfl h) fun _ => ?_
  have a7 := frl_lat l5 h6
  have k7 := (k5.lat a7).ext e7
  have sy : Sl (Use (frl l5 h6)) h7 y (headOf c root 1) := Sl.l0 o7 fun b hb => frl_new hb
  have z5 : ∀ x, x < h.size → l5 x = 0 := fun x hx => (a5 x (by omega)).trans (z4 x hx)
  have z7 : ∀ x, x < h.size → frl l5 h6 x = 0 := fun x hx => (a7 x (by omega)).trans (z5 x hx)
  refine c_shelf_Flush k7 hnf fun l8 h8 D8 w8 a8 hD8 k8 e8 => ?_
  have hle7 := e7.le
  have e08 := Ex.lab0 (e05.trans e7) e8 (by decide) z7
  refine k8.write0 (sy.lat e8 (by decide) a8) (head_len hr) fun h9 k9 e9 => ?_
  have z8 : ∀ x, x < h.size → l8 x = 0 := fun x hx => (a8 x (by omega)).trans (z7 x hx)
  have e09 := Ex.lab0 e08 e9 (by decide) z8
  obtain ⟨dg9, kd9, n1, n2⟩ := k9.dv
  refine c_dev_Image kd9 fun v10 h10 o10 e10 => ?_
  refine r v10 h10 root _ (o10.low e09.le) ⟨?_, ?_⟩ hi0 hi k9.dl kd9.all (e09.trans e10)
  · rw [List.getElem?_set_self (by have := k8.dl; omega)]
  · rw [List.getElem?_set_ne (by omega), hD8 root (by have := k7.dl; omega)]
    show some (upd _ root (leafOf c (nl [])) root) = _
    rw [upd_same]
end
end Go.Sg
namespace Go.Sg
open Go Vc
section
variable {lab lab' : Nat → Nat} {h h' : Heap} {K : Kt} {c d : Config} {b q : Nat} {x : Value} {ps : List Pair} {per : Int} {U : Nat → Prop}
theorem c_squeeze_lay0 (hr : c.Right) (ho : lok c []) (hnf : c.frames.toNat ≤ 12) (h24 : c.blocks.toNat * c.bytes.toNat ≤ 2 ^ 24) (h1 : 1 ≤ per) (h2 : per ≤ c.leaf) (sx : Sl No h x ([] : List Pair)) (t : Tz h)
    (r : ∀ lab' q h' root, 0 < root → root < c.blocks.toNat → KvF lab' h' q c [] (upd (upd (fun _ => false) 0 true) root true) → (∀ b, b < h.size → lab' b = 0) → Ext h h' → h.size ≤ q → K (.tuple #[ptr q 0, int 0]) h') : Ca f_squeeze_lay #[c.v, x, int per] h K := by
  refine m_squeeze_lay_ok (bxa (cs := c.cs) fun b h1' e1 hb1 k1 _ => (LdA_b k1 rfl).2 ?_)
  refine c_bulk_Lay0 hr ho hnf h24 h1 h2 (sx.ext e1) (t.ext e1) fun v h2' root D o2 im r0 ri dl dall e2 => ?_
  rw [ex20, ex21, BiP_neq]
  refine cdp (fun h => absurd rfl h) fun _ => ?_
  refine fv (v := int c.bytes) (by rw [(k1.ext e2).get]; rfl) ?_
  have e12 := e1.trans e2
  have hl := e12.le
  refine c_kv_OpenF hr dl dall (o2.sl (U := No) fun _ _ h => h) (t.ext e12) im r0 ri ho fun l3 q h3 k3 z3 e3 hq => ?_
  rw [ex20, ex21]
  exact r l3 q h3 root r0 ri k3 (fun y hy => z3 y (by omega)) (e12.trans e3) (by omega)
def ops34 : List Opx := [⟨1, [98], [], 0⟩, ⟨2, [98], [], 0⟩]
theorem ops34_good : goodOps leastC ops34 := fun i o hi => by
  have : i = 0 ∨ i = 1 := by
    have := (List.getElem?_eq_some_iff.1 hi).1
    have h2 : ops34.length = 2 := rfl
    omega
  rcases this with rfl | rfl
  · cases hi; exact ⟨⟨.inl rfl, by decide⟩, by decide, by decide, by decide, by decide⟩
  · cases hi; exact ⟨⟨.inr rfl, by decide⟩, by decide, by decide, by decide, by decide⟩
theorem cnt9 {root : Nat} (h0 : 0 < root) (h9 : root < 9) : cnt 9 (upd (upd (fun _ => false) 0 true) root true) = 2 := by
  have : root = 1 ∨ root = 2 ∨ root = 3 ∨ root = 4 ∨ root = 5 ∨ root = 6 ∨ root = 7 ∨ root = 8 := by omega
  rcases this with rfl | rfl | rfl | rfl | rfl | rfl | rfl | rfl <;> decide
theorem c_law34_awake (t : Tz h) (r : ∀ h', Ext h h' → K (.bool true) h') : Ca f_law34_awake #[] h K := by
  refine m_law34_awake_ok ⟨_, leastC.cs.toArray, rfl, by kernel_rfl, ?_⟩
  refine alst (vs := leastC.cs) rfl rfl rfl fun b1 h1 e1 hb1 k1 _ => (LdA_b k1 rfl).2 ?_
  refine ⟨_, #[int 1, str [98], str [], int 0], rfl, by kernel_rfl, ?_⟩
  refine ⟨_, #[int 2, str [98], str [], int 0], rfl, by kernel_rfl, ?_⟩
  refine bs (n0 := h1.size) (e := t_api_Op) (zs := #[int 0, str [], str [], int 0]) ops34 rfl (Nat.le_refl _) rfl (by decide) (cs := #[int 1, str [98], str [], int 0, int 2, str [98], str [], int 0]) (by kernel_rfl) rfl fun v2 h2 o2 e2 => ?_
  have e02 := e1.trans e2
  refine c_law34_Stored (c := leastC) (L := ops34) least_light least_ok (by decide) (by decide) (t.ext e02) (o2.sl (U := No) fun _ _ h => h) (by decide) ops34_good fun l3 q h3 y k3 z3 e3 hq => ?_
  have hlen : ops34.length = 2 := rfl
  have hps : psOf ops34 2 = [] := by decide
  rw [hlen, hps] at k3
  rw [ex20, ex21]
  have e03 := e02.trans e3
  have hl02 := e02.le
  have hl03 := e03.le
  refine (LdA_b ((k1.ext e2).ext e3) rfl).2 ?_
  refine m_squeeze_Squeeze_ok (bxa (cs := leastC.cs) fun b4 h4 e4 hb4 k4 _ => ?_)
  let l4 := loc l3 h3 b4
  have a4 : Lat l3 l4 h3 := loc_lat l3 (by omega)
  have q4 : l4 b4 = 99 := loc_at
  have kk4 := (k3.lat a4).ext e4
  have z4 : ∀ x, x < h.size → l4 x = 0 := fun x hx => (a4 x (by omega)).trans (z3 x (by omega))
  have e04 := e03.trans e4
  refine c_squeeze_Pairs kk4 List.Pairwise.nil (by decide) (by decide) (by decide) (by decide) fun l5 h5 v5 a5 k5 o5 z5 e5 => ?_
  rw [ex20, ex21, BiP_neq]
  refine cdp (fun h => absurd rfl h) fun _ => ?_
  have e05 := Ex.lab0 e04 e5 (by decide) z4
  refine (LdA_b (k4.ex e5 (nLb q4 (by decide))) rfl).2 ?_
  refine c_squeeze_lay0 (c := leastC) least_right (by decide) (by decide) (by decide) (by decide) (by decide) (o5.sl fun _ _ h => h) (t.ext e05) fun l6 q6 h6 root r0 ri k6 z6 e6 hq6 => ?_
  rw [ex20, ex21]
  show ExP (.tuple #[ptr q6 0, int 0]) 0 _
  rw [ex20, ex21, BiP_eql]
  refine cdp (fun _ => ?_) fun h => absurd rfl h
  refine neq_ptr_nil (by kernel_rfl) ?_
  show CdP (.bool true) _ _
  rw [CdP_true]
  refine c_kv_Left k6 ?_
  have h9 : leastC.blocks.toNat = 9 := rfl
  rw [h9] at ri
  rw [h9, cnt9 r0 ri, BiP_eql]
  unfold m_law34_awake_j31
  exact r h6 (e05.trans e6)
theorem c_squeeze_Missing_nil (kk : KvS lab h q c ps) (ha : Asc Pair.key ps) (hk : ∀ p ∈ ps, keyOk c p.key = true) (hlen : ps.length ≤ 2 ^ 30) (h0 : 0 ≤ c.key) (h20 : c.key ≤ 2 ^ 20)
    (r : ∀ lab' h', Lat lab lab' h → KvS lab' h' q c ps → Ex (Lb lab 1 60) h h' → K (.tuple #[.slice none 0 0, int 1]) h') : Ca f_squeeze_Missing #[ptr q 0, .pointer none] h K := by
  refine m_squeeze_Missing_ok (c_squeeze_Pairs kk ha hk hlen h0 h20 fun l1 h1 v1 a1 k1 o1 z1 e1 => ?_)
  rw [ex20, ex21, BiP_neq]
  refine cdp (fun h => absurd rfl h) fun _ => ?_
  refine c_squeeze_Pairs_nil fun h2 e2 => ?_
  rw [ex20, ex21, BiP_neq]
  refine cdp (fun _ => ?_) fun h => absurd (by decide) h
  have a2 := frl_lat l1 h1
  have hl := e1.le
  exact r _ h2 (a1.trans a2 hl) ((k1.lat a2).ext e2) (e1.trans (Ex.toM e2))
theorem c_law34_SqueezeNone (t : Tz h) (r : ∀ h', Ext h h' → K (.bool true) h') : Ca f_law34_SqueezeNone #[d.v, int per] h K := by
  refine m_law34_SqueezeNone_ok (bxa (cs := d.cs) fun b h1 e1 hb k1 _ => ?_)
  refine c_squeeze_Pairs_nil fun h2 e2 => ?_
  rw [ex20, ex21]
  refine ⟨_, kz.toArray, rfl, by kernel_rfl, ?_⟩
  refine bxa (cs := kz) fun b3 h3 e3 hb3 k3 _ => ?_
  have e03 := (e1.trans e2).trans e3
  have hl1 := e1.le
  have hl2 := e2.le
  have hl3 := e3.le
  refine c_squeeze_Pairs_void (.inr ⟨b3, rfl, k3⟩) fun h4 n4 e4 => ?_
  rw [ex20, ex21]
  have e04 : Ext h h4 := e03.andThen e4 fun y hy he => by omega
  have hbl := k1.lt
  have k14 := (k1.ext (e2.trans e3)).ex e4 (show ¬ b = b3 by omega)
  refine (LdA_b k14 rfl).2 ?_
  refine c_squeeze_Squeeze_err (c := d) (e := 1) (P := fun h' => Ext h4 h') (by decide) (fun ha Q ea hQ => c_squeeze_Pairs_nil fun hb eb => hQ hb (ea.trans eb)) fun h5 e5 => ?_
  rw [ex20, ex21]
  refine (LdA_b (k14.ext e5) rfl).2 ?_
  refine ⟨_, kz.toArray, rfl, by kernel_rfl, ?_⟩
  refine bxa (cs := kz) fun b6 h6 e6 hb6 k6 _ => ?_
  refine bs (n0 := h6.size) (e := t_P_kv_Store) (zs := #[.pointer none]) [(⟨ptr b6 0, rfl⟩ : Cl)] rfl (Nat.le_refl _) rfl (by decide) (cs := #[ptr b6 0]) (by kernel_rfl) rfl fun v7 h7 o7 e7 => ?_
  refine c_squeeze_Union_err (c := d) (e := 1) (P := fun h' => Ex (fun y => y = b6) h7 h') (y := ⟨ptr b6 0, rfl⟩) (by decide) (o7.sl fun _ _ h => h) (fun ha Q ea hQ => c_squeeze_Pairs_void (.inr ⟨b6, rfl, (k6.ext e7).ext ea⟩) fun hb nb eb => hQ hb ((Ex.toM ea).trans eb)) fun h8 e8 => ?_
  rw [ex20, ex21]
  have hl4 := e04.le
  have hl5 := e5.le
  have hl6 := e6.le
  have hl7 := e7.le
  have e07 := ((e04.trans e5).trans e6).trans e7
  have e08 : Ext h h8 := e07.andThen e8 fun y hy he => by omega
  have k18 : Blk h8 b d.cs := (((k14.ext e5).ext e6).ext e7).ex e8 (show ¬ b = b6 by have := k14.lt; omega)
  rw [LenP_slice, LenP_slice]
  refine add64 (by decide) ?_
  rw [BiP_neq]
  refine cdp (fun h => absurd rfl h) fun _ => ?_
  rw [BiP_neq]
  refine cdp (fun h => absurd rfl h) fun _ => ?_
  rw [BiP_neq]
  refine cdp (fun h => absurd rfl h) fun _ => ?_
  refine neq_ptr_nil (by kernel_rfl) ?_
  show CdP (.bool false) _ _
  rw [CdP_false, BiP_neq]
  refine cdp (fun h => absurd rfl h) fun _ => ?_
  refine neq_ptr_nil (by kernel_rfl) ?_
  show CdP (.bool false) _ _
  rw [CdP_false, BiP_neq]
  unfold m_law34_SqueezeNone_j70
  refine cdp (fun h => absurd rfl h) fun _ => ?_
  unfold m_law34_SqueezeNone_j71
  refine ⟨_, leastC.cs.toArray, rfl, by kernel_rfl, ?_⟩
  refine c_law34_Stored (c := leastC) (L := []) least_light least_ok (by decide) (by decide) (t.ext e08) (Sl.nil No h8) (by decide) (fun i o hi => by simp at hi) fun l9 q h9 y k9 z9 e9 hq => ?_
  rw [ex20, ex21]
  refine eq_ptr_nil (by kernel_rfl) ?_
  show CdP (.bool false) _ _
  rw [CdP_false]
  have e09 := e08.trans e9
  have hl8 := e08.le
  have hl9 := e9.le
  have z9' : ∀ x, x < h.size → l9 x = 0 := fun x hx => z9 x (by omega)
  refine c_squeeze_Missing_nil k9 List.Pairwise.nil (by decide) (by decide) (by decide) (by decide) fun l10 h10 a10 k10 e10 => ?_
  rw [ex20, ex21]
  have e010 := Ex.lab0 e09 e10 (by decide) z9'
  have z10 : ∀ x, x < h8.size → l10 x = 0 := fun x hx => (a10 x (by omega)).trans (z9 x hx)
  have hl10 := e10.le
  refine c_kv_Close k10 (by decide) fun v11 h11 root D k11 _ _ _ e11 => ?_
  have e011 := Ex.lab0 e010 e11 (by decide) fun x hx => z10 x (by omega)
  refine c_squeeze_Pairs_closed k11 (by decide) (by decide) fun h12 k12 e12 => ?_
  rw [ex20, ex21]
  have e012 : Ext h h12 := e011.andThen e12 fun y hy he => by omega
  have kb8 := k18.lt
  have k19 := k18.ext e9
  have k110 := k19.ex e10 (nLb (z9 b kb8) (by decide))
  have k111 := k110.ex e11 (nLb (z10 b kb8) (by decide))
  have k112 := k111.ex e12 (show ¬ b = q by omega)
  refine (LdA_b k112 rfl).2 ?_
  refine c_squeeze_Squeeze_err (c := d) (e := 13) (P := fun h' => Ex (fun y => y = q) h12 h') (by decide) (fun ha Q ea hQ => c_squeeze_Pairs_closed (c := leastC) (by
      obtain ⟨w1, w2, w3, w4, kx⟩ := k12
      exact ⟨w1, w2, w3, w4, kx.ext ea⟩) (by decide) (by decide) fun hb nb eb => hQ hb ((Ex.toM ea).trans eb)) fun h13 e13 => ?_
  rw [ex20, ex21]
  have e013 : Ext h h13 := e012.andThen e13 fun y hy he => by omega
  rw [LenP_slice, BiP_eql]
  refine cdp (fun _ => ?_) fun h => absurd rfl h
  rw [BiP_eql]
  refine cdp (fun _ => ?_) fun h => absurd rfl h
  rw [BiP_eql]
  refine cdp (fun _ => ?_) fun h => absurd rfl h
  rw [BiP_eql]
  refine cdp (fun _ => ?_) fun h => absurd rfl h
  refine c_law34_awake (t.ext e013) fun h14 e14 => ?_
  unfold m_law34_SqueezeNone_j116
  exact r h14 (e013.trans e14)
end
end Go.Sg
namespace Go.Sg
open Go Vc Go.ChangeShapes Go.WideShapes Go.RowKit Go.Deep
theorem array8 {α : Type} {cs : Array α} (h : cs.size = 8) : ∃ c0 c1 c2 c3 c4 c5 c6 c7, cs = #[c0, c1, c2, c3, c4, c5, c6, c7] := by
  obtain ⟨l⟩ := cs
  match l, h with
  | [c0, c1, c2, c3, c4, c5, c6, c7], _ => exact ⟨c0, c1, c2, c3, c4, c5, c6, c7, rfl⟩
def intT (P : Program) (t : TypeId) : Bool := match P.underlying t with
  | some (.int .i64) => true
  | _ => false
theorem open_config {H : Type} {enc : TypeId × Value → H} {P : Program} {w : World} {base : Nat} {spare : Nat → Bool} {held : Bool} {r : Reach} {b0 : Nat} {t : TypeId} {fs : Array Field} {v : Value} {d : DataW H} {p : List MemPlace}
    (hs : P.underlying t = some (.struct fs)) (hone : oneCellFields P fs = true) (hC : P.cellsOf t = 8) (h8 : fs.size = 8) (hk : (fs.toList.all fun f => intT P f.type) = true)
    (hv : Value.okWide P w r b0 t v) (h : DataW.Trod enc P w base spare held t v d p) : ∃ c : Config, v = c.v := by
  obtain ⟨cs, rfl, hsz⟩ := okWide_struct hs hv
  obtain ⟨fuel, hf⟩ := h
  obtain ⟨xs, n, _, _, hlen, hxl, hx⟩ := DataW.trod_struct hs hf
  have at_ : ∀ i (hi : i < 8) x, cs[i]? = some x → ∃ m, x = .int .i64 m := fun i hi x hc => by
    have hfi : fs[i]? = some (fs[i]'(by omega)) := Array.getElem?_eq_getElem (by omega)
    obtain ⟨o0, k0⟩ := hone_of hone i _ hfi
    have hp := hx i _ hfi
    rw [o0, k0] at hp
    have hxi : xs[i]? = some (xs[i]'(by omega)) := List.getElem?_eq_getElem (by omega)
    rw [hxi] at hp
    have hkt := List.all_eq_true.1 hk (fs[i]'(by omega)) (by simp)
    have hu : P.underlying (fs[i]'(by omega)).type = some (.int .i64) := by
      unfold intT at hkt
      split at hkt
      · assumption
      · cases hkt
    obtain ⟨m, hcell, _⟩ := DataW.trod_int hu hp
    refine ⟨m, ?_⟩
    have := congrArg List.head? hcell
    rw [List.head?_take, if_neg (by decide), List.head?_drop] at this
    simp only [Value.cells, List.head?_cons] at this
    rw [Array.getElem?_toList, hc] at this
    simpa using this
  rw [hC] at hsz
  obtain ⟨c0, c1, c2, c3, c4, c5, c6, c7, rfl⟩ := array8 hsz
  obtain ⟨m0, rfl⟩ := at_ 0 (by decide) c0 rfl
  obtain ⟨m1, rfl⟩ := at_ 1 (by decide) c1 rfl
  obtain ⟨m2, rfl⟩ := at_ 2 (by decide) c2 rfl
  obtain ⟨m3, rfl⟩ := at_ 3 (by decide) c3 rfl
  obtain ⟨m4, rfl⟩ := at_ 4 (by decide) c4 rfl
  obtain ⟨m5, rfl⟩ := at_ 5 (by decide) c5 rfl
  obtain ⟨m6, rfl⟩ := at_ 6 (by decide) c6 rfl
  obtain ⟨m7, rfl⟩ := at_ 7 (by decide) c7 rfl
  exact ⟨⟨m0, m1, m2, m3, m4, m5, m6, m7⟩, rfl⟩
theorem below_ext {w w' : World} (hk : Kin w w') (e : Ext w.heap w'.heap) : Below w.heap.size w w' := ⟨hk.os, hk.tape, hk.output, e.le, fun k hk => e.eq k hk id⟩
end Go.Sg
namespace Go.Proofs.YtfdephgpijheoaaGreatDoor
open Go Vc Go.ChangeMaps Go.ChangeShapes Go.WideShapes Go.ChangeAt Go.RowKit Go.Sg
theorem own : ownKnob Tryz.prog.godebug = none := by kernel_rfl
theorem gTabNamed : Tryz.prog.globalNamed "math/bits.deBruijn64tab" = some gTab := by kernel_rfl
theorem gTabType : (Tryz.prog.globals[gTab]?).map (·.type) = some t_A64_uint8 := by kernel_rfl
theorem laid_tab {H : Type} : (Rows.laid_math_bits_deBruijn64tab : DataW H) = .agg (tzTab.map fun (v : Nat) => .lit (.int .u8 (v : Int))) := by rfl
theorem tz_of_laid {W : World} (h : laidMetH Tryz.prog Rows.squeezeNoneRow.laid W) : Tz W.heap := by
  rw [MakeChecks.laidMetH_plain _ _ _ (by kernel_rfl)] at h
  obtain ⟨ps, ⟨g0, t0, cs0, f0, p0, q0, hg0, ht0, hv0, hd0, _, _⟩, _, _⟩ := h
  obtain rfl := Option.some.inj (gTabNamed.symm.trans hg0)
  obtain rfl := Option.some.inj (gTabType.symm.trans ht0)
  have hu : Tryz.prog.underlying t_A64_uint8 = some (.array 64 t_uint8) := by kernel_rfl
  have hu8 : Tryz.prog.underlying t_uint8 = some (.int .u8) := by kernel_rfl
  have c8 : Tryz.prog.cellsOf t_uint8 = 1 := by kernel_rfl
  obtain ⟨xs, m, rfl, hx, hlen, hn, hel⟩ := DataW.trod_array hu hd0
  simp only [Prod.mk.injEq] at hx
  have hx1 : (.agg (tzTab.map fun (v : Nat) => .lit (.int .u8 (v : Int))) : DataW Unit) = .agg (xs.map (·.1)) := laid_tab.symm.trans hx.1
  simp only [DataW.agg.injEq] at hx1
  have hat : ∀ (j v : Nat), tzTab[j]? = some v → hget W.heap gTab j = some (.int .u8 (v : Int)) := fun j v hj => by
    have hj64 : j < 64 := (List.getElem?_eq_some_iff.1 hj).1
    have h1 := hel j hj64
    rw [c8, Nat.mul_one] at h1
    have hxj : xs[j]? = some (xs[j]'(by omega)) := List.getElem?_eq_getElem (by omega)
    rw [hxj] at h1
    obtain ⟨n, hc, he, hw⟩ := DataW.trod_int hu8 h1
    have h2 : (xs.map (·.1))[j]? = some (.lit (.int .u8 (v : Int))) := by rw [← hx1, List.getElem?_map, hj]; rfl
    rw [List.getElem?_map, hxj, he] at h2
    simp only [Option.map_some, Option.some.injEq, DataW.lit.injEq, Lit.int.injEq, true_and] at h2
    subst h2
    have h3 : cs0[j]? = some (.int .u8 (v : Int)) := by
      have := congrArg List.head? hc
      rw [List.head?_take, if_neg (by decide), List.head?_drop] at this
      simpa using this
    have h4 := World.var?_cell hg0 hv0 j
    rw [h3] at h4
    rw [← Vc.cell_hget]; exact h4
  have hlt : gTab < W.heap.size := by
    have := hat 0 0 rfl
    unfold hget at this
    cases hq : W.heap[gTab]? with
    | none => rw [hq] at this; cases this
    | some o => exact (Array.getElem?_eq_some_iff.1 hq).1
  exact ⟨hlt, hat⟩
theorem keptBut_ext {W W' : World} {may : MemPlace → Prop} (hk : Kin W W') (hx : Ext W.heap W'.heap) : W.keptBut W' may :=
  ⟨hk.os, hk.output, fun i hi => by rw [hx.eq i hi id]; exact (World.keptBut_refl W may).2.2 i hi⟩
noncomputable def laidWorld (os : Os) : World :=
  let w0 := World.holding Tryz.prog os ⟨#[], #[], []⟩
  { w0 with heap := w0.heap.modify gTab fun
      | .cells _ t frozen => .cells (tzTab.map fun (v : Nat) => Value.int .u8 (v : Int)).toArray t frozen
      | o => o }
theorem laidWorld_met (os : Os) (args : Array Value) : laidMetH Tryz.prog Rows.squeezeNoneRow.laid ((laidWorld os).forCall (fun _ _ => 0) ⟨#[], args, []⟩).memory := by
  rw [MakeChecks.laidMetH_plain _ _ _ (by kernel_rfl)]
  exact laidMet_of_run' 8 (by kernel_rfl) (by kernel_rfl)
theorem lo : laidOutB Tryz.prog = true := by kernel_rfl
set_option maxRecDepth 100000 in
theorem lifted (os : Os) (started : os.Started) (H : Type) (enc : TypeId × Value → H) :
    ReturnsInHanded {} Tryz.checked os 5 .any (fun w args => (Rows.squeezeNoneSpec.pre enc Tryz.prog Tryz.f5 [] false w args ∧ laidMetH Tryz.prog Rows.squeezeNoneRow.laid w) ∧ sizedMet enc Tryz.prog Tryz.f5 (OpenSpec.ofChange Rows.squeezeNoneSpec) false w args)
      (Rows.squeezeNoneSpec.post enc Tryz.prog Tryz.f5 false true false false) := by
  refine returnsInHanded_of_change_and (C := Tryz.checked) (X := fun w _ => laidMetH Tryz.prog Rows.squeezeNoneRow.laid w) (fun _ _ _ hh h => h.of_heap hh) own started (by kernel_rfl) Tryz.func5
    (ChangeSpec.witness_at (enc := enc) (C := Tryz.checked) (os := os) (X := fun w _ => laidMetH Tryz.prog Rows.squeezeNoneRow.laid w) false (laidWorld os) #[.agg #[.int .i64 0, .int .i64 0, .int .i64 0, .int .i64 0, .int .i64 0, .int .i64 0, .int .i64 0, .int .i64 0], .int .i64 0] 8 rfl (by kernel_rfl) (by kernel_rfl) (by kernel_rfl) (by kernel_rfl) (by kernel_rfl) (laidWorld_met os _)) ?_
  intro W base args ds gs before hval0 hW _ _ hL _
  have hval : ∀ (j : Nat) t v, Tryz.f5.params[j]? = some t → args[j]? = some v → Value.okWide Tryz.prog W .any base t v := hval0
  have hW' := hW
  obtain ⟨p, q, hA0, hV, rfl, hfz, hnd⟩ := hW
  have hA : DataW.TrodAll enc Tryz.prog W 0 (fun _ => true) true Tryz.f5.params.toList args.toList ds p := hA0
  rw [Tryz.params5] at hA hval
  obtain ⟨v0, v1, d0, d1, p0, p1, rfl, rfl, rfl, h0, h1⟩ := trodAll_two hA
  obtain ⟨rfl, rfl⟩ := trodVars_none hV
  obtain ⟨d, rfl⟩ := open_config (t := 41) Tryz.underlying41 (by kernel_rfl) (by kernel_rfl) rfl (by kernel_rfl) (hval 0 41 v0 rfl rfl) h0
  obtain ⟨m, rfl, rfl, rfl, w1⟩ := open_int (k := .i64) (t := 3) (by kernel_rfl) (hval 1 3 v1 rfl rfl) h1
  have tz := tz_of_laid hL
  have hlt := hA0.lt
  clear hA0 hval0
  have law := c_law34_SqueezeNone (K := fun v h => v = .bool true ∧ Ext W.heap h) (d := d) (per := m) tz (fun h' e => ⟨rfl, e⟩) W rfl
  refine Calls.mono law fun e W' he => ?_
  obtain ⟨v, rfl, hk, rfl, hx⟩ := he
  refine ⟨_, rfl, _, _, _, [], p0 ++ [], [], hW', ?_, ?_, ?_, ?_, fun h => by cases h⟩
  · exact trodAll_mk1 (shut_bool Tryz.underlying4 true)
  · exact trodAll_mk2 (Below.trod lo (by kernel_rfl) (of_decide_eq_true (by kernel_rfl)) h0 (below_ext hk hx) (fun x hx => hlt x (List.mem_append_left _ hx))) (shut_int (by kernel_rfl) w1)
  · rfl
  · exact keptBut_ext hk hx
theorem jf0 : Rows.squeezeNoneRow.wf (OpenSpec.ofChange Rows.squeezeNoneSpec) = true := by kernel_rfl
theorem jf1 : laidOutB Tryz.prog = true := lo
theorem jf2 : mapsRowed Tryz.prog = true := by kernel_rfl
theorem jf3 : Tryz.f5.params.all (Tryz.prog.readableRec ·) = true := by kernel_rfl
theorem jf4 : namedTie Tryz.prog Rows.squeezeNoneRow.named Rows.squeezeNoneSpec.vars = true := by kernel_rfl
theorem jf5 : (Rows.squeezeNoneRow.stops == []) = true := by kernel_rfl
theorem jf6 : (Tryz.prog.stops == []) = true := by kernel_rfl
theorem jf7 : (Rows.squeezeNoneRow.knobs == []) = true := by kernel_rfl
theorem jf8 : (Tryz.prog.stopKnobs == []) = true := by kernel_rfl
theorem jf9 : (Rows.squeezeNoneRow.inPlace == Tryz.prog.inPlace 5) = true := by kernel_rfl
theorem jf10 : (Rows.squeezeNoneRow.unfollowed == Tryz.prog.unfollowed 5) = true := by kernel_rfl
theorem jf11 : (Rows.squeezeNoneRow.recurses == Tryz.prog.recurses 5) = true := by kernel_rfl
theorem jf12 : (Rows.squeezeNoneRow.named == Tryz.prog.varsNamed 5) = true := by kernel_rfl
theorem jf13 : (Rows.squeezeNoneRow.maps == (Tryz.f5.params.toList ++ Rows.squeezeNoneSpec.plain.varTypes Tryz.prog).any (Tryz.prog.mapsRec ·)) = true := by kernel_rfl
theorem jf14 : (Rows.squeezeNoneRow.ifaces == (Tryz.f5.params.toList ++ Rows.squeezeNoneSpec.plain.varTypes Tryz.prog).any (Tryz.prog.ifacesRec ·)) = true := by kernel_rfl
theorem jf15 : (Rows.squeezeNoneRow.mapsOut == Tryz.prog.mapsAmong Tryz.f5.resultTypes.toList) = true := by kernel_rfl
theorem jf16 : (Rows.squeezeNoneRow.loops == (Tryz.f5.params.toList ++ Rows.squeezeNoneSpec.plain.varTypes Tryz.prog).any (Tryz.prog.loopsFrom ·)) = true := by kernel_rfl
theorem jf17 : (Rows.squeezeNoneRow.wideKeys == (Tryz.f5.params.toList ++ Rows.squeezeNoneSpec.plain.varTypes Tryz.prog ++ Tryz.f5.resultTypes.toList).any (Tryz.prog.wideKeysFrom ·)) = true := by kernel_rfl
theorem jf18 : Rows.squeezeNoneSpec.vars.all (Tryz.prog.varReadable ·) = true := by kernel_rfl
theorem jf19 : Tryz.f5.resultTypes.all (fun t => Tryz.prog.readableRec t && decide (t < Tryz.prog.types.size)) = true := by kernel_rfl
theorem jf20 : (Rows.squeezeNoneRow.ifacesOut == Tryz.f5.resultTypes.toList.any (Tryz.prog.ifacesRec ·)) = true := by kernel_rfl
theorem jf21 : (Rows.squeezeNoneRow.loopsOut == Tryz.f5.resultTypes.toList.any (Tryz.prog.loopsFrom ·)) = true := by kernel_rfl
theorem jf22 : (Rows.squeezeNoneRow.plainKeys == Tryz.prog.plainKeys) = true := by kernel_rfl
theorem jf23 : Rows.squeezeNoneRow.shortTexts.isNone = true := by kernel_rfl
theorem jf24 : Tryz.prog.stopsHeard = true := by kernel_rfl
theorem jf25 : Tryz.prog.mayEnter = true := by kernel_rfl
theorem jf26 : (Rows.squeezeNoneRow.lifted == Tryz.prog.liftsFinal) = true := by kernel_rfl
theorem jf27 : (Tryz.prog.make == some Rows.squeezeNoneRow.make) = true := by kernel_rfl
theorem jf29 : (Rows.squeezeNoneRow.pinned == Rows.squeezeNoneRow.pinnedBy) = true := by kernel_rfl
theorem jf30 : (Rows.squeezeNoneRow.veiled == (Tryz.f5.params.toList ++ Rows.squeezeNoneSpec.plain.varTypes Tryz.prog ++ Tryz.f5.resultTypes.toList).any (Tryz.prog.veiledRec ·)) = true := by kernel_rfl
theorem jf31 : Rows.squeezeNoneRow.veiledFits Tryz.prog Tryz.f5.params.toList (Tryz.f5.params.toList ++ Rows.squeezeNoneSpec.plain.varTypes Tryz.prog ++ Tryz.f5.resultTypes.toList) = true := by kernel_rfl
theorem band {a b : Bool} (h : a = true) (k : b = true) : (a && b) = true := by rw [h, k]; rfl
theorem closed : joinedFacts Tryz.prog 5 Tryz.f5 Rows.squeezeNoneSpec Rows.squeezeNoneRow = true :=
  band (band (band (band (band (band (band (band (band (band (band (band (band (band (band (band (band (band (band (band (band (band (band (band (band (band (band (band (band (band (band jf0 jf1) jf2) jf3) jf4) jf5) jf6) jf7) jf8) jf9) jf10) jf11) jf12) jf13) jf14) jf15) jf16) jf17) jf18) jf19) jf20) jf21) jf22) jf23) jf24) jf25) jf26) jf27) (by kernel_rfl)) jf29) jf30) jf31
theorem kw : Rows.squeezeNoneRow.wfByText (OpenSpec.ofChange Rows.squeezeNoneSpec) = true := by kernel_rfl
theorem km : Tryz.prog.mainIs = some (true, "b930a49a48f7ea69164dfd424c24a42e9db92b0e4bb5fef919311b0f8a37c905".toList) := by kernel_rfl
theorem kl : true = Tryz.prog.looks [] := by kernel_rfl
theorem kg : false = Rows.squeezeNoneRow.goesBy Tryz.prog := by kernel_rfl
theorem kn : Tryz.prog.funcNamed "sluicegate/sluicegatelaw34.SqueezeNone" = some 5 := by kernel_rfl
theorem ks41 : Tryz.prog.wantsStandIn 41 = false := by kernel_rfl
theorem ks3 : Tryz.prog.wantsStandIn 3 = false := by kernel_rfl
theorem row_holds : Rows.SqueezeNoneSaid :=
  OpenClaim.holds_of_wide 5 Tryz.f5 rfl rfl rfl rfl rfl rfl rfl ⟨rfl, rfl, rfl, rfl, rfl⟩ rfl rfl rfl rfl rfl kn Tryz.func5 closed
    (of_decide_eq_true (by kernel_rfl)) (by unfold Func.isWrapper; first | (rw [if_pos (by decide +kernel)]; kernel_rfl) | (rw [if_neg (by decide +kernel)]; exact ⟨rfl, rfl⟩))
    (fun os started H enc _ => lifted os started H enc)
theorem stands (j : Nat) (t : TypeId) (ht : Tryz.f5.params[j]? = some t) : Tryz.prog.wantsStandIn t = false := by
  rw [Tryz.params5] at ht
  rcases j with _ | _ | j
  · obtain rfl : 41 = t := by simpa using ht
    exact ks41
  · obtain rfl : 3 = t := by simpa using ht
    exact ks3
  · simp at ht
theorem squeezeNone_holds : Rows.SqueezeNoneCardSaid :=
  Claim7.holds_tied_plain_at .later [] [.data] true (true, "b930a49a48f7ea69164dfd424c24a42e9db92b0e4bb5fef919311b0f8a37c905") true
    row_holds (fun _ h => by cases h) kw (fun _ h => by cases h) squeezeNone_row_tie rfl ⟨rfl, rfl⟩ km rfl
    (fun f fn hf hfn => by
      obtain rfl : f = 5 := Option.some.inj (kn.symm.trans hf) |>.symm
      obtain rfl : fn = Tryz.f5 := (Option.some.inj (Tryz.func5.symm.trans hfn)).symm
      exact ⟨kl, stands⟩)
    kg
#print axioms squeezeNone_holds
end Go.Proofs.YtfdephgpijheoaaGreatDoor
