/-
  A cursor that nobody made tells nothing, there is none of no store, and one of a closed store is told so: the law returns true at every input, and its arguments read as they did; under the row's condition on the package variable math/bits.deBruijn64tab, which the card ties to the program's text.
-/
import Derived.Test.YtfdephgpijheoaaGreatDoorRows
import Derived.Test.YtfdephgpijheoaaGreatDoorTie
import Derived.Test.YtfdephgpijheoaaGreatDoorCards
import Derived.ProofKit
import Derived.LaidMore
import Derived.LaidHandle
import Derived.MakeChecks
import Derived.OpenShut
import Derived.Stop.Joined
import Derived.Lib.SmallJoins
import Derived.SevenTiedAt
import Derived.JoinedOf
import Derived.Test.YtfdephgpijheoaaGreatDoorP14
set_option linter.unusedVariables false
set_option linter.unusedSimpArgs false
namespace Go.Sg
open Go Vc
def cz : List Value := [.pointer none, str [], str [], str [], int 0, int 0, .slice none 0 0]
def NobC (h : Heap) (x : Value) : Prop := x = .pointer none ∨ ∃ b, x = ptr b 0 ∧ Blk h b cz
def curc (q : Nat) (first lo hi : Str) (batch told : Int) (asked : Value) : List Value := [ptr q 0, str first, str lo, str hi, int batch, int told, asked]
section
variable {lab lab' : Nat → Nat} {h h' : Heap} {K : Kt} {x : Value} {c : Config} {ps A : List Pair} {b q : Nat} {first lo hi key : Str} {batch told : Int} {v : Value}
theorem NobC.ext (n : NobC h x) (e : Ext h h') : NobC h' x := n.imp id fun ⟨b, h1, h2⟩ => ⟨b, h1, h2.ext e⟩
theorem c_cursor_none_nob (n : NobC h x) (r : K (.bool true) h) : Ca f_cursor_Cursor_none #[x] h K := by
  rcases n with rfl | ⟨b, rfl, k⟩
  · exact m_cursor_Cursor_none_ok (eq_ptr_nil (by kernel_rfl) r)
  · refine m_cursor_Cursor_none_ok (eq_ptr_nil (by kernel_rfl) (fl (v := .pointer none) (by rw [k.get]; rfl) ?_))
    exact eq_ptr_nil (by kernel_rfl) r
theorem c_cursor_Next_nob (n : NobC h x) (r : ∀ h', Ext h h' → K (.tuple #[.agg #[str [], str []], .bool false, int 1]) h') : Ca f_cursor_Cursor_Next #[x] h K := by
  refine m_cursor_Cursor_Next_ok (ala (cs := [str [], str []]) fun b h1 e1 hb k1 _ => ?_)
  refine c_cursor_none_nob (n.ext e1) ?_
  rw [CdP_true]
  refine ⟨_, #[str [], str []], rfl, rfl, ?_⟩
  refine StA_b (vs := [str [], str []]) k1 rfl rfl rfl fun h2 _ e2 k2 => ?_
  refine (LdA_b k2 rfl).2 (r h2 ?_)
  exact e1.andThen e2 fun x hx he => by omega
theorem c_cursor_Seek_nob (n : NobC h x) (r : K (int 1) h) : Ca f_cursor_Cursor_Seek #[x, str key] h K := by
  refine m_cursor_Cursor_Seek_ok (c_cursor_none_nob n ?_)
  rw [CdP_true]; exact r
theorem c_cursor_Told_nob (n : NobC h x) (r : K (int 0) h) : Ca f_cursor_Cursor_Told #[x] h K := by
  refine m_cursor_Cursor_Told_ok (c_cursor_none_nob n ?_)
  rw [CdP_true]; exact r
theorem c_cursor_All_nob {f : Value} (n : NobC h x) (r : K (int 1) h) : Ca f_cursor_Cursor_All #[x, f] h K := by
  refine m_cursor_Cursor_All_ok (c_cursor_none_nob n ?_)
  rw [CdP_true]; exact r
theorem c_cursor_New_nil (r : K (.tuple #[.pointer none, int 1]) h) : Ca f_cursor_New #[.pointer none, str lo, str hi, int batch] h K :=
  m_cursor_New_ok (eq_ptr_nil (by kernel_rfl) r)
theorem c_cursor_New (h1 : 1 ≤ batch) (h2 : batch ≤ 1000) (r : ∀ b h', Ext h h' → b = h.size → Blk h' b (curc q lo lo hi batch 0 (.slice none 0 0)) → K (.tuple #[ptr b 0, int 0]) h') : Ca f_cursor_New #[ptr q 0, str lo, str hi, int batch] h K := by
  refine m_cursor_New_ok (eq_ptr_nil (by kernel_rfl) ?_)
  show CdP (.bool false) _ _
  rw [CdP_false, BiP_lss, decide_eq_false (by omega), CdP_false, BiP_gtr, decide_eq_false (by omega)]
  unfold m_cursor_New_j9
  rw [CdP_false]
  unfold m_cursor_New_j10
  refine ⟨_, (curc q lo lo hi batch 0 (.slice none 0 0)).toArray, rfl, rfl, ?_⟩
  exact bxa (cs := curc q lo lo hi batch 0 (.slice none 0 0)) fun b h1 e1 hb k1 _ => r b h1 e1 hb k1
theorem c_cursor_none {cs : List Value} (k : Blk h b (ptr q 0 :: cs)) (r : K (.bool false) h) : Ca f_cursor_Cursor_none #[ptr b 0] h K := by
  refine m_cursor_Cursor_none_ok (eq_ptr_nil (by kernel_rfl) (fl (v := ptr q 0) (by rw [k.get]; rfl) ?_))
  exact eq_ptr_nil (by kernel_rfl) r
theorem c_cursor_Told (k : Blk h b (curc q first lo hi batch told v)) (r : K (int told) h) : Ca f_cursor_Cursor_Told #[ptr b 0] h K := by
  refine m_cursor_Cursor_Told_ok (c_cursor_none k ?_)
  rw [CdP_false]
  exact fl (v := int told) (by rw [k.get]; rfl) r
theorem c_cursor_Next_closed (k : Blk h b (curc q first lo hi batch told (.slice none 0 0))) (kx : KvX h q c) (hbq : b ≠ q)
    (r : ∀ h', KvX h' q c → Blk h' b (curc q first lo hi batch told (.slice none 0 0)) → Ex (fun x => x = q) h h' → K (.tuple #[.agg #[str [], str []], .bool false, int 13]) h') : Ca f_cursor_Cursor_Next #[ptr b 0] h K := by
  refine m_cursor_Cursor_Next_ok (ala (cs := [str [], str []]) fun b1 h1 e1 hb1 k1 _ => ?_)
  have k := k.ext e1
  have hq : q < h.size := by obtain ⟨_, _, _, _, z⟩ := kx; exact z.lt
  refine c_cursor_none k ?_
  rw [CdP_false]
  refine fl (v := .slice none 0 0) (by rw [k.get]; rfl) ((Sl.nil (α := Pair) No h1).len ?_)
  rw [BiP_eql]
  refine cdp (fun _ => ?_) fun h => absurd rfl h
  refine fl (v := ptr q 0) (by rw [k.get]; rfl) (fl (v := str lo) (by rw [k.get]; rfl) (fl (v := str hi) (by rw [k.get]; rfl) (fl (v := int batch) (by rw [k.get]; rfl) ?_)))
  refine c_kv_Range_closed (kx.ext e1) fun h2 kx2 e2 => ⟨trivial, ?_⟩
  rw [ex20, ex21, BiP_neq]
  refine cdp (fun _ => ?_) fun h => absurd (by decide) h
  unfold m_cursor_Cursor_Next_j37
  rw [CdP_true]
  refine ⟨_, #[str [], str []], rfl, rfl, ?_⟩
  have k12 := k1.ex e2 (show ¬ b1 = q by omega)
  have kb2 := k.ex e2 hbq
  have hb : b ≠ b1 := by have := k.lt; intro hh; subst hh; exact absurd (k.uniq k1) (by simp [curc])
  refine StA_b (vs := [str [], str []]) k12 rfl rfl rfl fun h3 _ e3 k3 => ?_
  refine (LdA_b k3 rfl).2 (r h3 ?_ (kb2.ex e3 hb) ?_)
  · obtain ⟨w1, w2, w3, w4, z⟩ := kx2
    exact ⟨w1, w2, w3, w4, z.ex e3 (by omega)⟩
  · exact ((Ex.toM e1).trans e2).fresh e3 fun y hy he => by omega
structure CuS (lab : Nat → Nat) (h : Heap) (b q : Nat) (first lo hi : Str) (batch told : Int) (A : List Pair) : Prop where
  out : ∃ v, Blk h b (curc q first lo hi batch told v) ∧ Sl (Use lab) h v A
  l60 : lab b = 60
def askedP (ps A : List Pair) (lo hi : Str) (batch : Int) : List Pair := if A = [] then rangeK ps lo hi batch else A
theorem c_cursor_Next (k : CuS lab h b q first lo hi batch told A) (kk : KvS lab h q c ps) (hn : batch < 9223372036854775808) (ht0 : 0 ≤ told) (ht : told < 2 ^ 62) (hlk : ∀ p ∈ askedP ps A lo hi batch, p.key.length ≤ 2 ^ 30)
    (r0 : askedP ps A lo hi batch = [] → ∀ lab' h', Lat lab lab' h → CuS lab' h' b q first lo hi batch told [] → KvS lab' h' q c ps → Ex (Lb lab 1 60) h h' → K (.tuple #[.agg #[str [], str []], .bool false, int 0]) h')
    (r1 : ∀ p T, askedP ps A lo hi batch = p :: T → ∀ lab' h', Lat lab lab' h → CuS lab' h' b q first (p.key ++ [0]) hi batch (told + 1) T → KvS lab' h' q c ps → Ex (Lb lab 1 60) h h' → K (.tuple #[.agg #[str p.key, str p.val], .bool true, int 0]) h') :
    Ca f_cursor_Cursor_Next #[ptr b 0] h K := by
  obtain ⟨⟨v, kb, sv⟩, l60⟩ := k
  refine m_cursor_Cursor_Next_ok (ala (cs := [str [], str []]) fun b1 h1 e1 hb1 k1 _ => ?_)
  have hbl := kb.lt
  have a1 : Lat lab (loc lab h b1) h := loc_lat lab (by omega)
  have kk1 := (kk.lat a1).ext e1
  have kb1 := kb.ext e1
  have q99 : loc lab h b1 b1 = 99 := loc_at
  have q60 : loc lab h b1 b = 60 := (a1 b hbl).trans l60
  have sv1 : Sl (Use (loc lab h b1)) h1 v A := (sv.ex e1 (fun _ _ h => h.elim) (fun y hy hm => by show lab y ≠ 0; rw [← a1 y hy]; exact hm))
  refine c_cursor_none kb1 ?_
  rw [CdP_false]
  refine fl (v := v) (by rw [kb1.get]; rfl) (sv1.len ?_)
  have tell : ∀ (l2 : Nat → Nat) (h2 : Heap) (w : Value) (p : Pair) (T : List Pair), askedP ps A lo hi batch = p :: T → Lat (loc lab h b1) l2 h1 → KvS l2 h2 q c ps → Blk h2 b (curc q first lo hi batch told w) → Sl (Use l2) h2 w (p :: T) → Blk h2 b1 [str [], str []] → Ex (Lb (loc lab h b1) 1 60) h1 h2 → m_cursor_Cursor_Next_j45 (ptr b 0) (ptr b1 0) h2 K := fun l2 h2 w p T hA a2 k2 kb2 sw k12 e2 => by
    unfold m_cursor_Cursor_Next_j45
    refine fl (v := w) (by rw [kb2.get]; rfl) (sw.ea (x := p) (by decide) rfl ?_)
    refine alst (vs := [str p.key, str p.val]) rfl rfl rfl fun b3 h3 e3 hb3 k3 _ => ?_
    have kb3 := kb2.ext e3
    have s3 := sw.ext e3
    refine fl (v := w) (by rw [kb3.get]; rfl) ?_
    refine s3.part (a := 1) (b := (p :: T).length) rfl rfl (by simp) (Nat.le_refl _) fun w4 s4 => ?_
    have hT : ((p :: T).take (p :: T).length).drop 1 = T := by rw [List.take_length]; rfl
    rw [hT] at s4
    refine Fs_b kb3 (show 0 + 6 < 7 by decide) (by rw [one_eq]; exact s4.one) fun h4 _ e4 kb4 => ?_
    have hb2l := kb2.lt
    have k34 := k3.ex e4 (show ¬ b3 = b by omega)
    refine fv (v := str p.key) (by rw [k34.get]; rfl) ?_
    have hpk : p.key.length ≤ 2 ^ 30 := hlk p (by rw [hA]; exact List.mem_cons_self ..)
    refine c_lex_Next (by omega) ?_
    refine Fs_b kb4 (show 0 + 2 < 7 by decide) rfl fun h6 _ e6 kb6 => ?_
    refine fl (v := int told) (by rw [kb6.get]; rfl) (add64 (by omega) ?_)
    refine Fs_b kb6 (show 0 + 5 < 7 by decide) rfl fun h7 _ e7 kb7 => ?_
    have kb7 : Blk h7 b (curc q first (p.key ++ [0]) hi batch (told + 1) w4) := kb7
    have k37 := (k34.ex e6 (show ¬ b3 = b by omega)).ex e7 (show ¬ b3 = b by omega)
    refine (LdA_b k37 rfl).2 ?_
    have hb1b : b1 ≠ b := by omega
    have k17 := (((k12.ext e3).ex e4 hb1b).ex e6 hb1b).ex e7 hb1b
    refine StA_b (vs := [str p.key, str p.val]) k17 rfl rfl rfl fun h8 _ e8 k8 => (LdA_b k8 rfl).2 ?_
    have l2b : l2 b = 60 := (a2 b kb1.lt).trans q60
    have l2b1 : l2 b1 = 99 := (a2 b1 k1.lt).trans q99
    have eb : ∀ {ha hc : Heap}, Ex (fun x => x = b) ha hc → Ex (Lb l2 60 60) ha hc := fun e => one_lb e ⟨by rw [l2b]; decide, by rw [l2b]; decide⟩
    have e8' : Ex (Lb l2 99 99) h7 h8 := one_lb e8 ⟨by rw [l2b1]; decide, by rw [l2b1]; decide⟩
    have k28 := (((((k2.ext e3).ex16 (eb e4) (by decide)).ex16 (eb e6) (by decide)).ex16 (eb e7) (by decide))).ex16 e8' (by decide)
    have e37 : Ex (fun x => x = b) h3 h7 := (e4.trans e6).trans e7
    have s8 : Sl (Use l2) h8 w4 T := (s4.keep e37 fun y hy => by subst hy; show l2 y ≠ 0; rw [l2b]; decide).keep e8 fun y hy => by subst hy; show l2 y ≠ 0; rw [l2b1]; decide
    have a02 : Lat lab l2 h := a1.trans a2 e1.le
    refine r1 p T hA l2 h8 a02 ⟨⟨w4, kb7.ex e8 (fun h => hb1b h.symm), s8⟩, (a02 b hbl).trans l60⟩ k28 ?_
    have e02 : Ex (Lb lab 1 60) h h2 := a1.ex (Ex.toM e1) e2
    have e07 : Ex (Lb lab 1 60) h h7 := e02.trans ((Ex.toM e3).trans (e37.mono fun y _ he => by subst he; exact ⟨by rw [l60]; decide, by rw [l60]; decide⟩))
    exact e07.fresh e8 fun y hy he => by omega
  rw [BiP_eql]
  cases hA : A with
  | cons p T =>
    refine cdp (fun h => absurd h (by simp; omega)) fun _ => ?_
    subst hA
    exact tell _ h1 v p T (if_neg (by simp)) (Lat.refl _ _) kk1 kb1 sv1 k1 (Ex.refl _ _)
  | nil =>
    subst hA
    have hask : askedP ps [] lo hi batch = rangeK ps lo hi batch := if_pos rfl
    refine cdp (fun _ => ?_) fun h => absurd rfl h
    refine fl (v := ptr q 0) (by rw [kb1.get]; rfl) (fl (v := str lo) (by rw [kb1.get]; rfl) (fl (v := str hi) (by rw [kb1.get]; rfl) (fl (v := int batch) (by rw [kb1.get]; rfl) ?_)))
    refine c_kv_Range kk1 hn fun l2 h2 w a2 k2 o2 z2 e2 => ⟨trivial, ?_⟩
    rw [ex20, ex21, BiP_neq]
    refine cdp (fun h => absurd rfl h) fun _ => ?_
    have sw : Sl (Use l2) h2 w (rangeK ps lo hi batch) := by
      have := o2.block
      have s0 : Sl No h2 w (rangeK ps lo hi batch) := o2.sl fun _ _ h => h
      obtain ⟨a, cap, hv, hc, hn0, hx⟩ := s0.out
      refine ⟨a, cap, hv, hc, hn0, fun y hy => ⟨(hx y hy).1, fun hl => ⟨((hx y hy).2 hl).1, fun hu => hu (z2 y.block ?_), ((hx y hy).2 hl).2.2⟩⟩⟩
      rw [hv, hy]; rfl
    have kb2 := kb1.ex e2 (nLb q60 (by decide))
    have k12 := k1.ex e2 (nLb q99 (by decide))
    have e2' : Ex (Lb (loc lab h b1) 1 60) h1 h2 := Lb.wide e2 (by decide) (by decide)
    refine sw.len ?_
    rw [BiP_eql]
    unfold m_cursor_Cursor_Next_j37
    cases hR : rangeK ps lo hi batch with
    | nil =>
      refine cdp (fun _ => ?_) fun h => absurd rfl h
      refine ⟨_, #[str [], str []], rfl, rfl, ?_⟩
      refine StA_b (vs := [str [], str []]) k12 rfl rfl rfl fun h3 _ e3 k3 => (LdA_b k3 rfl).2 ?_
      have l2b1 : l2 b1 = 99 := (a2 b1 k1.lt).trans q99
      have e3' : Ex (Lb l2 99 99) h2 h3 := one_lb e3 ⟨by rw [l2b1]; decide, by rw [l2b1]; decide⟩
      have a02 : Lat lab l2 h := a1.trans a2 e1.le
      have hb1b : b ≠ b1 := by omega
      refine r0 (hask.trans hR) l2 h3 a02 ⟨⟨v, kb2.ex e3 hb1b, ?_⟩, (a02 b hbl).trans l60⟩ (k2.ex16 e3' (by decide)) ?_
      · obtain ⟨a, cap, hv, hc, hn0, hx⟩ := sv.out
        exact ⟨a, cap, hv, hc, hn0, fun y hy => ⟨(hx y hy).1, fun hl => absurd rfl hl⟩⟩
      · exact (a1.ex (Ex.toM e1) e2').fresh e3 fun y hy he => by omega
    | cons p T =>
      refine cdp (fun h => absurd h (by simp; omega)) fun _ => ?_
      unfold m_cursor_Cursor_Next_j41
      refine Fs_b kb2 (show 0 + 6 < 7 by decide) (by rw [one_eq]; exact o2.one) fun h3 _ e3 kb3 => ?_
      have kb3 : Blk h3 b (curc q first lo hi batch told w) := kb3
      have l2b : l2 b = 60 := (a2 b kb1.lt).trans q60
      have e3' : Ex (Lb l2 60 60) h2 h3 := one_lb e3 ⟨by rw [l2b]; decide, by rw [l2b]; decide⟩
      rw [hR] at sw
      have s3 : Sl (Use l2) h3 w (p :: T) := sw.keep e3 fun y hy => by subst hy; show l2 y ≠ 0; rw [l2b]; decide
      have e13 : Ex (Lb (loc lab h b1) 1 60) h1 h3 := e2'.trans (e3.mono fun y hy he => by subst he; exact ⟨by rw [q60]; decide, by rw [q60]; decide⟩)
      exact tell l2 h3 w p T (hask.trans hR) a2 (k2.ex16 e3' (by decide)) kb3 s3 (k12.ex e3 (show ¬ b1 = b by omega)) e13
end
end Go.Sg
namespace Go.Sg
open Go Vc
noncomputable def foks : Nat → List Field → Bool
  | _, [] => true
  | o, f :: fs => (f.name != "_") && (match Pg.underlying f.type with | some .string => true | _ => false) && (f.offset == o) && foks (o + 1) fs
theorem eqF_strs (w : World) (d : Nat) : ∀ (fs : List Field) (o : Nat) (xs ys : List Str) (X Y : Array Value), foks o fs = true → xs.length = fs.length → ys.length = fs.length →
    (∀ (i : Nat) v, xs[i]? = some v → X[o + i]? = some (str v)) → (∀ (i : Nat) v, ys[i]? = some v → Y[o + i]? = some (str v)) → (Op.eqFields (d + 1) X Y fs).run Pg w = .ok (decide (xs = ys)) w
  | [], o, xs, ys, X, Y, _, hx, hy, _, _ => by
    have h1 : xs = [] := List.length_eq_zero_iff.1 hx
    have h2 : ys = [] := List.length_eq_zero_iff.1 hy
    subst h1 h2
    simp [Op.eqFields]
  | f :: fs, o, [], ys, X, Y, _, hx, hy, _, _ => by simp at hx
  | f :: fs, o, x :: xs, [], X, Y, _, hx, hy, _, _ => by simp at hy
  | f :: fs, o, x :: xs, y :: ys, X, Y, hf, hx, hy, h1, h2 => by
    unfold foks at hf
    simp only [Bool.and_eq_true, bne_iff_ne, ne_eq, beq_iff_eq] at hf
    obtain ⟨⟨⟨hn, hu⟩, ho⟩, hr⟩ := hf
    cases hq : Pg.underlying f.type with
    | none => rw [hq] at hu; cases hu
    | some u =>
      cases u <;> rw [hq] at hu <;> first | (cases hu; done) | skip
      have x0 := h1 0 x rfl
      have y0 := h2 0 y rfl
      rw [Nat.add_zero] at x0 y0
      have he : ∀ i, o + 1 + i = o + (i + 1) := fun i => by omega
      have ih := eqF_strs w d fs (o + 1) xs ys X Y hr (by simpa using hx) (by simpa using hy) (fun i v h => (he i) ▸ h1 (i + 1) v h) (fun i v h => (he i) ▸ h2 (i + 1) v h)
      have px : (part f.type X f.offset).run Pg w = .ok (str x) w := by
        simp [part, isAgg, run_underlying hq, ho, x0]
      have py : (part f.type Y f.offset).run Pg w = .ok (str y) w := by
        simp [part, isAgg, run_underlying hq, ho, y0]
      have pe : (Op.equalIn (d + 1) f.type (str x) (str y)).run Pg w = .ok (x == y) w := by
        show (Op.equalIn (d + 1) f.type (.string ⟨x.toArray⟩) (.string ⟨y.toArray⟩)).run Pg w = _
        rw [run_equalIn_string w d f.type _ _ hq]
        simp [ByteArray.toList_eq]
      simp only [Op.eqFields, if_pos hn, Sem.run_bind, px, py, Result.andThen_ok, pe, Sem.run_ite, ih, Sem.run_pure]
      by_cases he : x = y
      · subst he; simp
      · have : (x == y) = false := beq_eq_false_iff_ne.2 he
        simp [this, he]
section
variable {t : TypeId} {xo yo : Operand} {h : Heap} {K : Kt} {xs ys : List Str}
theorem equal_strs (w : World) (ht : Pg.underlying t = some (.struct (Pg.fieldsOf t))) (hp : Pg.stoodInHeld t = false) (hf : foks 0 (Pg.fieldsOf t).toList = true) (hx : xs.length = (Pg.fieldsOf t).toList.length) (hy : ys.length = (Pg.fieldsOf t).toList.length) :
    (Op.equalIn 10000 t (.agg (xs.map str).toArray) (.agg (ys.map str).toArray)).run Pg w = .ok (decide (xs = ys)) w := by
  rw [show (10000 : Nat) = 9999 + 1 from rfl, run_equalIn_agg w 9999 t _ _ ht hp]
  exact eqF_strs w 9998 _ 0 xs ys _ _ hf hx hy (fun i v h => by simp [h]) (fun i v h => by simp [h])
theorem neq_strs (ht : Pg.underlying t = some (.struct (Pg.fieldsOf t))) (hp : Pg.stoodInHeld t = false) (hm : Pg.eqGuardType Pg.depth t = false) (hf : foks 0 (Pg.fieldsOf t).toList = true) (hx : xs.length = (Pg.fieldsOf t).toList.length) (hy : ys.length = (Pg.fieldsOf t).toList.length)
    (r : K (.bool (!decide (xs = ys))) h) : EqP .neq t xo yo (.agg (xs.map str).toArray) (.agg (ys.map str).toArray) h K :=
  eqp (fun w => run_eqGuard_agg w .neq t xo yo _ _ hm) (fun w => by rw [run_neq_struct, equal_strs w ht hp hf hx hy]; rfl) r
theorem eql_strs (ht : Pg.underlying t = some (.struct (Pg.fieldsOf t))) (hp : Pg.stoodInHeld t = false) (hm : Pg.eqGuardType Pg.depth t = false) (hf : foks 0 (Pg.fieldsOf t).toList = true) (hx : xs.length = (Pg.fieldsOf t).toList.length) (hy : ys.length = (Pg.fieldsOf t).toList.length)
    (r : K (.bool (decide (xs = ys))) h) : EqP .eql t xo yo (.agg (xs.map str).toArray) (.agg (ys.map str).toArray) h K :=
  eqp (fun w => run_eqGuard_agg w .eql t xo yo _ _ hm) (fun w => by rw [run_eql_struct, equal_strs w ht hp hf hx hy]; rfl) r
end
section
variable {lab : Nat → Nat} {h : Heap} {K : Kt} {lo hi : Str} {batch : Int}
theorem least_light : leastC.Light := by decide
theorem least_ok : lok leastC [] := by decide
def ops32 : List Opx := [⟨1, [98], [], 0⟩, ⟨1, [97], [], 0⟩]
theorem ops32_good : goodOps leastC ops32 := fun i o hi => by
  have : i = 0 ∨ i = 1 := by
    have := (List.getElem?_eq_some_iff.1 hi).1
    have h2 : ops32.length = 2 := rfl
    omega
  rcases this with rfl | rfl
  · cases hi; exact ⟨⟨.inl rfl, by decide⟩, by decide, by decide, by decide, by decide⟩
  · cases hi; exact ⟨⟨.inl rfl, by decide⟩, by decide, by decide, by decide, by decide⟩
theorem ps32 : psOf ops32 2 = [⟨[97], []⟩, ⟨[98], []⟩] := by decide
theorem c_law32_awake (t : Tz h) (r : ∀ h', Ext h h' → K (.bool true) h') : Ca f_law32_awake #[] h K := by
  refine m_law32_awake_ok ?_
  refine ⟨_, leastC.cs.toArray, rfl, by kernel_rfl, ?_⟩
  refine alst (vs := leastC.cs) rfl rfl rfl fun b1 h1 e1 hb1 k1 _ => (LdA_b k1 rfl).2 ?_
  refine ⟨_, #[int 1, str [98], str [], int 0], rfl, by kernel_rfl, ?_⟩
  refine ⟨_, #[int 1, str [97], str [], int 0], rfl, by kernel_rfl, ?_⟩
  refine bs (n0 := h1.size) (e := t_api_Op) (zs := #[int 0, str [], str [], int 0]) ops32 rfl (Nat.le_refl _) rfl (by decide) (cs := #[int 1, str [98], str [], int 0, int 1, str [97], str [], int 0]) (by kernel_rfl) rfl fun v2 h2 o2 e2 => ?_
  have e02 := e1.trans e2
  refine c_law32_stored (c := leastC) (L := ops32) least_light least_ok (by decide) (by decide) (t.ext e02) (o2.sl (U := No) fun _ _ h => h) (by decide) ops32_good fun l3 q h3 y k3 z3 e3 hq => ?_
  have hlen : ops32.length = 2 := rfl
  rw [hlen, ps32] at k3
  rw [ex20, ex21]
  show Ca f_cursor_New #[ptr q 0, str [], str [99], int 1] h3 _
  refine c_cursor_New (by decide) (by decide) fun b h4 e4 hb k4 => ?_
  rw [ex20, ex21, BiP_neq]
  refine cdp (fun h => absurd rfl h) fun _ => ?_
  refine eq_ptr_nil (by kernel_rfl) ?_
  unfold m_law32_awake_j25
  show CdP (.bool false) _ _
  rw [CdP_false]
  unfold m_law32_awake_j26
  have e04 := (e02.trans e3).trans e4
  let l4 := upd (frl l3 h3) b 60
  have a4 : Lat l3 l4 h3 := fun x hx => (upd_ne (by omega)).trans (frl_lat l3 h3 x hx)
  have kk4 := (k3.lat a4).ext e4
  have c4 : CuS l4 h4 b q [] [] [99] 1 0 [] := ⟨⟨_, k4, Sl.nil _ _⟩, upd_same⟩
  have hl02 := e02.le
  have hl3 := e3.le
  have z4 : ∀ x, x < h.size → l4 x = 0 := fun x hx => (a4 x (by omega)).trans (z3 x (by omega))
  have p1 : askedP [⟨[97], []⟩, ⟨[98], []⟩] [] [] [99] 1 = [⟨[97], []⟩] := by decide
  have p2 : askedP [⟨[97], []⟩, ⟨[98], []⟩] [] [97, 0] [99] 1 = [⟨[98], []⟩] := by decide
  have p3 : askedP [⟨[97], []⟩, ⟨[98], []⟩] [] [98, 0] [99] 1 = [] := by decide
  refine c_cursor_Next c4 kk4 (by decide) (by decide) (by decide) (by rw [p1]; simp) (fun hn => by rw [p1] at hn; cases hn) fun p T hp l5 h5 a5 c5 k5 e5 => ?_
  rw [p1] at hp
  obtain ⟨rfl, rfl⟩ : (⟨[97], []⟩ : Pair) = p ∧ ([] : List Pair) = T := by simpa using hp
  have e05 := Ex.lab0 e04 e5 (by decide) z4
  have hl04 := e04.le
  have z5 : ∀ x, x < h.size → l5 x = 0 := fun x hx => (a5 x (by omega)).trans (z4 x hx)
  rw [ex30, ex31, ex32]
  refine alst (vs := [str [97], str []]) rfl rfl rfl fun b6 h6 e6 hb6 k6 _ => ?_
  have a6 := frl_lat l5 h5
  have w6 : frl l5 h5 b6 = 0 := frl_new (by omega)
  have hl05 := e05.le
  have e06 := e05.trans e6
  have z6 : ∀ x, x < h.size → frl l5 h5 x = 0 := fun x hx => (a6 x (by omega)).trans (z5 x hx)
  have c6 : CuS (frl l5 h5) h6 b q [] ([97] ++ [0]) [99] 1 (0 + 1) [] := by
    obtain ⟨⟨v, z1, z2⟩, z3⟩ := c5
    exact ⟨⟨v, z1.ext e6, z2.ex e6 (fun _ _ h => h.elim) fun y hy hm => by show l5 y ≠ 0; rw [← a6 y hy]; exact hm⟩, (a6 b z1.lt).trans z3⟩
  refine c_cursor_Next c6 ((k5.lat a6).ext e6) (by decide) (by decide) (by decide) (by show ∀ p ∈ askedP _ [] [97, 0] [99] 1, _; rw [p2]; simp) (fun hn => by have hn : askedP _ [] [97, 0] [99] 1 = [] := hn; rw [p2] at hn; cases hn) fun p T hp l7 h7 a7 c7 k7 e7 => ?_
  have hp : askedP _ [] [97, 0] [99] 1 = p :: T := hp
  rw [p2] at hp
  obtain ⟨rfl, rfl⟩ : (⟨[98], []⟩ : Pair) = p ∧ ([] : List Pair) = T := by simpa using hp
  have k67 := k6.ex e7 (nLb w6 (by decide))
  have e07 := Ex.lab0 e06 e7 (by decide) z6
  have hl06 := e06.le
  have z7 : ∀ x, x < h.size → l7 x = 0 := fun x hx => (a7 x (by omega)).trans (z6 x hx)
  rw [ex30, ex31, ex32]
  refine alst (vs := [str [98], str []]) rfl rfl rfl fun b8 h8 e8 hb8 k8 _ => ?_
  have a8 := frl_lat l7 h7
  have w8 : frl l7 h7 b8 = 0 := frl_new (by omega)
  have w68 : frl l7 h7 b6 = 0 := by rw [a8 b6 k67.lt, a7 b6 k6.lt]; exact w6
  have hl07 := e07.le
  have e08 := e07.trans e8
  have z8 : ∀ x, x < h.size → frl l7 h7 x = 0 := fun x hx => (a8 x (by omega)).trans (z7 x hx)
  have c8 : CuS (frl l7 h7) h8 b q [] ([98] ++ [0]) [99] 1 (0 + 1 + 1) [] := by
    obtain ⟨⟨v, z1, z2⟩, z3⟩ := c7
    exact ⟨⟨v, z1.ext e8, z2.ex e8 (fun _ _ h => h.elim) fun y hy hm => by show l7 y ≠ 0; rw [← a8 y hy]; exact hm⟩, (a8 b z1.lt).trans z3⟩
  refine c_cursor_Next c8 ((k7.lat a8).ext e8) (by decide) (by decide) (by decide) (by show ∀ p ∈ askedP _ [] [98, 0] [99] 1, _; rw [p3]; simp) (fun _ l9 h9 a9 c9 k9 e9 => ?_) (fun p T hp => by have hp : askedP _ [] [98, 0] [99] 1 = p :: T := hp; rw [p3] at hp; cases hp)
  have k69 := (k67.ext e8).ex e9 (nLb w68 (by decide))
  have k89 := k8.ex e9 (nLb w8 (by decide))
  have e09 := Ex.lab0 e08 e9 (by decide) z8
  rw [ex30, ex31, ex32]
  refine alst (vs := [str [], str []]) rfl rfl rfl fun b10 h10 e10 hb10 k10 _ => ?_
  have k610 := k69.ext e10
  have k810 := k89.ext e10
  refine fv (v := str [97]) (by rw [k610.get]; rfl) ?_
  show BiP .eql (str [97]) (str [97]) _
  rw [BiP_seql]
  refine cdp (fun _ => ?_) fun h => absurd rfl h
  rw [CdP_true]
  refine fv (v := str [98]) (by rw [k810.get]; rfl) ?_
  show BiP .eql (str [98]) (str [98]) _
  rw [BiP_seql]
  refine cdp (fun _ => ?_) fun h => absurd rfl h
  rw [CdP_true, UnP_not]
  refine cd (fun _ => ?_) fun h => absurd h (by decide)
  rw [BiP_eql]
  refine cdp (fun _ => ?_) fun h => absurd rfl h
  obtain ⟨⟨v, z1, z2⟩, z3⟩ := c9
  refine c_cursor_Told (z1.ext e10) ?_
  show BiP .eql (int 2) (int 2) _
  rw [BiP_eql]
  exact r h10 (e09.trans e10)
end
end Go.Sg
namespace Go.Sg
open Go Vc
section
variable {h : Heap} {K : Kt} {lo hi : Str} {batch : Int}
theorem c_law32_CursorNobody (t : Tz h) (r : ∀ h', Ext h h' → K (.bool true) h') : Ca f_law32_CursorNobody #[str lo, str hi, int batch] h K := by
  refine m_law32_CursorNobody_ok ?_
  refine ⟨_, cz.toArray, rfl, by kernel_rfl, ?_⟩
  refine bxa (cs := cz) fun b h2 e2 hb k2 _ => ?_
  refine bs (n0 := h2.size) (e := t_P_cursor_Cursor) (zs := #[.pointer none]) [(⟨.pointer none, rfl⟩ : Cl), ⟨ptr b 0, rfl⟩] rfl (Nat.le_refl _) rfl (by decide) (cs := #[.pointer none, ptr b 0]) (by kernel_rfl) rfl fun v h3 o3 e3 => ?_
  have e03 := e2.trans e3
  have s3 : Sl No h3 v [(⟨.pointer none, rfl⟩ : Cl), ⟨ptr b 0, rfl⟩] := o3.sl fun _ _ h => h
  refine lop (σ := Nat) (fun i => [.bool false, int i]) (fun i h' => i ≤ 2 ∧ Ext h3 h') (fun i => 2 - i) 0 rfl ⟨by decide, Ex.refl _ _⟩ ?_
  rintro i h4 N ⟨hi2, e4⟩ hN
  simp only [m_law32_CursorNobody_l7, gv_zero, gv_succ]
  have s4 := s3.ext e4
  refine s4.len ?_
  rw [BiP_lss]
  refine cdp (fun hlt => ?_) (fun hge => ?_)
  · have hlt : i < 2 := by have h2 : (i : Int) < ((2 : Nat) : Int) := hlt; omega
    obtain ⟨a, ha⟩ : ∃ a, ([(⟨.pointer none, rfl⟩ : Cl), ⟨ptr b 0, rfl⟩] : List Cl)[i]? = some a := ⟨_, List.getElem?_eq_getElem (by simpa using hlt)⟩
    have hnob : ∀ hh, Ext h3 hh → NobC hh a.v := fun hh ee => by
      rcases i with _ | _ | i
      · cases ha; exact .inl rfl
      · cases ha; exact .inr ⟨b, rfl, (k2.ext e3).ext ee⟩
      · omega
    have ei : ∀ {hh : Heap} {K' : Value → Prop}, Ext h3 hh → K' a.v → Ei 1 v (int i) hh K' := fun ee kk => (s3.ext ee).ei (x := a) (w := a.v) (by omega) (by rw [Int.toNat_natCast]; exact ha) rfl kk
    refine ei e4 ?_
    refine c_cursor_Next_nob (hnob h4 e4) fun h5 e5 => ?_
    rw [ex30, ex31, ex32]
    refine alst (vs := [str [], str []]) rfl rfl rfl fun b6 h6 e6 hb6 k6 _ => (LdA_b k6 rfl).2 ?_
    have e36 := (e4.trans e5).trans e6
    refine ⟨_, #[str [], str []], rfl, rfl, ?_⟩
    refine neq_strs (t := t_api_Pair) (xs := [[], []]) (ys := [[], []]) (by kernel_rfl) (by kernel_rfl) (by kernel_rfl) (by kernel_rfl) (by kernel_rfl) (by kernel_rfl) ?_
    refine cd (fun h => absurd h (by decide)) fun _ => ?_
    rw [CdP_false, BiP_neq]
    refine cdp (fun h => absurd rfl h) fun _ => ?_
    refine ei e36 (c_cursor_Seek_nob (hnob h6 e36) ?_)
    rw [BiP_neq]
    refine cdp (fun h => absurd rfl h) fun _ => ?_
    refine ei e36 (c_cursor_Told_nob (hnob h6 e36) ?_)
    rw [BiP_neq]
    refine cdp (fun h => absurd rfl h) fun _ => ?_
    refine ei e36 (c_cursor_All_nob (hnob h6 e36) ?_)
    rw [BiP_neq]
    unfold m_law32_CursorNobody_j63
    refine cdp (fun h => absurd rfl h) fun _ => ?_
    unfold m_law32_CursorNobody_j64
    refine add64 (by omega) ?_
    have := hN (i + 1) h6 ⟨by omega, e36⟩ (by omega)
    simpa using this
  · unfold m_law32_CursorNobody_j66
    have e04 : Ext h h4 := e03.trans e4
    refine c_cursor_New_nil ?_
    rw [ex20, ex21]
    refine ⟨_, leastC.cs.toArray, rfl, by kernel_rfl, ?_⟩
    refine c_law32_stored (c := leastC) (L := []) least_light least_ok (by decide) (by decide) (t.ext e04) (Sl.nil No h4) (by decide) (fun i o hi => by simp at hi) fun l5 q h5 y k5 z5 e5 hq => ?_
    rw [ex20, ex21]
    refine c_cursor_New (by decide) (by decide) fun b6 h6 e6 hb6 k6 => ?_
    rw [ex20, ex21]
    refine neq_ptr_nil (by kernel_rfl) ?_
    show CdP (.bool false) _ _
    rw [CdP_false, BiP_neq]
    refine cdp (fun h => absurd rfl h) fun _ => ?_
    refine eq_ptr_nil (by kernel_rfl) ?_
    show CdP (.bool false) _ _
    rw [CdP_false, BiP_neq]
    refine cdp (fun h => absurd rfl h) fun _ => ?_
    refine eq_ptr_nil (by kernel_rfl) ?_
    unfold m_law32_CursorNobody_j104
    show CdP (.bool false) _ _
    rw [CdP_false]
    unfold m_law32_CursorNobody_j105
    let l6 := upd (frl l5 h5) b6 60
    have a6 : Lat l5 l6 h5 := fun x hx => (upd_ne (by omega)).trans (frl_lat l5 h5 x hx)
    have w6 : l6 b6 = 60 := upd_same
    have kk6 := (k5.lat a6).ext e6
    have e06 := (e04.trans e5).trans e6
    have hl04 := e04.le
    have hl5 := e5.le
    have z6 : ∀ x, x < h.size → l6 x = 0 := fun x hx => (a6 x (by omega)).trans (z5 x (by omega))
    have hqs : q < h5.size := by obtain ⟨_, _, _, _, _, _, _, _, _, _, _, _, _, _, z, _⟩ := k5; exact z.lt
    refine c_kv_Close kk6 (by decide) fun x h7 root D k7 _ _ _ e7 => ?_
    have c7 := k6.ex e7 (nLb w6 (by decide))
    have e07 := Ex.lab0 e06 e7 (by decide) z6
    refine c_cursor_Next_closed c7 k7 (by omega) fun h8 k8 c8 e8 => ?_
    have e08 : Ext h h8 := e07.andThen e8 fun y hy he => by omega
    rw [ex30, ex31, ex32]
    refine alst (vs := [str [], str []]) rfl rfl rfl fun b9 h9 e9 hb9 k9 _ => (LdA_b k9 rfl).2 ?_
    refine ⟨_, #[str [], str []], rfl, rfl, ?_⟩
    refine eql_strs (t := t_api_Pair) (xs := [[], []]) (ys := [[], []]) (by kernel_rfl) (by kernel_rfl) (by kernel_rfl) (by kernel_rfl) (by kernel_rfl) (by kernel_rfl) ?_
    refine cd (fun _ => ?_) fun h => absurd h (by decide)
    rw [UnP_not]
    refine cd (fun _ => ?_) fun h => absurd h (by decide)
    rw [BiP_eql]
    refine cdp (fun _ => ?_) fun h => absurd rfl h
    refine c_cursor_Told (c8.ext e9) ?_
    rw [BiP_eql]
    refine cdp (fun _ => ?_) fun h => absurd rfl h
    have e09 := e08.trans e9
    refine c_law32_awake (t.ext e09) fun h10 e10 => ?_
    exact r h10 (e09.trans e10)
end
end Go.Sg
namespace Go.Proofs.YtfdephgpijheoaaGreatDoor
open Go Vc Go.ChangeMaps Go.ChangeShapes Go.WideShapes Go.ChangeAt Go.RowKit Go.Sg
theorem own : ownKnob Tryz.prog.godebug = none := by kernel_rfl
theorem gTabNamed : Tryz.prog.globalNamed "math/bits.deBruijn64tab" = some gTab := by kernel_rfl
theorem gTabType : (Tryz.prog.globals[gTab]?).map (·.type) = some t_A64_uint8 := by kernel_rfl
theorem laid_tab {H : Type} : (Rows.laid_math_bits_deBruijn64tab : DataW H) = .agg (tzTab.map fun (v : Nat) => .lit (.int .u8 (v : Int))) := by rfl
theorem tz_of_laid {W : World} (h : laidMetH Tryz.prog Rows.cursorNobodyRow.laid W) : Tz W.heap := by
  rw [MakeChecks.laidMetH_plain _ _ _ (by kernel_rfl)] at h
  obtain ⟨ps, ⟨g0, t0, cs0, f0, p0, q0, hg0, ht0, hv0, hd0, _, _⟩, _, _⟩ := h
  obtain rfl := Option.some.inj (gTabNamed.symm.trans hg0)
  obtain rfl := Option.some.inj (gTabType.symm.trans ht0)
  have hu : Tryz.prog.underlying t_A64_uint8 = some (.array 64 t_uint8) := by kernel_rfl
  have hu8 : Tryz.prog.underlying t_uint8 = some (.int .u8) := by kernel_rfl
  have c8 : Tryz.prog.cellsOf t_uint8 = 1 := by kernel_rfl
  obtain ⟨xs, m, rfl, hx, hlen, hn, hel⟩ := DataW.trod_array hu hd0
  simp only [Prod.mk.injEq] at hx
  have hx1 : (.agg (tzTab.map fun (v : Nat) => .lit (.int .u8 (v : Int))) : DataW Unit) = .agg (xs.map (·.1)) := laid_tab.symm.trans hx.1
  simp only [DataW.agg.injEq] at hx1
  have hat : ∀ (j v : Nat), tzTab[j]? = some v → hget W.heap gTab j = some (.int .u8 (v : Int)) := fun j v hj => by
    have hj64 : j < 64 := (List.getElem?_eq_some_iff.1 hj).1
    have h1 := hel j hj64
    rw [c8, Nat.mul_one] at h1
    have hxj : xs[j]? = some (xs[j]'(by omega)) := List.getElem?_eq_getElem (by omega)
    rw [hxj] at h1
    obtain ⟨n, hc, he, hw⟩ := DataW.trod_int hu8 h1
    have h2 : (xs.map (·.1))[j]? = some (.lit (.int .u8 (v : Int))) := by rw [← hx1, List.getElem?_map, hj]; rfl
    rw [List.getElem?_map, hxj, he] at h2
    simp only [Option.map_some, Option.some.injEq, DataW.lit.injEq, Lit.int.injEq, true_and] at h2
    subst h2
    have h3 : cs0[j]? = some (.int .u8 (v : Int)) := by
      have := congrArg List.head? hc
      rw [List.head?_take, if_neg (by decide), List.head?_drop] at this
      simpa using this
    have h4 := World.var?_cell hg0 hv0 j
    rw [h3] at h4
    rw [← Vc.cell_hget]; exact h4
  have hlt : gTab < W.heap.size := by
    have := hat 0 0 rfl
    unfold hget at this
    cases hq : W.heap[gTab]? with
    | none => rw [hq] at this; cases this
    | some o => exact (Array.getElem?_eq_some_iff.1 hq).1
  exact ⟨hlt, hat⟩
theorem keptBut_ext {W W' : World} {may : MemPlace → Prop} (hk : Kin W W') (hx : Ext W.heap W'.heap) : W.keptBut W' may :=
  ⟨hk.os, hk.output, fun i hi => by rw [hx.eq i hi id]; exact (World.keptBut_refl W may).2.2 i hi⟩
noncomputable def laidWorld (os : Os) : World :=
  let w0 := World.holding Tryz.prog os ⟨#[], #[], []⟩
  { w0 with heap := w0.heap.modify gTab fun
      | .cells _ t frozen => .cells (tzTab.map fun (v : Nat) => Value.int .u8 (v : Int)).toArray t frozen
      | o => o }
theorem laidWorld_met (os : Os) (args : Array Value) : laidMetH Tryz.prog Rows.cursorNobodyRow.laid ((laidWorld os).forCall (fun _ _ => 0) ⟨#[], args, []⟩).memory := by
  rw [MakeChecks.laidMetH_plain _ _ _ (by kernel_rfl)]
  exact laidMet_of_run' 8 (by kernel_rfl) (by kernel_rfl)
set_option maxRecDepth 100000 in
theorem lifted (os : Os) (started : os.Started) (H : Type) (enc : TypeId × Value → H) :
    ReturnsInHanded {} Tryz.checked os 3 .any (fun w args => (Rows.cursorNobodySpec.pre enc Tryz.prog Tryz.f3 [] false w args ∧ laidMetH Tryz.prog Rows.cursorNobodyRow.laid w) ∧ sizedMet enc Tryz.prog Tryz.f3 (OpenSpec.ofChange Rows.cursorNobodySpec) false w args)
      (Rows.cursorNobodySpec.post enc Tryz.prog Tryz.f3 false true false false) := by
  refine returnsInHanded_of_change_and (C := Tryz.checked) (X := fun w _ => laidMetH Tryz.prog Rows.cursorNobodyRow.laid w) (fun _ _ _ hh h => h.of_heap hh) own started (by kernel_rfl) Tryz.func3
    (ChangeSpec.witness_at (enc := enc) (C := Tryz.checked) (os := os) (X := fun w _ => laidMetH Tryz.prog Rows.cursorNobodyRow.laid w) false (laidWorld os) #[.string ⟨#[]⟩, .string ⟨#[]⟩, .int .i64 0] 8 rfl (by kernel_rfl) (by kernel_rfl) (by kernel_rfl) (by kernel_rfl) (by kernel_rfl) (laidWorld_met os _)) ?_
  intro W base args ds gs before hval0 hW _ _ hL _
  have hval : ∀ (j : Nat) t v, Tryz.f3.params[j]? = some t → args[j]? = some v → Value.okWide Tryz.prog W .any base t v := hval0
  have hW' := hW
  obtain ⟨p, q, hA0, hV, rfl, hfz, hnd⟩ := hW
  have hA : DataW.TrodAll enc Tryz.prog W 0 (fun _ => true) true Tryz.f3.params.toList args.toList ds p := hA0
  rw [Tryz.params3] at hA hval
  obtain ⟨v0, v1, v2, d0, d1, d2, p0, p1, p2, rfl, rfl, rfl, h0, h1, h2⟩ := trodAll_three hA
  obtain ⟨rfl, rfl⟩ := trodVars_none hV
  obtain ⟨lo, rfl, rfl, rfl, w0⟩ := open_string (t := 9) (by kernel_rfl) (hval 0 9 v0 rfl rfl) h0
  obtain ⟨hi, rfl, rfl, rfl, w1⟩ := open_string (t := 9) (by kernel_rfl) (hval 1 9 v1 rfl rfl) h1
  obtain ⟨m, rfl, rfl, rfl, w2⟩ := open_int (k := .i64) (t := 3) (by kernel_rfl) (hval 2 3 v2 rfl rfl) h2
  have tz := tz_of_laid hL
  obtain ⟨⟨lo⟩⟩ := lo
  obtain ⟨⟨hi⟩⟩ := hi
  clear hA0 hval0
  have law := c_law32_CursorNobody (K := fun v h => v = .bool true ∧ Ext W.heap h) (lo := lo) (hi := hi) (batch := m) tz (fun h' e => ⟨rfl, e⟩) W rfl
  refine Calls.mono law fun e W' he => ?_
  obtain ⟨v, rfl, hk, rfl, hx⟩ := he
  refine ⟨_, rfl, _, _, _, [], [], [], hW', ?_, ?_, ?_, ?_, fun h => by cases h⟩
  · exact trodAll_mk1 (shut_bool Tryz.underlying4 true)
  · exact trodAll_mk3 (shut_string (by kernel_rfl) w0) (shut_string (by kernel_rfl) w1) (shut_int (by kernel_rfl) w2)
  · rfl
  · exact keptBut_ext hk hx
theorem jf0 : Rows.cursorNobodyRow.wf (OpenSpec.ofChange Rows.cursorNobodySpec) = true := by kernel_rfl
theorem jf1 : laidOutB Tryz.prog = true := by kernel_rfl
theorem jf2 : mapsRowed Tryz.prog = true := by kernel_rfl
theorem jf3 : Tryz.f3.params.all (Tryz.prog.readableRec ·) = true := by kernel_rfl
theorem jf4 : namedTie Tryz.prog Rows.cursorNobodyRow.named Rows.cursorNobodySpec.vars = true := by kernel_rfl
theorem jf5 : (Rows.cursorNobodyRow.stops == []) = true := by kernel_rfl
theorem jf6 : (Tryz.prog.stops == []) = true := by kernel_rfl
theorem jf7 : (Rows.cursorNobodyRow.knobs == []) = true := by kernel_rfl
theorem jf8 : (Tryz.prog.stopKnobs == []) = true := by kernel_rfl
theorem jf9 : (Rows.cursorNobodyRow.inPlace == Tryz.prog.inPlace 3) = true := by kernel_rfl
theorem jf10 : (Rows.cursorNobodyRow.unfollowed == Tryz.prog.unfollowed 3) = true := by kernel_rfl
theorem jf11 : (Rows.cursorNobodyRow.recurses == Tryz.prog.recurses 3) = true := by kernel_rfl
theorem jf12 : (Rows.cursorNobodyRow.named == Tryz.prog.varsNamed 3) = true := by kernel_rfl
theorem jf13 : (Rows.cursorNobodyRow.maps == (Tryz.f3.params.toList ++ Rows.cursorNobodySpec.plain.varTypes Tryz.prog).any (Tryz.prog.mapsRec ·)) = true := by kernel_rfl
theorem jf14 : (Rows.cursorNobodyRow.ifaces == (Tryz.f3.params.toList ++ Rows.cursorNobodySpec.plain.varTypes Tryz.prog).any (Tryz.prog.ifacesRec ·)) = true := by kernel_rfl
theorem jf15 : (Rows.cursorNobodyRow.mapsOut == Tryz.prog.mapsAmong Tryz.f3.resultTypes.toList) = true := by kernel_rfl
theorem jf16 : (Rows.cursorNobodyRow.loops == (Tryz.f3.params.toList ++ Rows.cursorNobodySpec.plain.varTypes Tryz.prog).any (Tryz.prog.loopsFrom ·)) = true := by kernel_rfl
theorem jf17 : (Rows.cursorNobodyRow.wideKeys == (Tryz.f3.params.toList ++ Rows.cursorNobodySpec.plain.varTypes Tryz.prog ++ Tryz.f3.resultTypes.toList).any (Tryz.prog.wideKeysFrom ·)) = true := by kernel_rfl
theorem jf18 : Rows.cursorNobodySpec.vars.all (Tryz.prog.varReadable ·) = true := by kernel_rfl
theorem jf19 : Tryz.f3.resultTypes.all (fun t => Tryz.prog.readableRec t && decide (t < Tryz.prog.types.size)) = true := by kernel_rfl
theorem jf20 : (Rows.cursorNobodyRow.ifacesOut == Tryz.f3.resultTypes.toList.any (Tryz.prog.ifacesRec ·)) = true := by kernel_rfl
theorem jf21 : (Rows.cursorNobodyRow.loopsOut == Tryz.f3.resultTypes.toList.any (Tryz.prog.loopsFrom ·)) = true := by kernel_rfl
theorem jf22 : (Rows.cursorNobodyRow.plainKeys == Tryz.prog.plainKeys) = true := by kernel_rfl
theorem jf23 : Rows.cursorNobodyRow.shortTexts.isNone = true := by kernel_rfl
theorem jf24 : Tryz.prog.stopsHeard = true := by kernel_rfl
theorem jf25 : Tryz.prog.mayEnter = true := by kernel_rfl
theorem jf26 : (Rows.cursorNobodyRow.lifted == Tryz.prog.liftsFinal) = true := by kernel_rfl
theorem jf27 : (Tryz.prog.make == some Rows.cursorNobodyRow.make) = true := by kernel_rfl
theorem jf29 : (Rows.cursorNobodyRow.pinned == Rows.cursorNobodyRow.pinnedBy) = true := by kernel_rfl
theorem jf30 : (Rows.cursorNobodyRow.veiled == (Tryz.f3.params.toList ++ Rows.cursorNobodySpec.plain.varTypes Tryz.prog ++ Tryz.f3.resultTypes.toList).any (Tryz.prog.veiledRec ·)) = true := by kernel_rfl
theorem jf31 : Rows.cursorNobodyRow.veiledFits Tryz.prog Tryz.f3.params.toList (Tryz.f3.params.toList ++ Rows.cursorNobodySpec.plain.varTypes Tryz.prog ++ Tryz.f3.resultTypes.toList) = true := by kernel_rfl
theorem band {a b : Bool} (h : a = true) (k : b = true) : (a && b) = true := by rw [h, k]; rfl
theorem closed : joinedFacts Tryz.prog 3 Tryz.f3 Rows.cursorNobodySpec Rows.cursorNobodyRow = true :=
  band (band (band (band (band (band (band (band (band (band (band (band (band (band (band (band (band (band (band (band (band (band (band (band (band (band (band (band (band (band (band jf0 jf1) jf2) jf3) jf4) jf5) jf6) jf7) jf8) jf9) jf10) jf11) jf12) jf13) jf14) jf15) jf16) jf17) jf18) jf19) jf20) jf21) jf22) jf23) jf24) jf25) jf26) jf27) (by kernel_rfl)) jf29) jf30) jf31
theorem kw : Rows.cursorNobodyRow.wfByText (OpenSpec.ofChange Rows.cursorNobodySpec) = true := by kernel_rfl
theorem km : Tryz.prog.mainIs = some (true, "b930a49a48f7ea69164dfd424c24a42e9db92b0e4bb5fef919311b0f8a37c905".toList) := by kernel_rfl
theorem kl : true = Tryz.prog.looks [] := by kernel_rfl
theorem kg : false = Rows.cursorNobodyRow.goesBy Tryz.prog := by kernel_rfl
theorem kn : Tryz.prog.funcNamed "sluicegate/sluicegatelaw32.CursorNobody" = some 3 := by kernel_rfl
theorem ks9 : Tryz.prog.wantsStandIn 9 = false := by kernel_rfl
theorem ks3 : Tryz.prog.wantsStandIn 3 = false := by kernel_rfl
theorem row_holds : Rows.CursorNobodySaid :=
  OpenClaim.holds_of_wide 3 Tryz.f3 rfl rfl rfl rfl rfl rfl rfl ⟨rfl, rfl, rfl, rfl, rfl⟩ rfl rfl rfl rfl rfl kn Tryz.func3 closed
    (of_decide_eq_true (by kernel_rfl)) (by unfold Func.isWrapper; first | (rw [if_pos (by decide +kernel)]; kernel_rfl) | (rw [if_neg (by decide +kernel)]; exact ⟨rfl, rfl⟩))
    (fun os started H enc _ => lifted os started H enc)
theorem stands (j : Nat) (t : TypeId) (ht : Tryz.f3.params[j]? = some t) : Tryz.prog.wantsStandIn t = false := by
  rw [Tryz.params3] at ht
  rcases j with _ | _ | _ | j
  · obtain rfl : 9 = t := by simpa using ht
    exact ks9
  · obtain rfl : 9 = t := by simpa using ht
    exact ks9
  · obtain rfl : 3 = t := by simpa using ht
    exact ks3
  · simp at ht
theorem cursorNobody_holds : Rows.CursorNobodyCardSaid :=
  Claim7.holds_tied_plain_at .later [] [.data] true (true, "b930a49a48f7ea69164dfd424c24a42e9db92b0e4bb5fef919311b0f8a37c905") true
    row_holds (fun _ h => by cases h) kw (fun _ h => by cases h) cursorNobody_row_tie rfl ⟨rfl, rfl⟩ km rfl
    (fun f fn hf hfn => by
      obtain rfl : f = 3 := Option.some.inj (kn.symm.trans hf) |>.symm
      obtain rfl : fn = Tryz.f3 := (Option.some.inj (Tryz.func3.symm.trans hfn)).symm
      exact ⟨kl, stands⟩)
    kg
#print axioms cursorNobody_holds
end Go.Proofs.YtfdephgpijheoaaGreatDoor
