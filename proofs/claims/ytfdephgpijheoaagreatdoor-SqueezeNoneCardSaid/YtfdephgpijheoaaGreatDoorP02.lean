/-
  Part 2 of a proof: own texts, merged by program.
-/
import Derived.StillTail
import Derived.Test.YtfdephgpijheoaaGreatDoorProg
import Derived.Test.YtfdephgpijheoaaGreatDoorP01
set_option linter.unusedVariables false
set_option linter.unusedSimpArgs false
namespace Go.Vc
variable {P : Program}
section
variable {ops : Array Oper} {Q : Exit → Act → World → Prop} {md : Region.Mode} {R : Nat → World → World → Prop}
def wpAnyN (P : Program) (md : Region.Mode) (ops : Array Oper) (Q : Exit → Act → World → Prop) (R : Nat → World → World → Prop) : Nat → Array Bool → Act → World → Prop
  | 0, listed, a, w => Region.ready md ops listed = [] ∧ Q .normal a w
  | fuel + 1, listed, a, w =>
    (Region.ready md ops listed = [] → Q .normal a w) ∧
    ∀ i ∈ Region.ready md ops listed, wpOp P ops Q i (fun a' w' => R i w w' ∧ wpAnyN P md ops Q R fuel (listed.setIfInBounds i true) a' w') a w
theorem wpAny_of_N : ∀ (fuel : Nat) (listed : Array Bool) (a : Act) (w : World), wpAnyN P md ops Q R fuel listed a w → wpAny P md ops Q fuel listed a w
  | 0, _, _, _, h => h
  | fuel + 1, _, _, _, h => ⟨h.1, fun i hi => wpOp_mono (fun a' w' h' => wpAny_of_N fuel _ a' w' h'.2) (h.2 i hi)⟩
def Closed (md : Region.Mode) (ops : Array Oper) (listed : Array Bool) : Prop :=
  ∀ j oj, ops[j]? = some oj → listed.getD j false = true → ∀ e ∈ oj.after, Region.binds md e = true → listed.getD e.on false = true
theorem Closed.start (n : Nat) : Closed md ops (Array.replicate n false) := fun j oj _ h => by
  rw [getD_replicate_false] at h; cases h
theorem Closed.set {listed : Array Bool} (h : Closed md ops listed) {i : Nat} (hi : i ∈ Region.ready md ops listed) : Closed md ops (listed.setIfInBounds i true) := by
  obtain ⟨_, oi, hoi, hall⟩ := mem_ready.1 hi
  intro j oj hj hl e he hb
  by_cases hij : i = j
  · subst hij
    have : oj = oi := Option.some.inj (hj.symm.trans hoi)
    subst this
    exact getD_set_true (hall e he hb)
  · rw [getD_set_ne false hij] at hl
    exact getD_set_true (h j oj hj hl e he hb)
theorem wpAnyN_first {i : Nat} {oi : Oper} {v : Value} {T : World → Prop} (hi : ops[i]? = some oi) (hsel : ∀ (j : Nat) (o : Oper) cs b, ops[j]? = some o → o.op ≠ .select cs b)
    (hQ : ∀ c a w, Q (.panic c) (a.put oi.dst v) w → Q (.panic c) a w)
    (hR : ∀ w, T w → R i w w)
    (hT : ∀ listed, Closed md ops listed → i ∈ Region.ready md ops listed → ∀ j ∈ Region.ready md ops listed, j ≠ i → ∀ w w', T w → R j w w' → T w') :
    ∀ (fuel : Nat) (listed : Array Bool) (a : Act) (w : World), Closed md ops listed →
      (∀ j oj, ops[j]? = some oj → j ≠ i → listed.getD j true = false → (∀ e ∈ oj.after, Region.binds md e = true → e.on ≠ i) → oi.apart ops oj = true) →
      i ∈ Region.ready md ops listed → YieldsIf P ops T oi v a → T w →
      wpAnyN P md ops Q R fuel (listed.setIfInBounds i true) (a.put oi.dst v) w → wpAnyN P md ops Q R (fuel + 1) listed a w := by
  intro fuel
  induction fuel with
  | zero =>
    intro listed a w _ _ hr hy hS H
    refine ⟨fun h => (by rw [h] at hr; cases hr), fun j hj => ?_⟩
    by_cases hji : j = i
    · subst hji; exact hy.wpOp hi hS ⟨hR _ hS, H⟩
    · have := ready_mono hj hji
      rw [H.1] at this
      cases this
  | succ fuel ih =>
    intro listed a w hcl hfree hr hy hS H
    refine ⟨fun h => (by rw [h] at hr; cases hr), fun j hj => ?_⟩
    by_cases hji : j = i
    · subst hji; exact hy.wpOp hi hS ⟨hR _ hS, H⟩
    · have h1 := H.2 j (ready_mono hj hji)
      obtain ⟨hjun, oj, hoj, hall⟩ := mem_ready.1 hj
      have hnot : ∀ e ∈ oj.after, Region.binds md e = true → e.on ≠ i := fun e he hb heq => by
        have h1 := hall e he hb
        have h0 := (mem_ready.1 hr).1
        rw [heq, getD_both h0] at h1
        cases h1
      have h2 := wpOp_putIf hoj (hfree j oj hoj hji hjun hnot) (fun cs b => hsel i oi cs b hi) (fun cs b => hsel j oj cs b hoj) hQ hy h1
      have hfree' : ∀ k ok, ops[k]? = some ok → k ≠ i → (listed.setIfInBounds j true).getD k true = false →
          (∀ e ∈ ok.after, Region.binds md e = true → e.on ≠ i) → oi.apart ops ok = true := fun k ok hk hki hun hno => by
        refine hfree k ok hk hki ?_ hno
        by_cases hjk : j = k
        · subst hjk; exact hjun
        · rw [getD_set_ne true hjk] at hun; exact hun
      refine wpOp_mono (fun a' w' h3 => ⟨h3.2.1, ih (listed.setIfInBounds j true) a' w' (hcl.set hj) hfree' (ready_mono hr (Ne.symm hji)) h3.1 (hT listed hcl hr j hj hji w w' hS h3.2.1) ?_⟩) h2
      rw [Array.setIfInBounds_comm _ _ hji]
      exact h3.2.2
end
inductive Anc (ops : Array Oper) : Nat → Nat → Prop
  | edge {i j : Nat} {o : Oper} {e : Edge} : ops[j]? = some o → e ∈ o.after → Region.binds .any e = true → e.on = i → Anc ops i j
  | step {i k j : Nat} {o : Oper} {e : Edge} : ops[j]? = some o → e ∈ o.after → Region.binds .any e = true → e.on = k → Anc ops i k → Anc ops i j
theorem anc_listed {ops : Array Oper} {listed : Array Bool} (hcl : Closed .any ops listed) {i j : Nat} (a : Anc ops i j) :
    (∀ oj, ops[j]? = some oj → ∀ e ∈ oj.after, Region.binds .any e = true → listed.getD e.on false = true) → listed.getD i false = true := by
  induction a with
  | edge h1 h2 h3 h4 => intro hp; rw [← h4]; exact hp _ h1 _ h2 h3
  | step h1 h2 h3 h4 a ih =>
    intro hp
    have hl := hp _ h1 _ h2 h3
    rw [h4] at hl
    exact ih fun ok hk e' he' hb' => hcl _ ok hk hl e' he' hb'
def frc (n : Nat) (k : Nat → List Nat) : List Nat :=
  match n with
  | 0 => k 0
  | m + 1 => k (m + 1)
theorem frc_eq (n : Nat) (k : Nat → List Nat) : frc n k = k n := by cases n <;> rfl
def ancMask (N M : List Nat) : List Edge → Nat → Nat
  | [], a => a
  | e :: r, a => ancMask N M r (match Region.binds .any e with
    | true => a ||| 2 ^ e.on ||| (match N[e.on]? with | some m => m | none => M.getD e.on 0)
    | false => a)
def ancPass : List Oper → List Nat → List Nat → List Nat
  | [], N, _ => N
  | o :: r, N, M => frc (ancMask N M o.after.toList 0) fun m => ancPass r (N ++ [m]) M
def ancs (ops : List Oper) : List Nat := ancPass ops [] (ancPass ops [] (ancPass ops [] []))
def AncGood (ops : Array Oper) (L : List Nat) : Prop := ∀ (j m : Nat), L[j]? = some m → ∀ i, m.testBit i = true → Anc ops i j
theorem mask_good {ops : Array Oper} {N M : List Nat} (hN : AncGood ops N) (hM : AncGood ops M) {j : Nat} {o : Oper} (ho : ops[j]? = some o) : ∀ (es : List Edge) (a : Nat), (∀ e ∈ es, e ∈ o.after) → (∀ i, a.testBit i = true → Anc ops i j) → ∀ i, (ancMask N M es a).testBit i = true → Anc ops i j
  | [], a, _, ha, i, hi => ha i hi
  | e :: r, a, hes, ha, i, hi => by
    unfold ancMask at hi
    refine mask_good hN hM ho r _ (fun x hx => hes x (List.mem_cons_of_mem _ hx)) (fun i hi => ?_) i hi
    have he := hes e (List.mem_cons_self ..)
    cases hb : Region.binds .any e with
    | false => rw [hb] at hi; exact ha i hi
    | true =>
      rw [hb] at hi
      simp only [Nat.testBit_or, Bool.or_eq_true] at hi
      rcases hi with (hi | hi) | hi
      · exact ha i hi
      · rw [Nat.testBit_two_pow] at hi
        exact .edge ho he hb (of_decide_eq_true hi)
      · cases hq : N[e.on]? with
        | some m => rw [hq] at hi; exact .step ho he hb rfl (hN _ _ hq i hi)
        | none =>
          rw [hq] at hi
          simp only [List.getD_eq_getElem?_getD] at hi
          cases hq2 : M[e.on]? with
          | some m => rw [hq2] at hi; exact .step ho he hb rfl (hM _ _ hq2 i hi)
          | none => rw [hq2] at hi; simp at hi
theorem pass_good {ops : Array Oper} {M : List Nat} (hM : AncGood ops M) : ∀ (r : List Oper) (N : List Nat), (∀ k, r[k]? = ops[N.length + k]?) → AncGood ops N → AncGood ops (ancPass r N M)
  | [], N, _, hN => hN
  | o :: r, N, hr, hN => by
    unfold ancPass
    rw [frc_eq]
    have ho : ops[N.length]? = some o := (hr 0).symm
    refine pass_good hM r _ (fun k => ?_) fun j m hj i hi => ?_
    · have := hr (k + 1)
      simp only [List.length_append, List.length_cons, List.length_nil]
      rw [show N.length + (0 + 1) + k = N.length + (k + 1) from by omega, ← this]; rfl
    · rcases Nat.lt_or_ge j N.length with h | h
      · rw [List.getElem?_append_left h] at hj; exact hN j m hj i hi
      · rw [List.getElem?_append_right h] at hj
        have h0 : j - N.length = 0 := by
          rcases Nat.eq_zero_or_pos (j - N.length) with h0 | h0
          · exact h0
          · rw [List.getElem?_eq_none (by simp only [List.length_singleton]; exact h0)] at hj; cases hj
        rw [h0] at hj
        have hj2 : j = N.length := by omega
        subst hj2
        cases hj
        exact mask_good hN hM ho _ 0 (fun e he => by simpa using he) (fun i hi => by simp at hi) i hi
theorem ancs_good (ops : Array Oper) : AncGood ops (ancs ops.toList) := by
  have h0 : ∀ k, ops.toList[k]? = ops[([] : List Nat).length + k]? := fun k => by simp
  have hn : AncGood ops [] := fun j m hj => by simp at hj
  exact pass_good (pass_good (pass_good hn _ _ h0 hn) _ _ h0 hn) _ _ h0 hn
def isAnc (ops : Array Oper) (_ i j : Nat) : Bool := ((ancs ops.toList).getD j 0).testBit i
theorem isAnc_listed {ops : Array Oper} {listed : Array Bool} (hcl : Closed .any ops listed) (f i j : Nat) (h : isAnc ops f i j = true)
    (hp : ∀ oj, ops[j]? = some oj → ∀ e ∈ oj.after, Region.binds .any e = true → listed.getD e.on false = true) : listed.getD i false = true := by
  unfold isAnc at h
  rw [List.getD_eq_getElem?_getD] at h
  cases hq : (ancs ops.toList)[j]? with
  | none => rw [hq] at h; simp at h
  | some m => rw [hq] at h; exact anc_listed hcl (ancs_good ops j m hq i h) hp
def quietK (P : Program) (ops : Array Oper) (i : Nat) : Bool :=
  match ops[i]? with
  | some o => isPure P o.op || isLoad o.op
  | none => false
def loadK (P : Program) (ops : Array Oper) (i : Nat) : Bool :=
  match ops[i]? with
  | some o => !isPure P o.op && isLoad o.op
  | none => false
def needX (P : Program) (ops : Array Oper) (j : Nat) : Bool :=
  (List.range ops.size).any fun i => loadK P ops i && i != j && !isAnc ops ops.size i j && !isAnc ops ops.size j i
def anyX (P : Program) (ops : Array Oper) : Bool :=
  (List.range ops.size).any fun j => !quietK P ops j && needX P ops j
theorem needX_of {ops : Array Oper} {listed : Array Bool} (hcl : Closed .any ops listed) {i j : Nat} (hi : i ∈ Region.ready .any ops listed) (hj : j ∈ Region.ready .any ops listed) (hne : j ≠ i)
    (hl : loadK P ops i = true) : needX P ops j = true := by
  obtain ⟨hui, oi, hoi, halli⟩ := mem_ready.1 hi
  obtain ⟨huj, oj, hoj, hallj⟩ := mem_ready.1 hj
  have h1 : isAnc ops ops.size i j = false := by
    cases h : isAnc ops ops.size i j with
    | false => rfl
    | true =>
      have := isAnc_listed hcl _ _ _ h (fun ok hk e he hb => by
        have : ok = oj := Option.some.inj (hk.symm.trans hoj)
        subst this; exact hallj e he hb)
      rw [getD_both hui] at this; cases this
  have h2 : isAnc ops ops.size j i = false := by
    cases h : isAnc ops ops.size j i with
    | false => rfl
    | true =>
      have := isAnc_listed hcl _ _ _ h (fun ok hk e he hb => by
        have : ok = oi := Option.some.inj (hk.symm.trans hoi)
        subst this; exact halli e he hb)
      rw [getD_both huj] at this; cases this
  unfold needX
  rw [List.any_eq_true]
  have hlt : i < ops.size := (Array.getElem?_eq_some_iff.1 hoi).1
  refine ⟨i, List.mem_range.2 hlt, ?_⟩
  have : (i != j) = true := by simpa using fun e => hne e.symm
  simp [hl, this, h1, h2]
abbrev XS := Nat → Nat → Prop
def Agr (X : XS) (h h' : Heap) : Prop := ∀ b o, X b o → hget h' b o = hget h b o
def LdX (X : XS) (p : Value) (h : Heap) (K : Value → Prop) : Prop :=
  ∃ b o v, p = .pointer (some ⟨b, o, none⟩) ∧ X b o ∧ hget h b o = some v ∧ K v
def LaX (X : XS) (n : Nat) (p : Value) (h : Heap) (K : Value → Prop) : Prop :=
  ∃ (b o : Nat) (vs : List Value), p = .pointer (some ⟨b, o, none⟩) ∧ vs.length = n ∧ (∀ j v, vs[j]? = some v → X b (o + j) ∧ hget h b (o + j) = some v) ∧ K (.agg vs.toArray)
def LxT (X : XS) : Lay → Value → Heap → (Value → Prop) → Prop
  | .bad, _, _, _ => False
  | .one, p, h, K => LdX X p h K
  | .agg n, p, h, K => LaX X n p h K
theorem lx_sound {X : XS} {t : TypeId} {p : Value} {h : Heap} {K : Value → Prop} (hh : LxT X (lay P t) p h K) : ∃ v, (∀ w : World, Agr X h w.heap → (Instr.loadAt t p).run P w = .ok v w) ∧ K v := by
  cases hl : lay P t with
  | bad => rw [hl] at hh; exact hh.elim
  | one =>
    rw [hl] at hh
    obtain ⟨b, o, v, rfl, hx, hc, hk⟩ := hh
    refine ⟨v, fun w hw => ?_, hk⟩
    have h1 : LdT (lay P t) (.pointer (some ⟨b, o, none⟩)) w.heap (fun u => u = v) := by
      rw [hl]; exact ⟨b, o, v, rfl, (hw b o hx).trans hc, rfl⟩
    obtain ⟨u, hu, rfl⟩ := ld_sound h1
    exact hu w rfl
  | agg n =>
    rw [hl] at hh
    obtain ⟨b, o, vs, rfl, hn, hc, hk⟩ := hh
    refine ⟨_, fun w hw => ?_, hk⟩
    have h1 : LdT (lay P t) (.pointer (some ⟨b, o, none⟩)) w.heap (fun u => u = .agg vs.toArray) := by
      rw [hl]; exact ⟨b, o, vs, rfl, hn, fun j v hv => (hw _ _ (hc j v hv).1).trans (hc j v hv).2, rfl⟩
    obtain ⟨u, hu, rfl⟩ := ld_sound h1
    exact hu w rfl
def LoT : Option XS → Heap → Lay → Value → Heap → (Value → Prop) → Prop
  | none, _, l, p, h, K => LdT l p h K
  | some X, h0, l, p, _, K => LxT X l p h0 K
def demand (P : Program) (ops : Array Oper) (listed : Array Bool) (i : Nat) : Bool :=
  needX P ops i || (List.range ops.size).any fun k => loadK P ops k && !listed.getD k true
def DemP : Option XS → Bool → Heap → Heap → Prop
  | some X, true, h0, h' => Agr X h0 h'
  | _, _, _, _ => True
def vcAll : List Nat → (Nat → Prop) → Prop
  | [], _ => True
  | [i], f => f i
  | i :: r :: rs, f => f i ∧ vcAll (r :: rs) f
theorem vcAll_mem {f : Nat → Prop} : ∀ {l : List Nat}, vcAll l f → ∀ i, i ∈ l → f i
  | [], _, i, hi => by cases hi
  | [j], h, i, hi => by rw [List.mem_singleton] at hi; subst hi; exact h
  | j :: r :: rs, h, i, hi => by
    rcases List.mem_cons.1 hi with e | e
    · subst e; exact h.1
    · exact vcAll_mem h.2 i e
def vcAny (P : Program) (n : Nat) (ops : Array Oper) (X : Option XS) (h0 : Heap) : Nat → Array Bool → Nat → Fr → Heap → (Nat → Fr → Heap → Prop) → Prop
  | 0, listed, V, φ, h, K => match Region.ready .any ops listed with
    | [] => K V φ h
    | _ => False
  | f + 1, listed, V, φ, h, K =>
    match (Region.ready .any ops listed).find? (fun i => quietK P ops i && Region.free .any ops listed i) with
    | some i => match ops[i]? with
      | none => False
      | some o => GdP ops o V φ
        (fun φ => if okOp n V o = true then
          match isPure P o.op with
          | true => vcPure P o.op (evf φ) fun v => vcAny P n ops X h0 f (listed.setIfInBounds i true) (bitOf o.dst V) (up φ o.dst v) h K
          | false => match o.op with
            | .load t a => LoT X h0 (lay P t) (evf φ a) h fun v => vcAny P n ops X h0 f (listed.setIfInBounds i true) (bitOf o.dst V) (up φ o.dst v) h K
            | _ => False
          else False)
        (fun φ => skipK n V o fun V => vcAny P n ops X h0 f (listed.setIfInBounds i true) V (up φ o.dst undef) h K)
    | none => match Region.ready .any ops listed with
      | [] => K V φ h
      | r :: rs => vcAll (r :: rs) fun i => match ops[i]? with
        | none => False
        | some o => GdP ops o V φ
          (fun φ => if okOp n V o = true then vcOp P o (evf φ) h fun v h' =>
              DemP X (demand P ops listed i) h0 h' ∧
              vcAny P n ops X h0 f (listed.setIfInBounds i true) (bitOf o.dst V) (up φ o.dst v) h' K else False)
          (fun φ => skipK n V o fun V => vcAny P n ops X h0 f (listed.setIfInBounds i true) V (up φ o.dst undef) h K)
def vcDraw (P : Program) (n : Nat) (ops : Array Oper) (V : Nat) (φ : Fr) (h : Heap) (K : Nat → Fr → Heap → Prop) : Prop :=
  if Region.noSelect ops = true then
    if anyX P ops = true then ∃ X : XS, vcAny P n ops (some X) h ops.size (Array.replicate ops.size false) V φ h K
    else vcAny P n ops none h ops.size (Array.replicate ops.size false) V φ h K
  else False
def Rel (P : Program) (ops : Array Oper) (X : Option XS) (h0 : Heap) (w0 : World) (i : Nat) (w w' : World) : Prop :=
  (Kin w0 w → Kin w0 w') ∧ (if quietK P ops i = true then w'.heap = w.heap else match X with
    | some X => (needX P ops i = true → Agr X h0 w.heap → Agr X h0 w'.heap)
    | none => True)
theorem anyX_false {ops : Array Oper} (h : anyX P ops = false) {j : Nat} (hj : j < ops.size) (hq : quietK P ops j = false) : needX P ops j = false := by
  cases hn : needX P ops j with
  | false => rfl
  | true =>
    have : anyX P ops = true := by
      unfold anyX
      rw [List.any_eq_true]
      exact ⟨j, List.mem_range.2 hj, by simp [hq, hn]⟩
    rw [h] at this; cases this
theorem any_sound {n W : Nat} {φ0 : Fr} {ops : Array Oper} {X : Option XS} {h0 : Heap} {K : Nat → Fr → Heap → Prop} {Q : Exit → Act → World → Prop} {w0 : World}
    (hQ : ∀ V a φ w, FrOf n V a φ → Unch W φ0 φ → Kin w0 w → K V φ w.heap → Q .normal a w) (hW : ∀ (i : Nat) (o : Oper), ops[i]? = some o → ∀ d, o.dst = some d → W.testBit d = true) (hP : ∀ c a w, ¬ Q (.panic c) a w)
    (hsel : Region.noSelect ops = true) (hX : X = none → anyX P ops = false) : ∀ (f : Nat) (listed : Array Bool) (V : Nat) (a : Act) (φ : Fr) (w : World),
      Closed .any ops listed → FrOf n V a φ → Unch W φ0 φ → Kin w0 w → (∀ Y, X = some Y → Agr Y h0 w.heap ∨ ∀ i, loadK P ops i = true → listed.getD i true = true) →
      vcAny P n ops X h0 f listed V φ w.heap K → wpAnyN P .any ops Q (Rel P ops X h0 w0) f listed a w := by
  intro f
  induction f with
  | zero =>
    intro listed V a φ w hcl hV hu hw hA hh
    unfold vcAny at hh
    split at hh
    · rename_i hrd
      exact ⟨hrd, hQ V a φ w hV hu hw hh⟩
    · exact hh.elim
  | succ f ih =>
    intro listed V a φ w hcl hV hu hw hA hh
    unfold vcAny at hh
    split at hh
    · rename_i i hfind
      have hmem := List.mem_of_find?_eq_some hfind
      have hprop := List.find?_some hfind
      simp only [Bool.and_eq_true] at hprop
      obtain ⟨hq, hfree⟩ := hprop
      cases hoi : ops[i]? with
      | none => rw [hoi] at hh; exact hh.elim
      | some o =>
        rw [hoi] at hh
        dsimp only at hh
        have hlt : i < ops.size := (Array.getElem?_eq_some_iff.1 hoi).1
        have hA' : ∀ Y, X = some Y → Agr Y h0 w.heap ∨ ∀ k, loadK P ops k = true → (listed.setIfInBounds i true).getD k true = true := fun Y hY => by
          rcases hA Y hY with h | h
          · exact .inl h
          · refine .inr fun k hk => ?_
            by_cases e : i = k
            · subst e
              simp only [Array.getD_eq_getD_getElem?, Array.getElem?_setIfInBounds]
              simp
              split <;> rfl
            · rw [getD_set_ne true e]; exact h k hk
        have first : ∀ (T : World → Prop) (v : Value) (V' : Nat) (φ' : Fr), YieldsIf P ops T o v a → T w →
            (∀ listed, Closed .any ops listed → i ∈ Region.ready .any ops listed → ∀ j ∈ Region.ready .any ops listed, j ≠ i → ∀ w w', T w → Rel P ops X h0 w0 j w w' → T w') →
            FrOf n V' (a.put o.dst v) φ' → Unch W φ0 φ' → vcAny P n ops X h0 f (listed.setIfInBounds i true) V' φ' w.heap K →
            wpAnyN P .any ops Q (Rel P ops X h0 w0) (f + 1) listed a w := by
          intro T v V' φ' hy hTw hT hV' hu' hn
          refine wpAnyN_first hoi (Region.noSelect_spec hsel) (fun c a w h => (hP _ _ _ h).elim) (fun w _ => ⟨id, by rw [if_pos hq]⟩) hT f listed a w hcl (Region.free_spec hoi hfree) hmem hy hTw ?_
          exact ih _ V' _ φ' w (hcl.set hmem) hV' hu' hw hA' hn
        rcases gd_sound hV hh with ⟨hwt, hr⟩ | ⟨hwt, hr⟩
        · split at hr
          · rename_i hok
            have hx := fun v => hV.put (okOp_dst hok) v
            split at hr
            · obtain ⟨v, hv, hn⟩ := pure_sound hr
              refine first (fun _ => True) v _ _ (.inl ⟨hwt, fun w' _ => ?_⟩) trivial (fun _ _ _ _ _ _ _ _ _ _ => trivial) (hx v) (hu.up (hW i o hoi) v) hn
              rw [hV.exec hok (Region.noSelect_spec hsel i o · · hoi)]
              exact hv w'
            · rename_i hpu
              split at hr
              · rename_i t x hop
                have hld : loadK P ops i = true := by
                  have hpu' := hpu
                  rw [hop] at hpu'
                  simp [loadK, hoi, hop, isLoad, hpu']
                have hunl : listed.getD i true = false := (mem_ready.1 hmem).1
                obtain hXc | ⟨Y, hXc⟩ : X = none ∨ ∃ Y, X = some Y := by cases X <;> simp
                · rw [hXc] at hr
                  obtain ⟨v, hv, hn⟩ := ld_sound hr
                  refine first (fun w' => w'.heap = w.heap) v _ _ (.inl ⟨hwt, fun w' hw' => ?_⟩) rfl ?_ (hx v) (hu.up (hW i o hoi) v) (by rw [hXc]; exact hn)
                  · rw [hV.exec hok (Region.noSelect_spec hsel i o · · hoi)]
                    obtain ⟨dst, op, ty, pos, after, guard⟩ := o
                    dsimp only at hop
                    subst hop
                    exact val_ok (hv w' hw')
                  · intro listed' hcl' hi' j hj hne w1 w2 hT hRel
                    have h2 := hRel.2
                    split at h2
                    · exact h2.trans hT
                    · rename_i hqj
                      have := needX_of hcl' hi' hj hne hld
                      have hjl : j < ops.size := by
                        obtain ⟨_, oj, hoj, _⟩ := mem_ready.1 hj
                        exact (Array.getElem?_eq_some_iff.1 hoj).1
                      rw [anyX_false (hX hXc) hjl (by simpa using hqj)] at this
                      cases this
                · rw [hXc] at hr
                  obtain ⟨v, hv, hn⟩ := lx_sound hr
                  have hAgr : Agr Y h0 w.heap := by
                    rcases hA Y hXc with h | h
                    · exact h
                    · rw [h i hld] at hunl; cases hunl
                  refine first (fun w' => Agr Y h0 w'.heap) v _ _ (.inl ⟨hwt, fun w' hw' => ?_⟩) hAgr ?_ (hx v) (hu.up (hW i o hoi) v) (by rw [hXc]; exact hn)
                  · rw [hV.exec hok (Region.noSelect_spec hsel i o · · hoi)]
                    obtain ⟨dst, op, ty, pos, after, guard⟩ := o
                    dsimp only at hop
                    subst hop
                    exact val_ok (hv w' hw')
                  · intro listed' hcl' hi' j hj hne w1 w2 hT hRel
                    have h2 := hRel.2
                    split at h2
                    · rw [h2]; exact hT
                    · rw [hXc] at h2
                      exact h2 (needX_of hcl' hi' hj hne hld) hT
              · exact hr.elim
          · exact hr.elim
        · obtain ⟨hd, hn⟩ := okOp_of_skip hr
          exact first (fun _ => True) undef _ _ (.inr ⟨hwt, rfl⟩) trivial (fun _ _ _ _ _ _ _ _ _ _ => trivial) (hV.put hd undef) (hu.up (hW i o hoi) undef) hn
    · split at hh
      · rename_i hrd
        exact ⟨fun _ => hQ V a φ w hV hu hw hh, by rw [hrd]; simp⟩
      · rename_i r rs hrd
        refine ⟨(by rw [hrd]; simp), ?_⟩
        intro j hmem
        have hh := vcAll_mem hh j (by rw [← hrd]; exact hmem)
        cases hoi : ops[j]? with
        | none => rw [hoi] at hh; exact hh.elim
        | some o =>
          rw [hoi] at hh
          dsimp only at hh
          have hset : ∀ (w' : World), (∀ Y, X = some Y → demand P ops listed j = true → Agr Y h0 w'.heap) → ∀ Y, X = some Y → Agr Y h0 w'.heap ∨ ∀ k, loadK P ops k = true → (listed.setIfInBounds j true).getD k true = true := by
            intro w' hd Y hY
            cases hdm : demand P ops listed j with
            | true => exact .inl (hd Y hY hdm)
            | false =>
              refine .inr fun k hk => ?_
              simp only [demand, Bool.or_eq_false_iff] at hdm
              by_cases e : j = k
              · subst e
                simp only [Array.getD_eq_getD_getElem?, Array.getElem?_setIfInBounds]
                simp
                split <;> rfl
              · rw [getD_set_ne true e]
                cases hl : listed.getD k true with
                | true => rfl
                | false =>
                  have h2 := hdm.2
                  rw [List.any_eq_false] at h2
                  have hks : k < ops.size := by
                    unfold loadK at hk
                    split at hk
                    · rename_i hk2; exact (Array.getElem?_eq_some_iff.1 hk2).1
                    · cases hk
                  have := h2 k (List.mem_range.2 hks)
                  simp [hk, hl] at this
          unfold wpOp
          rw [hoi]
          dsimp only
          rcases gd_sound hV hh with ⟨hwt, hr⟩ | ⟨hwt, hr⟩
          · rw [if_pos hwt]
            refine .inl ?_
            split at hr
            · rename_i hok
              have fin : ∀ (w' : World) (v : Value), Kin w w' → (quietK P ops j = true → w'.heap = w.heap) →
                  (DemP X (demand P ops listed j) h0 w'.heap ∧
                    vcAny P n ops X h0 f (listed.setIfInBounds j true) (bitOf o.dst V) (up φ o.dst v) w'.heap K) →
                  Rel P ops X h0 w0 j w w' ∧ wpAnyN P .any ops Q (Rel P ops X h0 w0) f (listed.setIfInBounds j true) (a.put o.dst v) w' := by
                intro w' v hkin hqw hn
                refine ⟨⟨fun h => h.trans hkin, ?_⟩, ?_⟩
                · split
                  · rename_i hqj; exact hqw hqj
                  · cases hXc : X with
                    | none => trivial
                    | some Y =>
                      intro hnx _
                      have h1 := hn.1
                      rw [hXc, show demand P ops listed j = true by simp [demand, hnx]] at h1
                      exact h1
                · refine ih _ _ _ _ w' (hcl.set hmem) (hV.put (okOp_dst hok) v) (hu.up (hW j o hoi) v) (hw.trans hkin) (hset w' fun Y hY hd => ?_) hn.2
                  have h1 := hn.1
                  rw [hY, hd] at h1
                  exact h1
              have he := hV.exec hok (noSel_eff hr)
              rcases vcOp_split hr with ⟨v, hv, hk2⟩ | ⟨hp1, hp2, heff⟩
              · unfold Oper.wp
                rw [he, hv w rfl]
                exact fin w v (Kin.refl w) (fun _ => rfl) hk2
              · refine Oper.wp_mono (fun a' w' ⟨v, ha, hkin, hn⟩ => ?_) (eff_sound he (fun _ => rfl) rfl heff)
                subst ha
                exact fin w' v hkin (fun hq => by simp [quietK, hoi, hp1, hp2] at hq) hn
            · exact hr.elim
          · rw [if_neg (by rw [hwt]; decide)]
            obtain ⟨hd, hn⟩ := okOp_of_skip hr
            refine ⟨⟨id, ?_⟩, ?_⟩
            · split
              · rfl
              · cases hXc : X with
                | none => trivial
                | some Y => exact fun _ h => h
            · refine ih _ _ _ _ w (hcl.set hmem) (hV.put hd undef) (hu.up (hW j o hoi) undef) hw (fun Y hY => ?_) hn
              rcases hA Y hY with h | h
              · exact .inl h
              · refine .inr fun k hk => ?_
                by_cases e : j = k
                · subst e
                  simp only [Array.getD_eq_getD_getElem?, Array.getElem?_setIfInBounds]
                  simp
                  split <;> rfl
                · rw [getD_set_ne true e]; exact h k hk
end Go.Vc
namespace Go.Vc
variable {P : Program}
theorem draw_sound {n W : Nat} {φ0 : Fr} {id : Nat} {ops : Array Oper} {K : Nat → Fr → Heap → Prop} {Q : Exit → Act → World → Prop} {w0 w : World} {V : Nat} {a : Act} {φ : Fr}
    (hm : P.follows .mixedOrders = true)
    (hQ : ∀ V a φ w, FrOf n V a φ → Unch W φ0 φ → Kin w0 w → K V φ w.heap → Q .normal a w) (hW : ∀ (i : Nat) (o : Oper), ops[i]? = some o → ∀ d, o.dst = some d → W.testBit d = true) (hP : ∀ c a w, ¬ Q (.panic c) a w)
    (hV : FrOf n V a φ) (hu : Unch W φ0 φ) (hw : Kin w0 w) (hh : vcDraw P n ops V φ w.heap K) : (Code.region id ops true).wp P Q a w := by
  unfold vcDraw at hh
  split at hh
  · rename_i hsel
    refine wp_region_any hm ?_
    have hw' : Kin w0 { w with drawn := w.drawn + 1 } := hw.trans ⟨rfl, rfl, rfl⟩
    split at hh
    · obtain ⟨X, hh⟩ := hh
      exact wpAny_of_N _ _ _ _ (any_sound (X := some X) (h0 := w.heap) hQ hW hP hsel (fun h => by cases h) _ _ V a φ { w with drawn := w.drawn + 1 } (Closed.start _) hV hu hw' (fun Y hY => .inl (by cases hY; exact fun _ _ _ => rfl)) hh)
    · rename_i hx
      exact wpAny_of_N _ _ _ _ (any_sound (X := none) (h0 := w.heap) hQ hW hP hsel (fun _ => by simpa using hx) _ _ V a φ { w with drawn := w.drawn + 1 } (Closed.start _) hV hu hw' (fun Y hY => by cases hY) hh)
  · exact hh.elim
def wrL : List Oper → Nat
  | [] => 0
  | o :: os => bitOf o.dst (wrL os)
theorem wrL_mem {o : Oper} {d : Tmp} (hd : o.dst = some d) : ∀ (os : List Oper), o ∈ os → (wrL os).testBit d = true
  | [], h => by cases h
  | p :: os, h => by
    rcases List.mem_cons.1 h with h | h
    · subst h
      simp only [wrL, hd, bitOf, testBit_bitOf]
      simp
    · have := wrL_mem hd os h
      simp only [wrL]
      cases hp : p.dst with
      | none => exact this
      | some e => simp only [bitOf, testBit_bitOf, this, Bool.true_or]
def wr : Code → Nat
  | .region _ ops _ => wrL ops.toList
  | .seq a b => wr a ||| wr b
  | .cond _ a b => wr a ||| wr b
  | .block _ c => wr c
  | .loop c => wr c
  | _ => 0
def modL (n V W : Nat) : List Nat := (List.range n).filter fun t => (V &&& W).testBit t
def gv (vs : List Value) (i : Nat) : Value := vs.getD i undef
def setLi (φ : Fr) : Nat → List Nat → List Value → Fr
  | i, m :: M, vs => fun t => bif Nat.beq t m then gv vs i else setLi φ (i + 1) M vs t
  | _, [], _ => φ
def setL (φ : Fr) (M : List Nat) (vs : List Value) : Fr := setLi φ 0 M vs
theorem setLi_map (φ : Fr) (g : Nat → Value) (t : Nat) : ∀ (M : List Nat) (i : Nat) (vs : List Value), (∀ k m, M[k]? = some m → gv vs (i + k) = g m) → setLi φ i M vs t = if t ∈ M then g t else φ t
  | [], i, vs, _ => by simp [setLi]
  | m :: M, i, vs, h => by
    simp only [setLi]
    rw [setLi_map φ g t M (i + 1) vs (fun k m' hk => by rw [Nat.add_assoc, Nat.add_comm 1 k]; exact h (k + 1) m' (by simpa using hk))]
    cases hq : Nat.beq t m with
    | true => have := Nat.eq_of_beq_eq_true hq; subst this; simpa using h 0 t rfl
    | false =>
      have : t ≠ m := fun e => by rw [e] at hq; simp at hq
      simp [this]
theorem setL_map (φ : Fr) (g : Nat → Value) (M : List Nat) (t : Nat) : setL φ M (M.map g) t = if t ∈ M then g t else φ t :=
  setLi_map φ g t M 0 _ (fun k m hk => by
    rw [Nat.zero_add, gv, List.getD_eq_getElem?_getD, List.getElem?_map, hk]; rfl)
def LoP {σ : Type} (body : σ → Heap → (σ → Heap → Prop) → Prop) (s : σ) (h : Heap) : Prop :=
  ∃ (I : σ → Heap → Prop) (μ : σ → Heap → Nat), I s h ∧ ∀ s h, I s h → body s h fun s' h' => I s' h' ∧ μ s' h' < μ s h
abbrev VQ := Exit → Nat → Fr → Heap → Prop
def SeqQ (next : Nat → Fr → Heap → Prop) (Q : VQ) : VQ
  | .normal, V, φ, h => next V φ h
  | e, V, φ, h => Q e V φ h
def BlkQ (id : Nat) (Q : VQ) : VQ
  | .exit i, V, φ, h => bif Nat.beq i id then Q .normal V φ h else Q (.exit i) V φ h
  | e, V, φ, h => Q e V φ h
def LopQ (V0 : Nat) (M : List Nat) (next : List Value → Heap → Prop) (Q : VQ) : VQ
  | .normal, V, φ, h => if V0 &&& V = V0 then next (M.map φ) h else False
  | e, V, φ, h => Q e V φ h
def CoT (n V : Nat) (φ : Fr) : Operand → Prop → Prop → Prop
  | .tmp t, A, B => if V.testBit t = true then CdP (φ t) A B else False
  | .const v, A, B => CdP v A B
  | _, _, _ => False
def vc (P : Program) (n : Nat) : Code → Nat → Fr → Heap → VQ → Prop
  | .skip, V, φ, h, Q => Q .normal V φ h
  | .label _, V, φ, h, Q => Q .normal V φ h
  | .region _ ops false, V, φ, h, Q => vcOps P n ops ops.toList V φ h fun V φ h => Q .normal V φ h
  | .region _ ops true, V, φ, h, Q => vcDraw P n ops V φ h fun V φ h => Q .normal V φ h
  | .seq a b, V, φ, h, Q => vc P n a V φ h (SeqQ (fun V φ h => vc P n b V φ h Q) Q)
  | .cond c x y, V, φ, h, Q => CoT n V φ c (vc P n x V φ h Q) (vc P n y V φ h Q)
  | .block id c, V, φ, h, Q => vc P n c V φ h (BlkQ id Q)
  | .loop c, V, φ, h, Q => LoP (fun vs h next => vc P n c V (setL φ (modL n V (wr c)) vs) h (LopQ V (modL n V (wr c)) next Q)) ((modL n V (wr c)).map φ) h
  | .exit id, V, φ, h, Q => Q (.exit id) V φ h
  | .ret, V, φ, h, Q => Q .ret V φ h
  | _, _, _, _, _ => False
def Of (n W : Nat) (φ0 : Fr) (w0 : World) (Q : VQ) : Exit → Act → World → Prop :=
  fun e a w => ∃ V φ, FrOf n V a φ ∧ Unch W φ0 φ ∧ Kin w0 w ∧ Q e V φ w.heap
def NoPan (Q : VQ) : Prop := ∀ c V φ h, ¬ Q (.panic c) V φ h
theorem testBit_sub {V V2 t : Nat} (h : V &&& V2 = V) (ht : V.testBit t = true) : V2.testBit t = true := by
  rw [← h, Nat.testBit_and, Bool.and_eq_true] at ht
  exact ht.2
theorem vc_sound {n : Nat} (hm : P.follows .mixedOrders = true) : ∀ (c : Code) {W : Nat} {φ0 : Fr} {w0 w : World} {V : Nat} {a : Act} {φ : Fr} {Q : VQ} {R : Exit → Act → World → Prop},
    NoPan Q → (∀ c a w, ¬ R (.panic c) a w) → (∀ t, (wr c).testBit t = true → W.testBit t = true) → FrOf n V a φ → Unch W φ0 φ → Kin w0 w → vc P n c V φ w.heap Q →
    (∀ e a w, Of n W φ0 w0 Q e a w → R e a w) → c.wp P R a w := by
  intro c
  induction c with
  | skip => intro W φ0 w0 w V a φ Q R hp hrp hw hV hu hk hh hR; exact wp_skip (hR _ _ _ ⟨V, φ, hV, hu, hk, hh⟩)
  | label l => intro W φ0 w0 w V a φ Q R hp hrp hw hV hu hk hh hR; exact wp_label (hR _ _ _ ⟨V, φ, hV, hu, hk, hh⟩)
  | exit id => intro W φ0 w0 w V a φ Q R hp hrp hw hV hu hk hh hR; exact wp_exit (hR _ _ _ ⟨V, φ, hV, hu, hk, hh⟩)
  | ret => intro W φ0 w0 w V a φ Q R hp hrp hw hV hu hk hh hR; exact wp_ret (hR _ _ _ ⟨V, φ, hV, hu, hk, hh⟩)
  | region id ops d =>
    intro W φ0 w0 w V a φ Q R hp hrp hw hV hu hk hh hR
    have hmem : ∀ o, o ∈ ops.toList → ∀ d, o.dst = some d → W.testBit d = true := fun o ho d hd => hw d (wrL_mem hd _ ho)
    cases d with
    | false =>
      refine wp_region_list ?_
      exact ops_sound (fun V a φ w h1 h2 h3 h4 => hR _ _ _ ⟨V, φ, h1, h2, h3, h4⟩) _ V a φ w hmem hV hu hk hh
    | true =>
      exact draw_sound hm (fun V a φ w h1 h2 h3 h4 => hR _ _ _ ⟨V, φ, h1, h2, h3, h4⟩) (fun i o ho => hmem o (by simpa using Array.mem_of_getElem? ho)) hrp hV hu hk hh
  | seq x y ihx ihy =>
    intro W φ0 w0 w V a φ Q R hp hrp hw hV hu hk hh hR
    refine wp_seq ?_
    refine ihx (Q := SeqQ (fun V φ h => vc P n y V φ h Q) Q) (fun c V φ h hq => hp c V φ h hq) (fun c a w h => hrp c a w h) (fun t ht => hw t (by simp [wr, Nat.testBit_or, ht])) hV hu hk hh ?_
    rintro e a1 w1 ⟨V1, φ1, h1, h2, h3, h4⟩
    cases e with
    | normal => exact ihy (Q := Q) hp hrp (fun t ht => hw t (by simp [wr, Nat.testBit_or, ht])) h1 h2 h3 h4 hR
    | exit id => exact hR _ _ _ ⟨V1, φ1, h1, h2, h3, h4⟩
    | goto l => exact hR _ _ _ ⟨V1, φ1, h1, h2, h3, h4⟩
    | ret => exact hR _ _ _ ⟨V1, φ1, h1, h2, h3, h4⟩
    | panic l => exact hR _ _ _ ⟨V1, φ1, h1, h2, h3, h4⟩
    | outgrown => exact hR _ _ _ ⟨V1, φ1, h1, h2, h3, h4⟩
  | cond c x y ihx ihy =>
    intro W φ0 w0 w V a φ Q R hp hrp hw hV hu hk hh hR
    simp only [vc] at hh
    cases c with
    | tmp t =>
      simp only [CoT] at hh
      split at hh
      · rename_i hb
        unfold CdP at hh
        split at hh
        · rename_i hbv
          exact wp_cond (t := true) ((hV.slot t hb).trans hbv) (ihx hp hrp (fun t ht => hw t (by simp [wr, Nat.testBit_or, ht])) hV hu hk hh hR)
        · rename_i hbv
          exact wp_cond (t := false) ((hV.slot t hb).trans hbv) (ihy hp hrp (fun t ht => hw t (by simp [wr, Nat.testBit_or, ht])) hV hu hk hh hR)
        · exact hh.elim
      · exact hh.elim
    | const v =>
      simp only [CoT] at hh
      unfold CdP at hh
      split at hh
      · exact wp_cond (t := true) rfl (ihx hp hrp (fun t ht => hw t (by simp [wr, Nat.testBit_or, ht])) hV hu hk hh hR)
      · exact wp_cond (t := false) rfl (ihy hp hrp (fun t ht => hw t (by simp [wr, Nat.testBit_or, ht])) hV hu hk hh hR)
      · exact hh.elim
    | global g => exact hh.elim
    | func f => exact hh.elim
  | block id x ih =>
    intro W φ0 w0 w V a φ Q R hp hrp hw hV hu hk hh hR
    refine wp_block ?_
    refine ih (Q := BlkQ id Q) (fun c V φ h hq => hp c V φ h hq) (fun c a w h => hrp c a w h) hw hV hu hk hh ?_
    rintro e a1 w1 ⟨V1, φ1, h1, h2, h3, h4⟩
    cases e with
    | exit i =>
      simp only [BlkQ] at h4
      simp only [Exit.inBlock]
      cases hq : Nat.beq i id with
      | true => rw [hq] at h4; rw [if_pos (Nat.eq_of_beq_eq_true hq)]; exact hR _ _ _ ⟨V1, φ1, h1, h2, h3, h4⟩
      | false =>
        rw [hq] at h4
        rw [if_neg (fun e => by rw [e] at hq; simp at hq)]
        exact hR _ _ _ ⟨V1, φ1, h1, h2, h3, h4⟩
    | normal => exact hR _ _ _ ⟨V1, φ1, h1, h2, h3, h4⟩
    | goto l => exact hR _ _ _ ⟨V1, φ1, h1, h2, h3, h4⟩
    | ret => exact hR _ _ _ ⟨V1, φ1, h1, h2, h3, h4⟩
    | panic l => exact hR _ _ _ ⟨V1, φ1, h1, h2, h3, h4⟩
    | outgrown => exact hR _ _ _ ⟨V1, φ1, h1, h2, h3, h4⟩
  | loop x ih =>
    intro W φ0 w0 w V a φ Q R hp hrp hw hV hu hk hh hR
    obtain ⟨I, μ, hI, hbody⟩ := hh
    generalize hM : modL n V (wr x) = M at hI hbody
    have hMem : ∀ t, t ∈ M → V.testBit t = true ∧ (wr x).testBit t = true := by
      intro t ht
      rw [← hM] at ht
      have := (List.mem_filter.1 ht).2
      rwa [Nat.testBit_and, Bool.and_eq_true] at this
    have hNot : ∀ t, V.testBit t = true → t < n → t ∉ M → (wr x).testBit t = false := by
      intro t h1 h2 h3
      cases hq : (wr x).testBit t with
      | false => rfl
      | true => exact absurd (by rw [← hM]; exact List.mem_filter.2 ⟨List.mem_range.2 h2, by rw [Nat.testBit_and, h1, hq]; rfl⟩) h3
    let vs : Act → List Value := fun a => M.map fun m => a.tmps.getD m undef
    have hset : ∀ (a1 : Act) (V1 : Nat) (φ1 : Fr), V &&& V1 = V → FrOf n V1 a1 φ1 → (∀ t, (wr x).testBit t = false → φ1 t = φ t) →
        vs a1 = M.map φ1 ∧ FrOf n V a1 (setL φ M (vs a1)) := by
      intro a1 V1 φ1 hs h1 h2
      refine ⟨List.map_congr_left fun m hm => h1.slot m (testBit_sub hs (hMem m hm).1), h1.defers, h1.size, fun t ht => ?_⟩
      rw [setL_map]
      split
      · rfl
      · rename_i hnm
        rw [h1.slot t (testBit_sub hs ht)]
        by_cases hlt : t < n
        · exact h2 t (hNot t ht hlt hnm)
        · 
          have e1 : a1.tmps.getD t undef = undef := by
            rw [Array.getD_eq_getD_getElem?, Array.getElem?_eq_none (by rw [h1.size]; omega)]; rfl
          have e2 : a.tmps.getD t undef = undef := by
            rw [Array.getD_eq_getD_getElem?, Array.getElem?_eq_none (by rw [hV.size]; omega)]; rfl
          rw [← h1.slot t (testBit_sub hs ht), e1, ← hV.slot t ht, e2]
    refine wp_loop (fun a1 w1 => FrOf n V a1 (setL φ M (vs a1)) ∧ Kin w0 w1 ∧ I (vs a1) w1.heap) (fun a1 w1 => μ (vs a1) w1.heap) ?_ ?_
    · have := hset a V φ (Nat.and_self V) hV (fun _ _ => rfl)
      exact ⟨this.2, hk, by rw [this.1]; exact hI⟩
    · rintro a1 w1 ⟨h1, h2, h3⟩
      have hb := hbody _ _ h3
      have hu1 : Unch W φ0 (setL φ M (vs a1)) := by
        intro t ht
        rw [setL_map]
        split
        · rename_i hm; rw [hw t (hMem t hm).2] at ht; cases ht
        · exact hu t ht
      refine ih (W := wr x) (φ0 := setL φ M (vs a1)) (w0 := w1) (Q := LopQ V M (fun s' h' => I s' h' ∧ μ s' h' < μ (vs a1) w1.heap) Q) (fun c V φ h hq => hp c V φ h hq) (fun c a w h => hrp c a w h) (fun t ht => ht) h1 (Unch.refl _ _) (Kin.refl _) hb ?_
      rintro e a2 w2 ⟨V2, φ2, k1, k2, k3, k4⟩
      have hu2 : Unch W φ0 φ2 := fun t ht => (k2 t (by cases hq : (wr x).testBit t with | false => rfl | true => rw [hw t hq] at ht; cases ht)).trans (hu1 t ht)
      have rest : ∀ e, Q e V2 φ2 w2.heap → R e a2 w2 := fun e hq => hR _ _ _ ⟨V2, φ2, k1, hu2, h2.trans k3, hq⟩
      cases e with
      | normal =>
        simp only [LopQ] at k4
        split at k4
        · rename_i hsub
          have := hset a2 V2 φ2 hsub k1 (fun t ht => by
            rw [k2 t ht, setL_map]
            split
            · rename_i hm; rw [(hMem t hm).2] at ht; cases ht
            · rfl)
          refine ⟨⟨this.2, h2.trans k3, ?_⟩, ?_⟩
          · rw [this.1]; exact k4.1
          · rw [this.1]; exact k4.2
        · exact k4.elim
      | exit i => exact rest _ k4
      | goto l => exact rest _ k4
      | ret => exact rest _ k4
      | panic l => exact rest _ k4
      | outgrown => exact rest _ k4
  | rangeFunc f p x y => intro W φ0 w0 w V a φ Q R hp hrp hw hV hu hk hh hR; exact hh.elim
  | scope x => intro W φ0 w0 w V a φ Q R hp hrp hw hV hu hk hh hR; exact hh.elim
  | goto l => intro W φ0 w0 w V a φ Q R hp hrp hw hV hu hk hh hR; exact hh.elim
  | refuse s => intro W φ0 w0 w V a φ Q R hp hrp hw hV hu hk hh hR; exact hh.elim
def RetV (P : Program) (V : Nat) (φ : Fr) (h : Heap) : List ResultVar → (List Value → Prop) → Prop
  | [], k => k []
  | .tmp t :: r, k => if V.testBit t = true then RetV P V φ h r (fun vs => k (φ t :: vs)) else False
  | .cell a t :: r, k => if V.testBit a = true then LdT (lay P t) (φ a) h (fun v => RetV P V φ h r (fun vs => k (v :: vs))) else False
def one2 : List Value → Value
  | [v] => v
  | vs => .tuple vs.toArray
def RetQ (P : Program) (fn : Func) (K : Value → Heap → Prop) : VQ
  | .normal, V, φ, h | .ret, V, φ, h => RetV P V φ h fn.results.toList fun vs => K (one2 vs) h
  | _, _, _, _ => False
def args0 (args : List Value) : Fr := fun t => args.getD t undef
def body (P : Program) (fn : Func) (args : List Value) (h : Heap) (K : Value → Heap → Prop) : Prop :=
  match fn.body with
  | some c => if args.length ≤ fn.ntmps then vc P fn.ntmps c (2 ^ args.length - 1) (args0 args) h (RetQ P fn K) else False
  | none => False
def resM (tmps : Array Value) : ResultVar → Sem Value
  | .tmp t => pure (tmps.getD t undef)
  | .cell a t => do loadVar t (← asAddr (tmps.getD a undef))
theorem results_eq (fn : Func) (tmps : Array Value) : results fn tmps = (do
    let vs ← fn.results.mapM (resM tmps)
    pure (if h : vs.size = 1 then vs[0] else .tuple vs)) := by
  unfold results
  congr 1
theorem retV_sound {V n : Nat} {φ : Fr} {a : Act} {w : World} {h : Heap} (hV : FrOf n V a φ) (hw : w.heap = h) : ∀ (rs : List ResultVar) (k : List Value → Prop), RetV P V φ h rs k →
    ∃ vs, (rs.mapM (resM a.tmps) : Sem (List Value)).run P w = .ok vs w ∧ k vs
  | [], k, hh => ⟨[], by simp, hh⟩
  | .tmp t :: r, k, hh => by
    unfold RetV at hh
    split at hh
    · rename_i hb
      obtain ⟨vs, h1, h2⟩ := retV_sound hV hw r _ hh
      refine ⟨φ t :: vs, ?_, h2⟩
      rw [List.mapM_cons, Sem.run_bind]
      simp only [resM]
      rw [Sem.run_pure, Result.andThen_ok, Sem.run_bind, h1, Result.andThen_ok, hV.slot t hb]
      rfl
    · exact hh.elim
  | .cell x t :: r, k, hh => by
    unfold RetV at hh
    split at hh
    · rename_i hb
      obtain ⟨v, hv, hk⟩ := ld_sound hh
      obtain ⟨vs, h1, h2⟩ := retV_sound hV hw r _ hk
      refine ⟨v :: vs, ?_, h2⟩
      have hld := hv w hw
      rw [List.mapM_cons, Sem.run_bind]
      simp only [resM]
      rw [hV.slot x hb]
      have : ((do loadVar t (← asAddr (φ x))) : Sem Value).run P w = .ok v w := by
        unfold Instr.loadAt at hld
        generalize φ x = p at hld ⊢
        cases p <;> try (simp [Instr.sureAddr, Sem.run_bind, stuck, Sem.run] at hld; done)
        rename_i ad
        cases ad with
        | none => simp [Instr.sureAddr, Sem.run_bind, stuck, Sem.run] at hld
        | some ad => exact hld
      rw [this, Result.andThen_ok, Sem.run_bind, h1, Result.andThen_ok]
      rfl
    · exact hh.elim
theorem calls_of_vc {f : FuncId} {fn : Func} {args : Array Value} {h : Heap} {K : Value → Heap → Prop} (hm : P.follows .mixedOrders = true) (hf : P.funcs[f]? = some fn)
    (hh : body P fn args.toList h K) : CH P f args h K := by
  intro w hw
  unfold body at hh
  split at hh
  · rename_i c hb
    split at hh
    · rename_i hle
      refine calls_of_wp hf hb ?_
      have hsz : args.size ≤ fn.ntmps := by simpa using hle
      subst hw
      refine vc_sound (n := fn.ntmps) (W := wr c) (φ0 := args0 args.toList) (w0 := w) (Q := RetQ P fn fun v h' => K v h') hm c ?_ ?_ (fun t ht => ht) ⟨rfl, ?_, ?_⟩ (Unch.refl _ _) (Kin.refl _) hh ?_
      · exact fun c V φ h hq => hq
      · rintro c a w' ⟨_, v, hv, _⟩; cases hv
      · simp only [Array.size_append, Array.size_replicate]; omega
      · intro t ht
        rw [Array.length_toList] at ht
        have htl : t < args.size := by
          rcases Nat.lt_or_ge t args.size with h | h
          · exact h
          · rw [Nat.testBit_two_pow_sub_one] at ht
            simp at ht
            omega
        simp only [args0]
        rw [Array.getD_eq_getD_getElem?, Array.getElem?_append_left htl, List.getD_eq_getElem?_getD, Array.getElem?_toList]
      · rintro e a w' ⟨V, φ, h1, h2, h3, h4⟩
        have key : RetV P V φ w'.heap fn.results.toList (fun vs => K (one2 vs) w'.heap) → a.defers = [] ∧ ∃ v, (results fn a.tmps).run P w' = .ok v w' ∧ ∃ u, Ending.returned v = .returned u ∧ Kin w w' ∧ K u w'.heap := by
          intro hq
          obtain ⟨vs, hvs, hk⟩ := retV_sound h1 rfl _ _ hq
          refine ⟨h1.defers, one2 vs, ?_, _, rfl, h3, hk⟩
          have hm2 : (fn.results.mapM (resM a.tmps) : Sem (Array Value)).run P w' = .ok vs.toArray w' := by
            rw [Array.mapM_eq_mapM_toList, Sem.run_map, hvs]
            rfl
          rw [results_eq, Sem_bind_ok hm2, Sem.run_pure]
          congr 1
          cases vs with
          | nil => rfl
          | cons v r =>
            cases r with
            | nil => rfl
            | cons u r => simp [one2]
        cases e with
        | normal => exact key h4
        | ret => exact key h4
        | exit i => exact h4.elim
        | goto l => exact h4.elim
        | panic l => exact h4.elim
        | outgrown => exact h4.elim
    · exact hh.elim
  · exact hh.elim
end Go.Vc
namespace Go.Sg
open Go Vc
abbrev f_law34_SqueezeNone : FuncId := 5
abbrev f_cursor_Cursor_Next : FuncId := 6
abbrev f_cursor_Cursor_All : FuncId := 9
abbrev f_cursor_New : FuncId := 10
abbrev f_kv_Store_Close : FuncId := 12
abbrev f_law34_Stored : FuncId := 20
abbrev f_squeeze_Pairs : FuncId := 24
abbrev f_squeeze_Squeeze : FuncId := 25
abbrev f_squeeze_Union : FuncId := 26
abbrev f_squeeze_Missing : FuncId := 27
abbrev f_law34_awake : FuncId := 28
abbrev f_cursor_Cursor_none : FuncId := 29
abbrev f_kv_Store_Range : FuncId := 30
abbrev f_lex_Next : FuncId := 31
abbrev f_law18_Light : FuncId := 32
abbrev f_kv_New : FuncId := 33
abbrev f_law27_Long : FuncId := 34
abbrev f_law27_Step : FuncId := 35
abbrev f_ref27_Do : FuncId := 36
abbrev f_kv_Store_count : FuncId := 37
abbrev f_kv_Store_Close_1 : FuncId := 38
abbrev f_mount_Mount_Sync : FuncId := 39
abbrev f_mount_Mount_Device : FuncId := 40
abbrev f_dev_Device_Image : FuncId := 41
abbrev f_buf_Find : FuncId := 43
abbrev f_slices_Clone_api_Msg : FuncId := 44
abbrev f_node_Key : FuncId := 47
abbrev f_kv_Store_Config : FuncId := 48
abbrev f_kv_Open : FuncId := 49
abbrev f_strings_Repeat : FuncId := 51
abbrev f_squeeze_Pairs_1 : FuncId := 52
abbrev f_squeeze_lay : FuncId := 53
abbrev f_mix_Merge : FuncId := 54
abbrev f_mix_Unlike : FuncId := 55
abbrev f_kv_Store_Left : FuncId := 56
abbrev f_kv_Store_Range_1 : FuncId := 57
abbrev f_lex_Compare : FuncId := 58
abbrev f_scan_Range : FuncId := 59
abbrev f_mount_Mount_Tree : FuncId := 60
abbrev f_tree_Tree_Shelf : FuncId := 61
abbrev f_tree_Tree_Root : FuncId := 62
abbrev f_ref09_Right : FuncId := 63
abbrev f_mount_Format : FuncId := 64
abbrev f_kv_begin : FuncId := 65
abbrev f_kv_Store_Put : FuncId := 66
abbrev f_kv_Store_Delete : FuncId := 67
abbrev f_kv_Store_Get : FuncId := 68
abbrev f_kv_Store_Sync : FuncId := 69
abbrev f_kv_Store_Reopen : FuncId := 70
abbrev f_ref27_May : FuncId := 71
abbrev f_ref11_Put : FuncId := 72
abbrev f_ref11_Cut : FuncId := 73
abbrev f_ref11_Get : FuncId := 74
abbrev f_ref11_Part : FuncId := 75
abbrev f_kv_Store_open : FuncId := 76
abbrev f_dev_Device_Stats : FuncId := 77
abbrev f_kv_minus : FuncId := 78
abbrev f_kv_plus : FuncId := 79
abbrev f_mount_Mount_none : FuncId := 80
abbrev f_head_Encode : FuncId := 81
abbrev f_mount_Mount_Head : FuncId := 82
abbrev f_shelf_Shelf_Flush : FuncId := 83
abbrev f_dev_Device_Write : FuncId := 84
abbrev f_slices_Clone_byte : FuncId := 85
abbrev f_buf_Put : FuncId := 86
abbrev f_dev_From : FuncId := 90
abbrev f_mount_Open : FuncId := 91
abbrev f_bits_Mul : FuncId := 93
abbrev f_strings_HasPrefix : FuncId := 94
abbrev f_strings_Builder_Grow : FuncId := 95
abbrev f_strings_Builder_WriteString : FuncId := 96
abbrev f_strings_Builder_Len : FuncId := 97
abbrev f_strings_Builder_String : FuncId := 98
abbrev f_bulk_Lay : FuncId := 99
abbrev f_shelf_Shelf_Left : FuncId := 102
abbrev f_strings_Compare : FuncId := 103
abbrev f_lex_Empty : FuncId := 104
abbrev f_scan_scanner_visit : FuncId := 105
abbrev f_tree_Tree_none : FuncId := 106
abbrev f_ref09_Sized : FuncId := 107
abbrev f_ref09_in : FuncId := 108
abbrev f_ref09_Inner : FuncId := 109
abbrev f_ref09_Outer : FuncId := 110
abbrev f_conf_Check : FuncId := 111
abbrev f_dev_New : FuncId := 112
abbrev f_shelf_New : FuncId := 113
abbrev f_tree_New : FuncId := 114
abbrev f_kv_Store_put : FuncId := 115
abbrev f_ref13_Key : FuncId := 120
abbrev f_ref01_Compare : FuncId := 121
abbrev f_head_Right : FuncId := 123
abbrev f_head_numbers : FuncId := 124
abbrev f_word_Put : FuncId := 125
abbrev f_check_Sum : FuncId := 126
abbrev f_shelf_Shelf_Config : FuncId := 127
abbrev f_tree_Tree_Height : FuncId := 128
abbrev f_shelf_Shelf_made : FuncId := 129
abbrev f_cache_Cache_Flush : FuncId := 130
abbrev f_dev_Device_at : FuncId := 131
abbrev f_dev_right : FuncId := 133
abbrev f_dev_Device_Read : FuncId := 134
abbrev f_head_Decode : FuncId := 135
abbrev f_tree_Open : FuncId := 136
abbrev f_bits_Mul32 : FuncId := 137
abbrev f_bits_Mul64 : FuncId := 138
abbrev f_stringslite_HasPrefix : FuncId := 139
abbrev f_strings_Builder_copyCheck : FuncId := 140
abbrev f_strings_Builder_grow : FuncId := 141
abbrev f_bulk_may : FuncId := 142
abbrev f_bulk_leaves : FuncId := 143
abbrev f_bulk_above : FuncId := 144
abbrev f_pool_Pool_Free : FuncId := 148
abbrev f_bytealg_CompareString : FuncId := 149
abbrev f_shelf_Shelf_Load : FuncId := 150
abbrev f_leaf_Apply : FuncId := 151
abbrev f_leaf_Part : FuncId := 152
abbrev f_buf_Merge : FuncId := 153
abbrev f_buf_Part : FuncId := 154
abbrev f_fan_Span : FuncId := 155
abbrev f_scan_scanner_full : FuncId := 156
abbrev f_conf_sized : FuncId := 157
abbrev f_conf_Least : FuncId := 158
abbrev f_cache_New : FuncId := 159
abbrev f_dev_Device_Blocks : FuncId := 160
abbrev f_dev_Device_Bytes : FuncId := 161
abbrev f_pool_New : FuncId := 162
abbrev f_shelf_Shelf_Make : FuncId := 163
abbrev f_shelf_Shelf_Keep : FuncId := 164
abbrev f_kv_Store_put_1 : FuncId := 165
abbrev f_tree_Tree_Put : FuncId := 166
abbrev f_word_right : FuncId := 168
abbrev f_check_More : FuncId := 169
abbrev f_cache_Cache_none : FuncId := 170
abbrev f_cache_Cache_Dirty : FuncId := 171
abbrev f_cache_Cache_back : FuncId := 172
abbrev f_word_Open : FuncId := 175
abbrev f_word_Reader_Raw : FuncId := 176
abbrev f_word_Reader_Num : FuncId := 177
abbrev f_word_Reader_Err : FuncId := 178
abbrev f_slices_Equal_byte : FuncId := 179
abbrev f_walk_Blocks : FuncId := 180
abbrev f_shelf_Shelf_Has : FuncId := 181
abbrev f_shelf_Shelf_Mark : FuncId := 182
abbrev f_abi_NoEscape : FuncId := 183
abbrev f_bytealg_MakeNoZero : FuncId := 184
abbrev f_leaf_Right : FuncId := 185
abbrev f_slices_ContainsFunc_api_Pair : FuncId := 186
abbrev f_bulk_may_1 : FuncId := 187
abbrev f_bulk_Blocks : FuncId := 188
abbrev f_slices_Chunk_api_Pair : FuncId := 189
abbrev f_pool_Pool_none : FuncId := 195
abbrev f_bits_Row_Len : FuncId := 196
abbrev f_bits_Row_Count : FuncId := 197
abbrev f_bytealg_abigen_runtime_cmpstring : FuncId := 198
abbrev f_shelf_Shelf_there : FuncId := 199
abbrev f_cache_Cache_Pin : FuncId := 200
abbrev f_cache_Cache_Read : FuncId := 201
abbrev f_cache_Cache_Unpin : FuncId := 202
abbrev f_code_Decode : FuncId := 203
abbrev f_slices_Clone_api_Pair : FuncId := 204
abbrev f_slices_BinarySearchFunc_api_Pair : FuncId := 205
abbrev f_leaf_compare : FuncId := 206
abbrev f_slices_Delete_api_Pair : FuncId := 207
abbrev f_slices_Insert_api_Pair : FuncId := 208
abbrev f_conf_Inner : FuncId := 211
abbrev f_conf_Outer : FuncId := 212
abbrev f_chain_New : FuncId := 213
abbrev f_bits_New : FuncId := 214
abbrev f_bits_Row_Set : FuncId := 215
abbrev f_code_Encode : FuncId := 216
abbrev f_pool_Pool_Take : FuncId := 217
abbrev f_shelf_Shelf_lay : FuncId := 218
abbrev f_pool_Pool_Give : FuncId := 219
abbrev f_tree_Tree_may : FuncId := 220
abbrev f_tree_Tree_direct : FuncId := 221
abbrev f_tree_Tree_raise : FuncId := 222
abbrev f_tree_Tree_drain : FuncId := 223
abbrev f_slices_Sorted_uint32 : FuncId := 227
abbrev f_maps_Keys_map : FuncId := 228
abbrev f_word_Reader_spoil : FuncId := 230
abbrev f_walk_All : FuncId := 231
abbrev f_walk_Blocks_1 : FuncId := 232
abbrev f_slices_Sort_uint32 : FuncId := 233
abbrev f_pool_Pool_Has : FuncId := 234
abbrev f_pool_Pool_Mark : FuncId := 235
abbrev f_slices_IndexFunc_api_Pair : FuncId := 236
abbrev f_bulk_rows : FuncId := 237
abbrev f_cache_Cache_there : FuncId := 242
abbrev f_chain_Chain_Cut : FuncId := 243
abbrev f_cache_Cache_room : FuncId := 244
abbrev f_cache_Cache_put : FuncId := 245
abbrev f_cache_Cache_pinned : FuncId := 246
abbrev f_chain_Chain_Front : FuncId := 247
abbrev f_word_Reader_Zeros : FuncId := 248
abbrev f_code_readOuter : FuncId := 249
abbrev f_code_readInner : FuncId := 250
abbrev f_slices_overlaps_api_Pair : FuncId := 251
abbrev f_slices_rotateRight_api_Pair : FuncId := 252
abbrev f_bits_Row_there : FuncId := 253
abbrev f_bits_Row_Has : FuncId := 254
abbrev f_node_Right : FuncId := 255
abbrev f_lex_All : FuncId := 256
abbrev f_code_writeOuter : FuncId := 257
abbrev f_code_writeInner : FuncId := 258
abbrev f_pool_Pool_Grab : FuncId := 259
abbrev f_cache_Cache_Write : FuncId := 260
abbrev f_cache_Cache_Fresh : FuncId := 261
abbrev f_shelf_Shelf_Save : FuncId := 263
abbrev f_slices_Collect_uint32 : FuncId := 268
abbrev f_maps_Keys_map_1 : FuncId := 269
abbrev f_walk_walker_visit : FuncId := 271
abbrev f_slices_pdqsortOrdered_uint32 : FuncId := 272
abbrev f_bits_Len : FuncId := 273
abbrev f_chain_Chain_there : FuncId := 274
abbrev f_chain_Chain_out : FuncId := 275
abbrev f_chain_Chain_Last : FuncId := 276
abbrev f_cache_Cache_leave : FuncId := 277
abbrev f_chain_Chain_put : FuncId := 278
abbrev f_chain_Chain_root : FuncId := 279
abbrev f_slices_ContainsFunc_byte : FuncId := 280
abbrev f_word_Reader_Zeros_1 : FuncId := 281
abbrev f_code_readPair : FuncId := 282
abbrev f_word_Reader_Text : FuncId := 283
abbrev f_node_outer : FuncId := 285
abbrev f_node_inner : FuncId := 286
abbrev f_code_front : FuncId := 287
abbrev f_code_pair : FuncId := 288
abbrev f_code_num : FuncId := 289
abbrev f_code_text : FuncId := 290
abbrev f_bits_Row_Free : FuncId := 291
abbrev f_slices_AppendSeq_uint32 : FuncId := 298
abbrev f_node_Clone : FuncId := 299
abbrev f_slices_insertionSortOrdered_uint32 : FuncId := 300
abbrev f_slices_heapSortOrdered_uint32 : FuncId := 301
abbrev f_slices_breakPatternsOrdered_uint32 : FuncId := 302
abbrev f_slices_choosePivotOrdered_uint32 : FuncId := 303
abbrev f_slices_reverseRangeOrdered_uint32 : FuncId := 304
abbrev f_slices_partialInsertionSortOrdered_uint32 : FuncId := 305
abbrev f_cmp_Less_uint32 : FuncId := 306
abbrev f_slices_partitionEqualOrdered_uint32 : FuncId := 307
abbrev f_slices_partitionOrdered_uint32 : FuncId := 308
abbrev f_bits_Len64 : FuncId := 310
abbrev f_chain_Chain_Len : FuncId := 311
abbrev f_slices_IndexFunc_byte : FuncId := 312
abbrev f_word_Reader_Text_1 : FuncId := 313
abbrev f_node_outer_1 : FuncId := 315
abbrev f_lex_In : FuncId := 316
abbrev f_bits_told : FuncId := 323
abbrev f_bits_Row_seek : FuncId := 324
abbrev f_slices_Clone_uint32 : FuncId := 327
abbrev f_slices_Clone_string : FuncId := 328
abbrev f_cmp_isNaN_uint32 : FuncId := 338
abbrev f_bits_TrailingZeros64 : FuncId := 341
abbrev t_tuple_2e38e7 : TypeId := 0
abbrev t_int : TypeId := 3
abbrev t_bool : TypeId := 4
abbrev t_uint8 : TypeId := 5
abbrev t_string : TypeId := 9
abbrev t_any : TypeId := 20
abbrev t_P_cursor_Cursor : TypeId := 22
abbrev t_P_kv_Store : TypeId := 23
abbrev t_S_api_Pair : TypeId := 24
abbrev t_cursor_Cursor : TypeId := 26
abbrev t_api_Pair : TypeId := 29
abbrev t_api_Errno : TypeId := 30
abbrev t_api_Config : TypeId := 41
abbrev t_S_uint8 : TypeId := 42
abbrev t_S_api_Msg : TypeId := 52
abbrev t_P_mount_Mount : TypeId := 58
abbrev t_uint64 : TypeId := 59
abbrev t_api_Stats : TypeId := 61
abbrev t_kv_Store : TypeId := 63
abbrev t_func_8e0de9 : TypeId := 73
abbrev t_api_Op : TypeId := 78
abbrev t_sluicegateref27_Answer : TypeId := 80
abbrev t_P_dev_Device : TypeId := 86
abbrev t_api_Msg : TypeId := 91
abbrev t_S_S_api_Pair : TypeId := 107
abbrev t_P_shelf_Shelf : TypeId := 112
abbrev t_P_tree_Tree : TypeId := 113
abbrev t_uint32 : TypeId := 116
abbrev t_api_Span : TypeId := 119
abbrev t_head_Head : TypeId := 136
abbrev t_mount_Mount : TypeId := 139
abbrev t_dev_Device : TypeId := 143
abbrev t_uint : TypeId := 153
abbrev t_tuple_8f2d31 : TypeId := 154
abbrev t_P_strings_Builder : TypeId := 156
abbrev t_strings_Builder : TypeId := 158
abbrev t_error : TypeId := 161
abbrev t_tuple_8a788c : TypeId := 162
abbrev t_func_fe1f55 : TypeId := 164
abbrev t_scan_scanner : TypeId := 171
abbrev t_tree_Tree : TypeId := 176
abbrev t_P_int : TypeId := 190
abbrev t_A9_P_int : TypeId := 191
abbrev t_P_cache_Cache : TypeId := 197
abbrev t_P_pool_Pool : TypeId := 198
abbrev t_shelf_Shelf : TypeId := 200
abbrev t_tuple_d245bb : TypeId := 209
abbrev t_tuple_bf5532 : TypeId := 211
abbrev t_P_uint8 : TypeId := 213
abbrev t_S_bulk_spot : TypeId := 215
abbrev t_bulk_spot : TypeId := 220
abbrev t_S_uint32 : TypeId := 227
abbrev t_S_string : TypeId := 228
abbrev t_api_Node : TypeId := 230
abbrev t_cache_frame : TypeId := 255
abbrev t_S_cache_frame : TypeId := 256
abbrev t_M_uint32_int : TypeId := 257
abbrev t_S_int : TypeId := 258
abbrev t_P_chain_Chain : TypeId := 259
abbrev t_cache_Cache : TypeId := 261
abbrev t_P_word_Reader : TypeId := 264
abbrev t_unsafe_Pointer : TypeId := 272
abbrev t_P_bits_Row : TypeId := 290
abbrev t_pool_Pool : TypeId := 292
abbrev t_word_Reader : TypeId := 321
abbrev t_func_ca11b6 : TypeId := 324
abbrev t_S_uint64 : TypeId := 332
abbrev t_bits_Row : TypeId := 334
abbrev t_S_chain_link : TypeId := 343
abbrev t_chain_Chain : TypeId := 345
abbrev t_chain_link : TypeId := 347
abbrev t_M_uint32_bool : TypeId := 359
abbrev t_walk_walker : TypeId := 361
abbrev t_A64_uint8 : TypeId := 430
def bt_cursor_Cursor : Option BInfo := some ⟨#[(.pointer none), (.string ⟨#[]⟩), (.string ⟨#[]⟩), (.string ⟨#[]⟩), (.int .i64 0), (.int .i64 0), (.slice none 0 0)], [(0, 1), (1, 1), (2, 1), (3, 1), (4, 1), (5, 1), (6, 1)]⟩
def bt_api_Pair : Option BInfo := some ⟨#[(.string ⟨#[]⟩), (.string ⟨#[]⟩)], [(0, 1), (1, 1)]⟩
def bt_api_Config : Option BInfo := some ⟨#[(.int .i64 0), (.int .i64 0), (.int .i64 0), (.int .i64 0), (.int .i64 0), (.int .i64 0), (.int .i64 0), (.int .i64 0)], [(0, 1), (1, 1), (2, 1), (3, 1), (4, 1), (5, 1), (6, 1), (7, 1)]⟩
def bt_api_Stats : Option BInfo := some ⟨#[(.int .u64 0), (.int .u64 0)], [(0, 1), (1, 1)]⟩
def bt_kv_Store : Option BInfo := some ⟨#[(.int .i64 0), (.int .i64 0), (.int .i64 0), (.int .i64 0), (.int .i64 0), (.int .i64 0), (.int .i64 0), (.int .i64 0), (.pointer none), (.bool false), (.int .u64 0), (.int .u64 0), (.int .u64 0), (.int .u64 0)], [(0, 8), (8, 1), (9, 1), (10, 2), (12, 2)]⟩
def bt_api_Op : Option BInfo := some ⟨#[(.int .i64 0), (.string ⟨#[]⟩), (.string ⟨#[]⟩), (.int .i64 0)], [(0, 1), (1, 1), (2, 1), (3, 1)]⟩
def bt_sluicegateref27_Answer : Option BInfo := some ⟨#[(.int .i64 0), (.string ⟨#[]⟩), (.slice none 0 0)], [(0, 1), (1, 1), (2, 1)]⟩
def bt_api_Msg : Option BInfo := some ⟨#[(.string ⟨#[]⟩), (.bool false), (.string ⟨#[]⟩)], [(0, 1), (1, 1), (2, 1)]⟩
def bt_api_Span : Option BInfo := some ⟨#[(.string ⟨#[]⟩), (.string ⟨#[]⟩), (.bool false)], [(0, 1), (1, 1), (2, 1)]⟩
def bt_head_Head : Option BInfo := some ⟨#[(.int .i64 0), (.int .i64 0), (.int .i64 0), (.int .i64 0), (.int .i64 0), (.int .i64 0), (.int .i64 0), (.int .i64 0), (.int .u32 0), (.int .i64 0)], [(0, 8), (8, 1), (9, 1)]⟩
def bt_mount_Mount : Option BInfo := some ⟨#[(.pointer none), (.pointer none)], [(0, 1), (1, 1)]⟩
def bt_dev_Device : Option BInfo := some ⟨#[(.int .i64 0), (.slice none 0 0), (.int .u64 0), (.int .u64 0)], [(0, 1), (1, 1), (2, 2)]⟩
def bt_scan_scanner : Option BInfo := some ⟨#[(.pointer none), (.int .i64 0), (.slice none 0 0)], [(0, 1), (1, 1), (2, 1)]⟩
def bt_tree_Tree : Option BInfo := some ⟨#[(.pointer none), (.int .u32 0), (.int .i64 0), (.int .i64 0), (.int .i64 0), (.int .i64 0)], [(0, 1), (1, 1), (2, 1), (3, 3)]⟩
def bt_A9_P_int : Option BInfo := some ⟨#[(.pointer none), (.pointer none), (.pointer none), (.pointer none), (.pointer none), (.pointer none), (.pointer none), (.pointer none), (.pointer none)], [(0, 1), (1, 1), (2, 1), (3, 1), (4, 1), (5, 1), (6, 1), (7, 1), (8, 1)]⟩
def bt_shelf_Shelf : Option BInfo := some ⟨#[(.int .i64 0), (.int .i64 0), (.int .i64 0), (.int .i64 0), (.int .i64 0), (.int .i64 0), (.int .i64 0), (.int .i64 0), (.pointer none), (.pointer none), (.pointer none), (.int .u32 0)], [(0, 8), (8, 1), (9, 1), (10, 1), (11, 1)]⟩
def bt_api_Node : Option BInfo := some ⟨#[(.int .i64 0), (.slice none 0 0), (.slice none 0 0), (.slice none 0 0), (.slice none 0 0)], [(0, 1), (1, 1), (2, 1), (3, 1), (4, 1)]⟩
def bt_cache_frame : Option BInfo := some ⟨#[(.int .u32 0), (.slice none 0 0), (.bool false), (.int .i64 0)], [(0, 1), (1, 1), (2, 1), (3, 1)]⟩
def bt_cache_Cache : Option BInfo := some ⟨#[(.pointer none), (.slice none 0 0), (.map none), (.slice none 0 0), (.pointer none)], [(0, 1), (1, 1), (2, 1), (3, 1), (4, 1)]⟩
def bt_pool_Pool : Option BInfo := some ⟨#[(.pointer none)], [(0, 1)]⟩
def bt_word_Reader : Option BInfo := some ⟨#[(.slice none 0 0), (.int .i64 0)], [(0, 1), (1, 1)]⟩
def bt_bits_Row : Option BInfo := some ⟨#[(.int .i64 0), (.int .i64 0), (.slice none 0 0)], [(0, 1), (1, 1), (2, 1)]⟩
def bt_chain_Chain : Option BInfo := some ⟨#[(.slice none 0 0), (.int .i64 0)], [(0, 1), (1, 1)]⟩
def bt_chain_link : Option BInfo := some ⟨#[(.int .i64 0), (.int .i64 0), (.bool false)], [(0, 1), (1, 1), (2, 1)]⟩
def bt_walk_walker : Option BInfo := some ⟨#[(.pointer none), (.map none), .nilFunc, (.bool false)], [(0, 1), (1, 1), (2, 1), (3, 1)]⟩
def st_S_api_Pair : Option (Array Value × Nat × TypeId) := some (#[(.string ⟨#[]⟩), (.string ⟨#[]⟩)], 2, t_api_Pair)
def st_S_uint8 : Option (Array Value × Nat × TypeId) := some (#[(.int .u8 0)], 1, t_uint8)
def st_S_api_Msg : Option (Array Value × Nat × TypeId) := some (#[(.string ⟨#[]⟩), (.bool false), (.string ⟨#[]⟩)], 3, t_api_Msg)
def st_S_api_Op : Option (Array Value × Nat × TypeId) := some (#[(.int .i64 0), (.string ⟨#[]⟩), (.string ⟨#[]⟩), (.int .i64 0)], 4, t_api_Op)
def st_S_P_kv_Store : Option (Array Value × Nat × TypeId) := some (#[(.pointer none)], 1, t_P_kv_Store)
def st_S_S_api_Pair : Option (Array Value × Nat × TypeId) := some (#[(.slice none 0 0)], 1, t_S_api_Pair)
def st_S_uint32 : Option (Array Value × Nat × TypeId) := some (#[(.int .u32 0)], 1, t_uint32)
def st_S_string : Option (Array Value × Nat × TypeId) := some (#[(.string ⟨#[]⟩)], 1, t_string)
def st_S_S_uint8 : Option (Array Value × Nat × TypeId) := some (#[(.slice none 0 0)], 1, t_S_uint8)
def st_S_int : Option (Array Value × Nat × TypeId) := some (#[(.int .i64 0)], 1, t_int)
def zt_S_api_Pair : Option Value := some (.slice none 0 0)
def zt_api_Pair : Option Value := some (.agg #[(.string ⟨#[]⟩), (.string ⟨#[]⟩)])
def zt_api_Config : Option Value := some (.agg #[(.int .i64 0), (.int .i64 0), (.int .i64 0), (.int .i64 0), (.int .i64 0), (.int .i64 0), (.int .i64 0), (.int .i64 0)])
def zt_S_uint8 : Option Value := some (.slice none 0 0)
def zt_api_Stats : Option Value := some (.agg #[(.int .u64 0), (.int .u64 0)])
def zt_sluicegateref27_Answer : Option Value := some (.agg #[(.int .i64 0), (.string ⟨#[]⟩), (.slice none 0 0)])
def zt_api_Msg : Option Value := some (.agg #[(.string ⟨#[]⟩), (.bool false), (.string ⟨#[]⟩)])
def zt_api_Span : Option Value := some (.agg #[(.string ⟨#[]⟩), (.string ⟨#[]⟩), (.bool false)])
def zt_head_Head : Option Value := some (.agg #[(.int .i64 0), (.int .i64 0), (.int .i64 0), (.int .i64 0), (.int .i64 0), (.int .i64 0), (.int .i64 0), (.int .i64 0), (.int .u32 0), (.int .i64 0)])
def zt_A9_P_int : Option Value := some (.agg #[(.pointer none), (.pointer none), (.pointer none), (.pointer none), (.pointer none), (.pointer none), (.pointer none), (.pointer none), (.pointer none)])
def zt_S_uint32 : Option Value := some (.slice none 0 0)
def zt_api_Node : Option Value := some (.agg #[(.int .i64 0), (.slice none 0 0), (.slice none 0 0), (.slice none 0 0), (.slice none 0 0)])
def zt_chain_link : Option Value := some (.agg #[(.int .i64 0), (.int .i64 0), (.bool false)])
end Go.Sg
namespace Go.Sg
open Go Vc Go.Proofs
abbrev Kt := Value → Heap → Prop
abbrev Nt := List Value → Heap → Prop
noncomputable abbrev Pg : Program := Tryz.prog
theorem mixed : Pg.follows .mixedOrders = true := by kernel_rfl
theorem cv {f : FuncId} {fn : Func} {args : List Value} {h : Heap} {K : Value → Heap → Prop} {A : Prop} (hf : Pg.funcs[f]? = some fn) (e : body Pg fn args h K = A) (hh : A) : CaP Pg true f args.toArray h K := calls_of_vc mixed hf (by rw [List.toList_toArray, e]; exact hh)
def Ca (f : FuncId) (args : Array Value) (h : Heap) (K : Value → Heap → Prop) : Prop := CaP Pg true f args h K
def Cx (f : FuncId) (args : Array Value) (h : Heap) (K : Value → Heap → Prop) : Prop := CaP Pg false f args h K
def EqP (op : BinOp) (t : TypeId) (xo yo : Operand) (x y : Value) (h : Heap) (K : Value → Heap → Prop) : Prop := VH Pg (do eqGuard op t xo yo x y; binOp op t x y) h K
end Go.Sg
