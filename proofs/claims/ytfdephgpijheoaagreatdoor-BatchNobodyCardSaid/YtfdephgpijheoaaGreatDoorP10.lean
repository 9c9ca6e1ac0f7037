/-
  Part 10 of a proof: own texts, merged by program.
-/
import Derived.Test.YtfdephgpijheoaaGreatDoorP09
set_option linter.unusedVariables false
set_option linter.unusedSimpArgs false
namespace Go.Sg
open Go Vc
theorem sub_len {α : Type} [DecidableEq α] : ∀ (l m : List α), l.Nodup → (∀ x ∈ l, x ∈ m) → l.length ≤ m.length
  | [], m, _, _ => by simp
  | a :: l, m, hn, hs => by
    rw [List.nodup_cons] at hn
    have ha := hs a (by simp)
    have := sub_len l (m.erase a) hn.2 (fun x hx => (List.mem_erase_of_ne (fun e => hn.1 (by rw [← e]; exact hx))).2 (hs x (by simp [hx])))
    rw [List.length_erase_of_mem ha] at this
    have : 0 < m.length := List.length_pos_of_mem ha
    simp only [List.length_cons]; omega
theorem snoc_or {α : Type} (l : List α) : l = [] ∨ ∃ p a, l = p ++ [a] := by
  cases h : l.reverse with
  | nil => left; simpa using h
  | cons a r => right; refine ⟨r.reverse, a, ?_⟩; have := congrArg List.reverse h; simpa using this
section
variable {lab lab' : Nat → Nat} {h h' : Heap} {s : CSt} {nf n i f c dp : Nat} {D D' : List (List UInt8)} {rd wr rd' wr' : BitVec 64} {E : Nat → Option Ent} {K : Kt}
def frl (lab : Nat → Nat) (h : Heap) : Nat → Nat := fun b => if b < h.size then lab b else 0
theorem frl_lat (lab : Nat → Nat) (h : Heap) : Lat lab (frl lab h) h := fun b hb => if_pos hb
theorem frl_new {lab : Nat → Nat} {h : Heap} {b : Nat} (hb : h.size ≤ b) : frl lab h b = 0 := if_neg (by omega)
theorem vw_in {e : Ent} (h : E i = some e) : vw E D i = e.bytes := by unfold vw; rw [h]
theorem vw_out {b : List UInt8} (h : E i = none) (hb : D[i]? = some b) : vw E D i = b := by unfold vw; rw [h]; simp [List.getD_eq_getElem?_getD, hb]
theorem pn_in {e : Ent} (h : E i = some e) : pn E i = e.pins := by unfold pn; rw [h]
theorem pn_out (h : E i = none) : pn E i = 0 := by unfold pn; rw [h]
theorem c_cache_room (k : Cok lab h s nf n D rd wr) (v : Inv lab h s nf n D E []) (hp : ∃ Ps : List Nat, Ps.length < nf ∧ ∀ j, 0 < pn E j → j ∈ Ps)
    (r : ∀ lab' s' f h' D' wr' E', Lat lab lab' h → s'.c = s.c → s'.dp = s.dp → Cok lab' h' s' nf n D' rd wr' → Inv lab' h' s' nf n D' E' [f] → D'.length = D.length → (∀ j, E j = none → E' j = none) →
      (∀ j, j < D.length → vw E' D' j = vw E D j) → (∀ j, pn E' j = pn E j) → (wr' = wr ∨ wr' = wr + 1) → Ex (Lb lab 1 8) h h' → K (.tuple #[nint f, .bool true]) h') : Ca f_cache_Cache_room #[ptr s.c 0] h K := by
  have hln := v.ln
  have hf64 := k.f64
  simp only [List.length_nil, Nat.add_zero] at hln
  refine m_cache_Cache_room_ok (fl (by rw [k.blk.get]; rfl) ?_)
  have sl : Sl No h s.ve (s.em.map fun f : Nat => (f : Int)) := k.em.sl fun _ _ h => h
  refine sl.len ?_
  rw [List.length_map, BiP_eql]
  refine cdp (fun h0 => ?_) (fun h0 => ?_)
  · have hem : s.em = [] := List.eq_nil_of_length_eq_zero (by omega)
    refine fl (by rw [k.blk.get]; rfl) ?_
    refine c_chain_Last k.row (fun hR => ?_) (fun P f hR => ?_)
    · exfalso
      obtain ⟨Ps, hP1, hP2⟩ := hp
      have hkn := k.mp.nodup
      have := sub_len (s.m.map Prod.fst) Ps hkn fun j hj => by
        obtain ⟨p, hpm, rfl⟩ := List.mem_map.1 hj
        have hl := mem_lookup hkn (show (p.1, p.2) ∈ s.m from hpm)
        obtain ⟨fr, e, q1, q2, q3⟩ := v.fm _ _ hl
        refine hP2 _ ?_
        rw [pn_in q2]
        refine Nat.pos_of_ne_zero fun hz => ?_
        have := (v.rw p.2).2 ⟨p.1, e, hl, q2, hz⟩
        rw [hR] at this; cases this
      rw [List.length_map] at this
      rw [hem] at hln; simp at hln; omega
    · have hfR : f ∈ s.R := by rw [hR]; simp
      obtain ⟨i, e, a1, a2, a3⟩ := (v.rw f).1 hfR
      obtain ⟨fr, e', q1, q2, q3, q4, q5, q6, q7, q8⟩ := v.fm i f a1
      rw [a2] at q2; cases q2
      have hfl : f < nf := by have := (List.getElem?_eq_some_iff.1 q1).1; rw [k.fl] at this; exact this
      have hb2 := k.dev.b2
      rw [ex20, ex21, UnP_not]
      show CdP (.bool false) _ _
      rw [CdP_false]
      refine fl (by rw [k.blk.get]; rfl) (ix_own hfl ?_)
      refine c_cache_back k (bs := e.bytes) q1 (fun _ => ⟨by rw [q3]; exact q8, q6, q7⟩) fun h1 D1 wr1 k1 hD1 hw1 e1 => ?_
      have hD1l : D1.length = D.length := by rw [hD1]; split <;> simp
      have hD1o : ∀ j, j ≠ i → D1[j]? = D[j]? := fun j hj => by
        rw [hD1]; split
        · rw [List.getElem?_set_ne (by rw [q3]; exact Ne.symm hj)]
        · rfl
      have hD1i : D1[i]? = some e.bytes := by
        rw [hD1]
        cases hdr : fr.dirty with
        | true => rw [if_pos rfl, q3, List.getElem?_set_self q8]
        | false => rw [if_neg (by simp)]; exact v.cl i e a2 (by rw [← q4]; exact hdr)
      have hkn := k.mp.nodup
      have v1 := v.ex e1 (by decide) (Lat.refl lab h)
      refine c_cache_leave (s := { s with L := s.L.set f fr.clean }) (fr := fr.clean) k1 (by show s.em.length ≤ 63; omega) (by show (s.L.set f fr.clean)[f]? = _; rw [List.getElem?_set_self (by rw [k.fl]; exact hfl)]) (by show fr.block < _; rw [q3]; omega) fun lab2 v2 h2 a2' k2 e2 => ?_
      refine em_pop (s := { s with m := mdel s.m fr.clean.block, R := s.R.erase f, L := (s.L.set f fr.clean).set f Fr.nil, ve := v2, em := s.em ++ [f] }) (f := f) (em := []) k2 (by show (s.em ++ [f]).length ≤ 64; rw [hem]; simp) (by show s.em ++ [f] = [] ++ [f]; rw [hem]) fun v3 h3 k3 e3 => ?_
      have hlat : Lat lab lab2 h := fun b hb => a2' b (Nat.lt_of_lt_of_le hb e1.le)
      have hfb : fr.clean.block = i := q3
      rw [hfb] at k3
      have hi0 := v1.leave (f := f) (L' := (s.L.set f fr.clean).set f Fr.nil) (ve' := v3) hkn k.row.nd a1 (fun g hg => by rw [List.getElem?_set_ne (Ne.symm hg), List.getElem?_set_ne (Ne.symm hg)]) hD1l hD1o
      have hi1 := (hi0.ex e2 (by decide) a2').ex (lab' := lab2) e3 (by decide) (Lat.refl lab2 h2)
      have hs : ({ s with L := (s.L.set f fr.clean).set f Fr.nil, m := mdel s.m i, R := s.R.erase f, ve := v3, em := [] } : CSt) = { s with L := (s.L.set f fr.clean).set f Fr.nil, m := mdel s.m i, R := s.R.erase f, ve := v3 } := by rw [← hem]
      refine r lab2 { s with L := (s.L.set f fr.clean).set f Fr.nil, m := mdel s.m i, R := s.R.erase f, ve := v3, em := [] } f h3 D1 wr1 (upd E i none) hlat rfl rfl k3 (by rw [hs]; exact hi1) hD1l (fun j hj => ?_) (fun j hj => ?_) (fun j => ?_) ?_ ?_
      · by_cases hji : j = i
        · subst hji; exact upd_same
        · rw [upd_ne hji]; exact hj
      · by_cases hji : j = i
        · subst hji; rw [vw_out upd_same hD1i, vw_in a2]
        · unfold vw; rw [upd_ne hji]
          cases E j with
          | some _ => rfl
          | none => simp only [List.getD_eq_getElem?_getD, hD1o j hji]
      · by_cases hji : j = i
        · subst hji; rw [pn_out upd_same, pn_in a2, a3]
        · unfold pn; rw [upd_ne hji]
      · rw [hw1]; split
        · exact .inr rfl
        · exact .inl rfl
      · exact hlat.ex (Lb.wide e1 (by decide) (by decide) |>.trans e2) (Lb.wide e3 (by decide) (by decide))
  · rcases snoc_or s.em with hem | ⟨em, f, hem⟩
    · rw [hem] at h0; simp at h0
    refine em_pop (f := f) (em := em) k (by omega) hem fun v1 h1 k1 e1 => ?_
    have v1' := v.ex e1 (by decide) (Lat.refl lab h)
    refine r lab { s with ve := v1, em := em } f h1 D wr E (Lat.refl _ _) rfl rfl k1 ?_ rfl (fun _ h => h) (fun _ _ => rfl) (fun _ => rfl) (.inl rfl) (Lb.wide e1 (by decide) (by decide))
    obtain ⟨p1, p2, p3, p4, p5, p6, p7⟩ := v1'
    refine ⟨p1, p2, ?_, ?_, ?_, p6, p7⟩
    · rw [hem, List.append_nil, ← List.append_assoc] at p3; exact p3
    · rw [hem, List.append_nil, ← List.append_assoc] at p4; exact p4
    · rw [hem, List.length_append] at p5; exact p5
structure CaS (lab : Nat → Nat) (h : Heap) (c dp nf n : Nat) (D : List (List UInt8)) (V : Nat → List UInt8) (P : Nat → Nat) (rd wr : BitVec 64) : Prop where
  out : ∃ s E, s.c = c ∧ s.dp = dp ∧ Cok lab h s nf n D rd wr ∧ Inv lab h s nf n D E [] ∧ (∀ i, i < D.length → V i = vw E D i) ∧ (∀ i, P i = pn E i) ∧ E 0 = none
variable {V : Nat → List UInt8} {P : Nat → Nat}
theorem c_cache_Pin (k : CaS lab h c dp nf n D V P rd wr) (h0 : 0 < i) (hi : i < D.length) (hp : ∃ Ps : List Nat, Ps.length < nf ∧ ∀ j, 0 < P j → j ∈ Ps) (hpi : P i < 1000)
    (r : ∀ lab' h' D' rd' wr', Lat lab lab' h → D'.length = D.length → CaS lab' h' c dp nf n D' V (upd P i (P i + 1)) rd' wr' → (rd' = rd ∨ rd' = rd + 1) → (wr' = wr ∨ wr' = wr + 1) → Ex (Lb lab 1 8) h h' → K (int 0) h') :
    Ca f_cache_Cache_Pin #[ptr c 0, .int .u32 i] h K := by
  obtain ⟨s, E, rfl, rfl, k, v, hV, hP, hz⟩ := k.out
  have hb2 := k.dev.b2
  refine m_cache_Cache_Pin_ok (c_cache_there k hi ?_)
  rw [BiP_neq]
  refine cdp (fun h => absurd rfl h) fun _ => ?_
  refine fl (by rw [k.blk.get]; rfl) (c_look k true ?_)
  rw [if_pos rfl, ex20, ex21]
  cases hm : s.m.lookup i with
  | some f =>
    obtain ⟨fr, e, q1, q2, q3, q4, q5, q6, q7, q8⟩ := v.fm i f hm
    have hfl : f < nf := by have := (List.getElem?_eq_some_iff.1 q1).1; rw [k.fl] at this; exact this
    have hpe : P i = e.pins := by rw [hP, pn_in q2]
    show CdP (.bool true) _ _
    rw [CdP_true]
    show Fl 1 _ _ _
    refine fl (by rw [k.blk.get]; rfl) ?_
    refine (k.fr.rd k.fl.symm (Nat.le_refl _)).ef (f := 3) (w := int fr.pins) (i := (f : Int)) (x := fr) (by omega) (by rw [Int.toNat_natCast]; exact q1) rfl ?_
    refine add64 (by omega) ?_
    have e1' : (fr.pins : Int) + 1 = ((e.pins + 1 : Nat) : Int) := by omega
    rw [e1']
    refine own_setf (f := 3) (a := fr) (a' := ({ fr with pins := e.pins + 1 } : Fr)) rfl k.fr k.fl.symm q1 (by decide) rfl rfl fun h1 o1 e1 => ?_
    have e1' : Ex (Lb lab 2 2) h h1 := one_lb e1 ⟨by rw [k.l2]; decide, by rw [k.l2]; decide⟩
    have k1 := k.set_fr o1 (by rw [List.length_set]; exact k.fl) e1'
    refine fl (by rw [k1.blk.get]; rfl) ?_
    refine c_chain_Cut k1.row hfl fun h2 _ c2 e2 => ?_
    have e2' : Ex (Lb lab 4 5) h1 h2 := two_lb e2 ⟨by rw [k1.l4]; decide, by rw [k1.l4]; decide⟩ ⟨by rw [k1.l5]; decide, by rw [k1.l5]; decide⟩
    have k2 := k1.set_row c2 e2'
    have e12 : Ex (Lb lab 1 8) h h2 := (Lb.wide e1' (by decide) (by decide)).trans (Lb.wide e2' (by decide) (by decide))
    have v2 := (v.ex e12 (by decide) (Lat.refl lab h)).turn (fr' := { fr with pins := e.pins + 1 }) (e' := { e with pins := e.pins + 1 }) (D' := D) (R' := s.R.erase f) hm k.fl q3 q4 rfl (q6.lat e12 (by decide) (Lat.refl lab h)) q7 rfl (fun _ _ => rfl) (v.cl i e q2) (fun g => by
      rw [k.row.nd.mem_erase_iff]; simp)
    refine r lab h2 D rd wr (Lat.refl _ _) rfl ⟨{ s with L := s.L.set f { fr with pins := e.pins + 1 }, R := s.R.erase f }, _, rfl, rfl, k2, v2, fun j hj => ?_, fun j => ?_, (upd_ne (by omega)).trans hz⟩ (.inl rfl) (.inl rfl) e12
    · rw [hV j hj]
      by_cases hji : j = i
      · subst hji; rw [vw_in q2, vw_in upd_same]
      · unfold vw; rw [upd_ne hji]
    · by_cases hji : j = i
      · subst hji; rw [upd_same, pn_in upd_same, hpe]
      · rw [upd_ne hji, hP]; unfold pn; rw [upd_ne hji]
  | none =>
    have hE : E i = none := (v.pm i).2 hm
    show CdP (.bool false) _ _
    rw [CdP_false]
    refine c_cache_room k v (by obtain ⟨Ps, h1, h2⟩ := hp; exact ⟨Ps, h1, fun j hj => h2 j (by rw [hP]; exact hj)⟩) fun lab1 s1 f h1 D1 wr1 E1 a1 hc1 hd1 k1 v1 hl1 hn1 hv1 hp1 hw1 e1 => ?_
    have hE1 := hn1 i hE
    rw [ex20, ex21, UnP_not]
    show CdP (.bool false) _ _
    rw [CdP_false, ← hc1]
    refine fl (by rw [k1.blk.get]; rfl) ?_
    have hi1 : i < D1.length := by rw [hl1]; exact hi
    have hDi : D1[i]? = some D1[i] := List.getElem?_eq_getElem hi1
    have k1 := k1.lat (frl_lat lab1 h1)
    have v1 := v1.ex (Ex.refl (Lb lab1 1 8) h1) (by decide) (frl_lat lab1 h1)
    have hle1 := e1.le
    have a12 : Lat lab (frl lab1 h1) h := a1.trans (frl_lat lab1 h1) e1.le
    refine c_dev_Read k1.dev hDi fun x h2 o2 d2 e2 => ?_
    have e2' : Ex (Lb (frl lab1 h1) 6 7) h1 h2 := one_lb e2 ⟨by rw [k1.l6]; decide, by rw [k1.l6]; decide⟩
    have k2 := k1.set_dev d2 e2'
    have v2 := v1.ex e2' (by decide) (Lat.refl _ h1)
    have sx : Sl (Use (frl lab1 h1)) h2 x D1[i] := o2.sl fun b hb hu => hu (frl_new hb)
    rw [ex20, ex21, BiP_neq]
    refine cdp (fun h => absurd rfl h) fun _ => ?_
    have hx1 : x.oneCell' = true := by rcases o2.cases' with ⟨rfl, _⟩ | ⟨_, _, rfl, _⟩ <;> rfl
    refine ⟨_, #[.int .u32 i, x, .bool false, int 0], rfl, ?_, ?_⟩
    · rcases o2.cases' with ⟨rfl, _⟩ | ⟨_, _, rfl, _⟩ <;> rfl
    have hflt : f < nf := v2.lt f (by simp)
    have hm1 : s1.m.lookup i = none := (v1.pm i).1 hE1
    refine c_cache_put k2 hflt (fr := ⟨i, x, false, 0, hx1⟩) (fr' := ⟨i, x, false, 1, hx1⟩) rfl rfl (by show i < _; omega) fun h3 k3 e3 => ?_
    have v3 := (v2.ex e3 (by decide) (Lat.refl _ h2)).put (fr' := ⟨i, x, false, 1, hx1⟩) (e' := ⟨D1[i], false, 1⟩) hm1 k2.fl rfl rfl rfl (sx.lat e3 (by decide) (Lat.refl _ h2)) (k1.dev.all _ (List.getElem_mem hi1)) hi1 (fun _ => hDi) Nat.zero_lt_one
    refine r (frl lab1 h1) h3 D1 (rd + 1) wr1 a12 hl1 ⟨{ s1 with L := s1.L.set f ⟨i, x, false, 1, hx1⟩, m := mput s1.m i f, R := s1.R.erase f }, _, hc1, hd1, k3, v3, fun j hj => ?_, fun j => ?_, (upd_ne (by omega)).trans (hn1 0 hz)⟩ (.inr rfl) hw1 (a12.ex e1 ?_)
    · rw [hl1] at hj
      rw [hV j hj, ← hv1 j hj]
      by_cases hji : j = i
      · subst hji; rw [vw_out hE1 hDi, vw_in upd_same]
      · unfold vw; rw [upd_ne hji]
    · by_cases hji : j = i
      · subst hji; rw [upd_same, pn_in upd_same, hP, pn_out hE]
      · rw [upd_ne hji, hP, ← hp1 j]; unfold pn; rw [upd_ne hji]
    · exact (Lb.wide e2' (by decide) (by decide)).trans (Lb.wide e3 (by decide) (by decide))
end
end Go.Sg
namespace Go.Sg
open Go Vc
section
variable {lab lab' : Nat → Nat} {h h' : Heap} {s : CSt} {nf n i f c dp : Nat} {D D' : List (List UInt8)} {rd wr rd' wr' : BitVec 64} {E : Nat → Option Ent} {K : Kt} {V : Nat → List UInt8} {P : Nat → Nat}
theorem fresh_fin {lab1 : Nat → Nat} {s1 : CSt} {D1 : List (List UInt8)} {wr1 : BitVec 64} {h1 h2 : Heap} {x : Value} {E1 : Nat → Option Ent} (k2 : Cok lab1 h2 s1 nf n D1 rd wr1) (hf : f < nf) (hx1 : x.oneCell' = true) (hi : i < 65536)
    (fin : ∀ h3, Cok lab1 h3 { s1 with L := s1.L.set f ⟨i, x, true, 1, hx1⟩, m := mput s1.m i f, R := s1.R.erase f } nf n D1 rd wr1 → Ex (Lb lab1 2 5) h2 h3 → K (int 0) h3) (hs : x.cells = #[x]) :
    BlP bt_cache_frame [(0, .int .u32 (i : Int)), (1, x), (2, .bool true)] fun x37 => Ca f_cache_Cache_put #[ptr s1.c 0, nint f, x37] h2 fun _ h38 => K (int 0) h38 := by
  refine ⟨_, #[.int .u32 i, x, .bool true, int 0], rfl, ?_, ?_⟩
  · simp only [Instr.fill, hs]; rfl
  · exact c_cache_put k2 hf (fr := ⟨i, x, true, 0, hx1⟩) (fr' := ⟨i, x, true, 1, hx1⟩) rfl rfl (by show i < _; omega) fun h3 k3 e3 => fin h3 k3 e3
theorem c_cache_Fresh (k : CaS lab h c dp nf n D V P rd wr) (h0 : 0 < i) (hi : i < D.length) (hp : ∃ Ps : List Nat, Ps.length < nf ∧ ∀ j, 0 < P j → j ∈ Ps) (hpi : P i = 0)
    (r : ∀ lab' h' D' wr', Lat lab lab' h → D'.length = D.length → CaS lab' h' c dp nf n D' (upd V i (List.replicate n 0)) (upd P i 1) rd wr' → (wr' = wr ∨ wr' = wr + 1) → Ex (Lb lab 1 8) h h' → K (int 0) h') :
    Ca f_cache_Cache_Fresh #[ptr c 0, .int .u32 i] h K := by
  obtain ⟨s, E, rfl, rfl, k, v, hV, hP, hz⟩ := k.out
  have hb2 := k.dev.b2
  have hn2 := k.dev.n2
  refine m_cache_Cache_Fresh_ok (c_cache_there k hi ?_)
  rw [BiP_neq]
  refine cdp (fun h => absurd rfl h) fun _ => ?_
  refine fl (by rw [k.blk.get]; rfl) (c_look k true ?_)
  rw [if_pos rfl, ex20, ex21]
  cases hm : s.m.lookup i with
  | some f =>
    obtain ⟨fr, e, q1, q2, q3, q4, q5, q6, q7, q8⟩ := v.fm i f hm
    have hfl : f < nf := by have := (List.getElem?_eq_some_iff.1 q1).1; rw [k.fl] at this; exact this
    have hpe : e.pins = 0 := by rw [← pn_in q2, ← hP]; exact hpi
    show CdP (.bool true) _ _
    rw [CdP_true]
    refine fl (by rw [k.blk.get]; rfl) ?_
    refine (k.fr.rd k.fl.symm (Nat.le_refl _)).ef (f := 3) (w := int fr.pins) (i := (f : Int)) (x := fr) (by omega) (by rw [Int.toNat_natCast]; exact q1) rfl ?_
    rw [BiP_gtr, decide_eq_false (by omega)]
    unfold m_cache_Cache_Fresh_j22
    rw [CdP_false]
    rw [UnP_not]
    show CdP (.bool false) _ _
    rw [CdP_false]
    unfold m_cache_Cache_Fresh_j29
    refine fl (by rw [k.blk.get]; rfl) (c_dev_Bytes k.dev ?_)
    have k1 := k.lat (frl_lat lab h)
    have v1 := v.ex (Ex.refl (Lb lab 1 8) h) (by decide) (frl_lat lab h)
    refine mkn (n0 := h.size) T_byte z_byte (Nat.le_refl _) (by show n * 1 ≤ _; omega) (by decide) fun g h1 hg o1 e1 => ?_
    have k2 := k1.ext e1
    have e1' : Ex (Lb (frl lab h) 1 8) h h1 := e1.toM
    have v2 := v1.ex e1' (by decide) (Lat.refl _ h)
    have sx : Sl (Use (frl lab h)) h1 (.slice (some ⟨g, 0, none⟩) n n) (List.replicate n (0 : UInt8)) := by
      have := o1.sl (U := Use (frl lab h)) (fun hu => hu (frl_new (by omega)))
      rw [List.length_replicate] at this; exact this
    refine fresh_fin (E1 := E) (h1 := h) k2 hfl rfl (by omega) (fun h3 k3 e3 => ?_) rfl
    have hfR : f ∈ s.R := (v.rw f).2 ⟨i, e, hm, q2, hpe⟩
    have v3 := (v2.ex e3 (by decide) (Lat.refl _ h1)).turn (fr' := ⟨i, .slice (some ⟨g, 0, none⟩) n n, true, 1, rfl⟩) (e' := ⟨List.replicate n 0, true, 1⟩) (D' := D) (R' := s.R.erase f) hm k.fl rfl rfl rfl (sx.lat e3 (by decide) (Lat.refl _ h1)) (by simp) rfl (fun _ _ => rfl) (fun h => by cases h) (fun g => by
      rw [k.row.nd.mem_erase_iff]; simp)
    have hms : mput s.m i f = s.m := mput_same k.mp.nodup hm
    rw [hms] at k3
    refine r (frl lab h) h3 D wr (frl_lat lab h) rfl ⟨{ s with L := s.L.set f ⟨i, .slice (some ⟨g, 0, none⟩) n n, true, 1, rfl⟩, R := s.R.erase f }, _, rfl, rfl, k3, v3, fun j hj => ?_, fun j => ?_, (upd_ne (by omega)).trans hz⟩ (.inl rfl) ((frl_lat lab h).ex (Ex.refl _ _) (e1'.trans (Lb.wide e3 (by decide) (by decide))))
    · by_cases hji : j = i
      · subst hji; rw [upd_same, vw_in upd_same]
      · rw [upd_ne hji, hV j hj]; unfold vw; rw [upd_ne hji]
    · by_cases hji : j = i
      · subst hji; rw [upd_same, pn_in upd_same]
      · rw [upd_ne hji, hP]; unfold pn; rw [upd_ne hji]
  | none =>
    have hE : E i = none := (v.pm i).2 hm
    show CdP (.bool false) _ _
    rw [CdP_false]
    unfold m_cache_Cache_Fresh_j22
    rw [CdP_false, UnP_not]
    show CdP (.bool true) _ _
    rw [CdP_true]
    refine c_cache_room k v (by obtain ⟨Ps, h1, h2⟩ := hp; exact ⟨Ps, h1, fun j hj => h2 j (by rw [hP]; exact hj)⟩) fun lab1 s1 f h1 D1 wr1 E1 a1 hc1 hd1 k1 v1 hl1 hn1 hv1 hp1 hw1 e1 => ?_
    have hE1 := hn1 i hE
    have hi1 : i < D1.length := by rw [hl1]; exact hi
    rw [ex20, ex21, UnP_not]
    show CdP (.bool false) _ _
    rw [CdP_false, ← hc1]
    unfold m_cache_Cache_Fresh_j29
    refine fl (by rw [k1.blk.get]; rfl) (c_dev_Bytes k1.dev ?_)
    have k1 := k1.lat (frl_lat lab1 h1)
    have v1 := v1.ex (Ex.refl (Lb lab1 1 8) h1) (by decide) (frl_lat lab1 h1)
    have a12 : Lat lab (frl lab1 h1) h := a1.trans (frl_lat lab1 h1) e1.le
    refine mkn (n0 := h1.size) T_byte z_byte (Nat.le_refl _) (by show n * 1 ≤ _; omega) (by decide) fun g h2 hg o1 e2 => ?_
    have k2 := k1.ext e2
    have e2' : Ex (Lb (frl lab1 h1) 1 8) h1 h2 := e2.toM
    have v2 := v1.ex e2' (by decide) (Lat.refl _ h1)
    have sx : Sl (Use (frl lab1 h1)) h2 (.slice (some ⟨g, 0, none⟩) n n) (List.replicate n (0 : UInt8)) := by
      have := o1.sl (U := Use (frl lab1 h1)) (fun hu => hu (frl_new (by omega)))
      rw [List.length_replicate] at this; exact this
    have hflt : f < nf := v2.lt f (by simp)
    have hm1 : s1.m.lookup i = none := (v1.pm i).1 hE1
    refine fresh_fin (E1 := E) (h1 := h) k2 hflt rfl (by omega) (fun h3 k3 e3 => ?_) rfl
    have v3 := (v2.ex e3 (by decide) (Lat.refl _ h2)).put (fr' := ⟨i, .slice (some ⟨g, 0, none⟩) n n, true, 1, rfl⟩) (e' := ⟨List.replicate n 0, true, 1⟩) hm1 k2.fl rfl rfl rfl (sx.lat e3 (by decide) (Lat.refl _ h2)) (by simp) hi1 (fun h => by cases h) Nat.zero_lt_one
    refine r (frl lab1 h1) h3 D1 wr1 a12 hl1 ⟨{ s1 with L := s1.L.set f ⟨i, .slice (some ⟨g, 0, none⟩) n n, true, 1, rfl⟩, m := mput s1.m i f, R := s1.R.erase f }, _, hc1, hd1, k3, v3, fun j hj => ?_, fun j => ?_, (upd_ne (by omega)).trans (hn1 0 hz)⟩ hw1 (a12.ex e1 ?_)
    · rw [hl1] at hj
      by_cases hji : j = i
      · subst hji; rw [upd_same, vw_in upd_same]
      · rw [upd_ne hji, hV j hj, ← hv1 j hj]; unfold vw; rw [upd_ne hji]
    · by_cases hji : j = i
      · subst hji; rw [upd_same, pn_in upd_same]
      · rw [upd_ne hji, hP, ← hp1 j]; unfold pn; rw [upd_ne hji]
    · exact e2'.trans (Lb.wide e3 (by decide) (by decide))
theorem c_cache_Unpin (k : CaS lab h c dp nf n D V P rd wr) (hpi : 0 < P i) (hpb : P i < 1000)
    (r : ∀ h', CaS lab h' c dp nf n D V (upd P i (P i - 1)) rd wr → Ex (Lb lab 1 8) h h' → K (int 0) h') :
    Ca f_cache_Cache_Unpin #[ptr c 0, .int .u32 i] h K := by
  obtain ⟨s, E, rfl, rfl, k, v, hV, hP, hz⟩ := k.out
  have hi0 : 0 ≠ i := fun e => by subst e; rw [hP, pn_out hz] at hpi; omega
  cases hE : E i with
  | none => rw [hP, pn_out hE] at hpi; omega
  | some e =>
  obtain ⟨f, fr, hm, q1, q3, q4, q5, q6, q7, q8⟩ := v.has hE
  have hfl : f < nf := by have := (List.getElem?_eq_some_iff.1 q1).1; rw [k.fl] at this; exact this
  have hpe : P i = e.pins := by rw [hP, pn_in hE]
  refine m_cache_Cache_Unpin_ok (c_cache_pinned k hm q1 (by omega) ?_)
  rw [ex20, ex21, BiP_neq]
  refine cdp (fun h => absurd rfl h) fun _ => ?_
  refine own_fl (a := fr) (w := int fr.pins) rfl k.fr q1 rfl ?_
  refine sub64 (by omega) ?_
  have e1' : (fr.pins : Int) - 1 = ((e.pins - 1 : Nat) : Int) := by omega
  rw [e1']
  refine own_fs (f := 3) (a := fr) (a' := ({ fr with pins := e.pins - 1 } : Fr)) rfl k.fr q1 (by decide) rfl rfl fun h1 o1 e1 => ?_
  have e1' : Ex (Lb lab 2 2) h h1 := one_lb e1 ⟨by rw [k.l2]; decide, by rw [k.l2]; decide⟩
  have k1 := k.set_fr o1 (by rw [List.length_set]; exact k.fl) e1'
  have q1' : (s.L.set f { fr with pins := e.pins - 1 })[f]? = some { fr with pins := e.pins - 1 } := List.getElem?_set_self (by rw [k.fl]; exact hfl)
  refine own_fl (a := ({ fr with pins := e.pins - 1 } : Fr)) (w := int (e.pins - 1 : Nat)) rfl k1.fr q1' rfl ?_
  have fin : ∀ (h2 : Heap) (R' : List Nat), Cok lab h2 { s with L := s.L.set f { fr with pins := e.pins - 1 }, R := R' } nf n D rd wr → (∀ g, g ∈ R' ↔ (g = f ∧ e.pins - 1 = 0) ∨ (g ≠ f ∧ g ∈ s.R)) → Ex (Lb lab 1 8) h h2 → K (int 0) h2 := by
    intro h2 R' k2 hR e2
    have v2 := (v.ex e2 (by decide) (Lat.refl lab h)).turn (fr' := { fr with pins := e.pins - 1 }) (e' := { e with pins := e.pins - 1 }) (D' := D) (R' := R') hm k.fl q3 q4 rfl (q6.lat e2 (by decide) (Lat.refl lab h)) q7 rfl (fun _ _ => rfl) (v.cl i e hE) hR
    refine r h2 ⟨{ s with L := s.L.set f { fr with pins := e.pins - 1 }, R := R' }, _, rfl, rfl, k2, v2, fun j hj => ?_, fun j => ?_, (upd_ne hi0).trans hz⟩ e2
    · rw [hV j hj]
      by_cases hji : j = i
      · subst hji; rw [vw_in hE, vw_in upd_same]
      · unfold vw; rw [upd_ne hji]
    · by_cases hji : j = i
      · subst hji; rw [upd_same, pn_in upd_same, hpe]
      · rw [upd_ne hji, hP]; unfold pn; rw [upd_ne hji]
  have hfR : f ∉ s.R := fun hR => by
    obtain ⟨j, e', a1, a2, a3⟩ := (v.rw f).1 hR
    have := val_inj v.ndv a1 hm
    subst this
    rw [hE] at a2; cases a2; omega
  rw [BiP_eql]
  unfold m_cache_Cache_Unpin_j29
  refine cdp (fun hz => ?_) (fun hz => ?_)
  · refine ⟨fun b' _ => b' = s.c, ?_⟩
    rw [NilP_ptr, FaP_ptr]
    refine LdX_b k1.blk rfl (fun _ => rfl) ?_
    rw [NilP_ptr, FaP_ptr]
    refine LdX_b k1.blk rfl (fun _ => rfl) ?_
    refine c_look k1 false ⟨fun _ _ _ => rfl, ?_⟩
    rw [if_neg (by decide)]
    have hm' : ({ s with L := s.L.set f { fr with pins := e.pins - 1 } } : CSt).m.lookup i = some f := hm
    rw [hm']
    refine c_chain_Front k1.row hfl fun h2 c2 e2 => ⟨trivial, ?_⟩
    have e2' : Ex (Lb lab 4 5) h1 h2 := two_lb e2 ⟨by rw [k1.l4]; decide, by rw [k1.l4]; decide⟩ ⟨by rw [k1.l5]; decide, by rw [k1.l5]; decide⟩
    have k2 := k1.set_row c2 e2'
    refine fin h2 _ k2 (fun g => ?_) ((Lb.wide e1' (by decide) (by decide)).trans (Lb.wide e2' (by decide) (by decide)))
    rw [List.erase_of_not_mem hfR, List.mem_cons]
    constructor
    · rintro (h | h)
      · exact .inl ⟨h, by omega⟩
      · exact .inr ⟨fun e => hfR (e ▸ h), h⟩
    · rintro (⟨h, _⟩ | ⟨_, h⟩)
      · exact .inl h
      · exact .inr h
  · refine fin h1 s.R k1 (fun g => ?_) (Lb.wide e1' (by decide) (by decide))
    constructor
    · intro h; exact .inr ⟨fun e => hfR (e ▸ h), h⟩
    · rintro (⟨_, h⟩ | ⟨_, h⟩)
      · omega
      · exact h
theorem c_cache_Read (k : CaS lab h c dp nf n D V P rd wr) (hpi : 0 < P i) (r : ∀ x h', Ow h.size t_uint8 h' x (V i) → Ext h h' → K (.tuple #[x, int 0]) h') : Ca f_cache_Cache_Read #[ptr c 0, .int .u32 i] h K := by
  obtain ⟨s, E, rfl, rfl, k, v, hV, hP, hz⟩ := k.out
  cases hE : E i with
  | none => rw [hP, pn_out hE] at hpi; omega
  | some e =>
  obtain ⟨f, fr, hm, q1, q3, q4, q5, q6, q7, q8⟩ := v.has hE
  have hpe : P i = e.pins := by rw [hP, pn_in hE]
  have hn2 := k.dev.n2
  refine m_cache_Cache_Read_ok (c_cache_pinned k hm q1 (by omega) ?_)
  rw [ex20, ex21, BiP_neq]
  refine cdp (fun h => absurd rfl h) fun _ => ?_
  refine own_fl (a := fr) (w := fr.b) rfl k.fr q1 rfl ?_
  rw [hV i q8, vw_in hE] at r
  exact c_Clone_byte q6 (by omega) r
theorem c_cache_Write (k : CaS lab h c dp nf n D V P rd wr) (hpi : 0 < P i) {U : Nat → Prop} {x : Value} {bs : List UInt8} (sx : Sl U h x bs) (hl : bs.length = n)
    (r : ∀ lab' h', Lat lab lab' h → CaS lab' h' c dp nf n D (upd V i bs) P rd wr → Ex (Lb lab 1 8) h h' → K (int 0) h') : Ca f_cache_Cache_Write #[ptr c 0, .int .u32 i, x] h K := by
  obtain ⟨s, E, rfl, rfl, k, v, hV, hP, hz⟩ := k.out
  have hi0 : 0 ≠ i := fun e => by subst e; rw [hP, pn_out hz] at hpi; omega
  cases hE : E i with
  | none => rw [hP, pn_out hE] at hpi; omega
  | some e =>
  obtain ⟨f, fr, hm, q1, q3, q4, q5, q6, q7, q8⟩ := v.has hE
  have hfl : f < nf := by have := (List.getElem?_eq_some_iff.1 q1).1; rw [k.fl] at this; exact this
  have hpe : P i = e.pins := by rw [hP, pn_in hE]
  have hn2 := k.dev.n2
  refine m_cache_Cache_Write_ok (c_cache_pinned k hm q1 (by omega) ?_)
  rw [ex20, ex21, BiP_neq]
  refine cdp (fun h => absurd rfl h) fun _ => ?_
  refine sx.len (fl (by rw [k.blk.get]; rfl) (c_dev_Bytes k.dev ?_))
  rw [BiP_neq]
  refine cdp (fun h => absurd (by omega) h) fun _ => ?_
  have k0 := k.lat (frl_lat lab h)
  have v0 := v.ex (Ex.refl (Lb lab 1 8) h) (by decide) (frl_lat lab h)
  refine c_Clone_byte sx (by omega) fun y h1 o1 e1 => ?_
  have hy1 : y.oneCell' = true := by rcases o1.cases' with ⟨rfl, _⟩ | ⟨_, _, rfl, _⟩ <;> rfl
  have sy : Sl (Use (frl lab h)) h1 y bs := o1.sl fun b hb hu => hu (frl_new hb)
  have k1 := k0.ext e1
  refine own_fs (f := 1) (a := fr) (a' := ({ fr with b := y, one := hy1 } : Fr)) rfl k1.fr q1 (by decide) rfl (by rw [one_eq]; exact hy1) fun h2 o2 e2 => ?_
  have e2' : Ex (Lb (frl lab h) 2 2) h1 h2 := one_lb e2 ⟨by rw [k1.l2]; decide, by rw [k1.l2]; decide⟩
  have k2 := k1.set_fr o2 (by rw [List.length_set]; exact k1.fl) e2'
  have q1' : (s.L.set f { fr with b := y, one := hy1 })[f]? = some { fr with b := y, one := hy1 } := List.getElem?_set_self (by rw [k.fl]; exact hfl)
  refine own_fs (f := 2) (a := ({ fr with b := y, one := hy1 } : Fr)) (a' := ({ fr with b := y, one := hy1, dirty := true } : Fr)) rfl k2.fr q1' (by decide) rfl rfl fun h3 o3 e3 => ?_
  have e3' : Ex (Lb (frl lab h) 2 2) h2 h3 := one_lb e3 ⟨by rw [k1.l2]; decide, by rw [k1.l2]; decide⟩
  have k3 := k2.set_fr o3 (by rw [List.length_set]; exact k2.fl) e3'
  rw [List.set_set] at k3
  have e13 : Ex (Lb (frl lab h) 1 8) h h3 := (Ex.toM e1).trans ((Lb.wide e2' (by decide) (by decide)).trans (Lb.wide e3' (by decide) (by decide)))
  have sy3 : Sl (Use (frl lab h)) h3 y bs := (sy.lat e2' (by decide) (Lat.refl _ h1)).lat e3' (by decide) (Lat.refl _ h2)
  have v3 := (v0.ex e13 (by decide) (Lat.refl _ h)).turn (fr' := { fr with b := y, one := hy1, dirty := true }) (e' := { e with bytes := bs, dirty := true }) (D' := D) (R' := s.R) hm k.fl q3 rfl q5 sy3 hl rfl (fun _ _ => rfl) (fun h => by cases h) (fun g => by
    have hfR : f ∉ s.R := fun hR => by
      obtain ⟨j, e', a1, a2, a3⟩ := (v.rw f).1 hR
      have := val_inj v.ndv a1 hm
      subst this
      rw [hE] at a2; cases a2; omega
    constructor
    · intro h; exact .inr ⟨fun e => hfR (e ▸ h), h⟩
    · rintro (⟨_, h⟩ | ⟨_, h⟩)
      · have h : e.pins = 0 := h
        omega
      · exact h)
  refine r (frl lab h) h3 (frl_lat lab h) ⟨{ s with L := s.L.set f { fr with b := y, one := hy1, dirty := true } }, _, rfl, rfl, k3, v3, fun j hj => ?_, fun j => ?_, (upd_ne (by omega)).trans hz⟩ ((frl_lat lab h).ex (Ex.refl _ _) e13)
  · by_cases hji : j = i
    · subst hji; rw [upd_same, vw_in upd_same]
    · rw [upd_ne hji, hV j hj]; unfold vw; rw [upd_ne hji]
  · by_cases hji : j = i
    · subst hji; rw [pn_in upd_same, hpe]
    · rw [hP]; unfold pn; rw [upd_ne hji]
end
end Go.Sg
namespace Go.Sg
open Go Vc
section
variable {h : Heap} {K : Kt} {nf n dp dg : Nat} {D : List (List UInt8)} {rd wr : BitVec 64}
def dlab (dp dg : Nat) : Nat → Nat := fun b => if b = dp then 6 else if b = dg then 7 else 0
theorem c_cache_New (d : Dv dg dp h n D rd wr) (h1 : 1 ≤ nf) (h64 : nf ≤ 64)
    (r : ∀ lab' c h', Lat (dlab dp dg) lab' h → CaS lab' h' c dp nf n D (fun i => D.getD i []) (fun _ => 0) rd wr → h.size ≤ c → Ex (two dp dg) h h' → K (.tuple #[ptr c 0, int 0]) h') :
    Ca f_cache_New #[ptr dp 0, int nf] h K := by
  have hdl := d.lt
  have hb1 := d.b1
  have hne := d.ne
  refine m_cache_New_ok (c_dev_Blocks d ?_)
  rw [BiP_eql]
  refine cdp (fun h => absurd h (by omega)) fun _ => ?_
  rw [BiP_lss]
  refine cdp (fun h => absurd h (by omega)) fun _ => ?_
  rw [BiP_gtr]
  unfold m_cache_New_j10
  refine cdp (fun h => absurd h (by omega)) fun _ => ?_
  unfold m_cache_New_j11
  refine c_chain_New (by omega) (by omega) fun rg rp h2 hrg hrp c2 e2 => ?_
  rw [ex20, ex21, BiP_neq]
  refine cdp (fun h => absurd rfl h) fun _ => ?_
  have hrl : rp < h2.size ∧ rg < h2.size := by
    obtain ⟨_, _, _, r1, _, _, _, _, r2⟩ := c2; exact ⟨r1.lt, r2.lt⟩
  have hrn : rp ≠ rg := c2.ne
  refine mkn (n0 := h2.size) T_frame z_frame (Nat.le_refl _) (by show nf * 4 ≤ _; omega) (by decide) fun fg h3 hfg o3 e3 => ?_
  have hfl := o3.lt
  refine vc_makeMap (ev := nint) fun mb h4 hmb m4 hs4 q4 => ?_
  have e4 : Ext h3 h4 := ⟨by omega, fun b hb _ => q4 b hb⟩
  refine ⟨_, #[ptr dp 0, .slice (some ⟨fg, 0, none⟩) nf nf, .map (some mb), .slice none 0 0, ptr rp 0], rfl, rfl, ?_⟩
  refine bxa (cs := [ptr dp 0, .slice (some ⟨fg, 0, none⟩) nf nf, .map (some mb), .slice none 0 0, ptr rp 0]) fun c h5 e5 hc k5 _ => ?_
  have hl2 := e2.le
  have hl3 := e3.le
  have e25 : Ext h2 h5 := (e3.trans e4).trans e5
  have e05 : Ext h h5 := e2.trans e25
  let lab : Nat → Nat := fun b => if b = dp then 6 else if b = dg then 7 else if b = rp then 4 else if b = rg then 5 else if b = fg then 2 else if b = mb then 3 else if b = c then 1 else 0
  have hlab : Lat (dlab dp dg) lab h := fun b hb => by
    simp only [lab, dlab]
    split
    · rfl
    · split
      · rfl
      · rw [if_neg (by omega), if_neg (by omega), if_neg (by omega), if_neg (by omega), if_neg (by omega)]
  let s0 : CSt := ⟨c, fg, mb, rp, rg, dp, dg, .slice none 0 0, [], [], List.replicate nf Fr.nil, []⟩
  have k0 : Cok lab h5 s0 nf n D rd wr := by
    refine ⟨k5, d.ext e05, (o3.ext e4).ext e5, by simp [s0], h64, ?_, Ow.nil _ _ _, c2.ext e25, ?_, ?_, ?_, ?_, ?_, ?_, ?_, ?_⟩
    · obtain ⟨es, cl, q1, q2⟩ := m4; exact ⟨es, cl, e5.get q1, q2⟩
    · show lab c = 1
      simp only [lab]; rw [if_neg (by omega), if_neg (by omega), if_neg (by omega), if_neg (by omega), if_neg (by omega), if_neg (by omega), if_pos trivial]
    · show lab fg = 2
      simp only [lab]; rw [if_neg (by omega), if_neg (by omega), if_neg (by omega), if_neg (by omega), if_pos trivial]
    · show lab mb = 3
      simp only [lab]; rw [if_neg (by omega), if_neg (by omega), if_neg (by omega), if_neg (by omega), if_neg (by omega), if_pos trivial]
    · show lab rp = 4
      simp only [lab]; rw [if_neg (by omega), if_neg (by omega), if_pos trivial]
    · show lab rg = 5
      simp only [lab]; rw [if_neg (by omega), if_neg (by omega), if_neg (by omega), if_pos trivial]
    · show lab dp = 6
      simp only [lab, if_true]
    · show lab dg = 7
      simp only [lab]; rw [if_neg (by omega), if_pos trivial]
    · intro b hb; simp [s0, Value.ownBlock] at hb
  refine lop (σ := Nat × (Nat → Nat) × Value) (fun p => [int p.1]) (fun p h' => p.1 ≤ nf ∧ Lat lab p.2.1 h5 ∧ Cok p.2.1 h' { s0 with ve := p.2.2, em := List.range p.1 } nf n D rd wr ∧ Ex (Lb lab 1 8) h5 h') (fun p => nf - p.1) (0, lab, .slice none 0 0) rfl ⟨Nat.zero_le _, Lat.refl _ _, k0, Ex.refl _ _⟩ ?_
  rintro ⟨f, l6, v6⟩ h6 N ⟨hf, a6, k6, e6⟩ hN
  simp only at hf a6 k6 e6
  simp only [m_cache_New_l25, gv_zero, gv_succ]
  rw [BiP_lss]
  refine cdp (fun hlt => ?_) (fun hge => ?_)
  · refine em_push (s := { s0 with ve := v6, em := List.range f }) (f := f) k6 (by show (List.range f).length ≤ 64; rw [List.length_range]; omega) fun l7 v7 h7 a7 k7 e7 => ?_
    refine add64 (by omega) ?_
    have := hN (f + 1, l7, v7) h7 ⟨by show f + 1 ≤ nf; omega, a6.trans a7 e6.le, by show Cok l7 h7 { s0 with ve := v7, em := List.range (f + 1) } nf n D rd wr; rw [List.range_succ]; exact k7, a6.ex e6 e7⟩ (by simp only; omega)
    simpa using this
  · have hfn : f = nf := by omega
    subst hfn
    unfold m_cache_New_j40
    refine r l6 c h6 (fun b hb => (a6 b (by have := e05.le; omega)).trans (hlab b hb)) ⟨{ s0 with ve := v6, em := List.range f }, fun _ => none, rfl, rfl, k6, ?_, fun i hi => by simp [vw], fun i => by simp [pn], rfl⟩ (by have := e4.le; omega) ?_
    · refine ⟨fun i => by simp [s0], fun i g hg => by simp [s0] at hg, ?_, fun g hg => ?_, by simp [s0], fun g => by simp [s0], fun i e hE => by cases hE⟩
      · show ([] ++ List.range f ++ []).Nodup
        simp [List.nodup_range]
      · simpa [s0] using hg
    · refine ⟨by have := e05.le; have := e6.le; omega, fun b hb hm => ?_⟩
      rw [e6.eq b (by have := e05.le; omega) fun x => ?_, e05.eq b hb (fun x => x)]
      have hl := hlab b hb
      obtain ⟨x1, x2⟩ := x
      rw [hl] at x1
      simp only [dlab] at x1
      split at x1
      · rename_i he; exact hm (.inl he)
      · split at x1
        · rename_i he; exact hm (.inr he)
        · omega
end
end Go.Sg
namespace Go.Sg
open Go Vc
structure Bld (h : Heap) (v : Value) (h' : Heap) (v' : Value) : Prop where
  ex : Ex (fun b => v.ownBlock = some b) h h'
  at_ : v'.ownBlock = v.ownBlock ∨ ∃ b, v'.ownBlock = some b ∧ h.size ≤ b
theorem Bld.refl (h v) : Bld h v h v := ⟨Ex.refl _ _, .inl rfl⟩
theorem Bld.trans {h1 h2 h3 : Heap} {v1 v2 v3 : Value} (a : Bld h1 v1 h2 v2) (b : Bld h2 v2 h3 v3) : Bld h1 v1 h3 v3 := by
  refine ⟨⟨Nat.le_trans a.ex.le b.ex.le, fun x hx hm => (b.ex.eq x (Nat.lt_of_lt_of_le hx a.ex.le) fun he => ?_).trans (a.ex.eq x hx hm)⟩, ?_⟩
  · rcases a.at_ with h | ⟨c, h, hc⟩
    · exact hm (h ▸ he)
    · rw [h] at he; cases he; omega
  · rcases b.at_ with h | ⟨c, h, hc⟩
    · rcases a.at_ with h' | ⟨c, h', hc⟩
      · exact .inl (h.trans h')
      · exact .inr ⟨c, h.trans h', hc⟩
    · exact .inr ⟨c, h, Nat.le_trans a.ex.le hc⟩
theorem Bld.ext {h1 h2 : Heap} {v : Value} (e : Ext h1 h2) : Bld h1 v h2 v := ⟨e.toM, .inl rfl⟩
theorem Bld.blk {h h' : Heap} {v v' : Value} (a : Bld h v h' v') {b : Nat} {cs : List Value} (k : Blk h b cs) (hb : v.ownBlock ≠ some b) : Blk h' b cs := k.ex a.ex hb
theorem Bld.new {h h' : Heap} {v v' : Value} (a : Bld h v h' v') (hv : v.ownBlock = none) : Ext h h' := a.ex.mono fun x _ hx => by rw [hv] at hx; cases hx
theorem Bld.ne {h h' : Heap} {v v' : Value} (a : Bld h v h' v') {b : Nat} (hb : b < h.size) (hv : v.ownBlock ≠ some b) : v'.ownBlock ≠ some b := fun he => by
  rcases a.at_ with h | ⟨c, h, hc⟩
  · exact hv (h ▸ he)
  · rw [h] at he; cases he; omega
theorem Ow.anew {α : Type} [El α] {e} {n0 : Nat} {h : Heap} {v : Value} {l : List α} (o : Ow 0 e h v l) (hb : ∀ b, v.ownBlock = some b → n0 ≤ b) : Ow n0 e h v l := by
  rcases o with o | ⟨g, cap, cur, h1, h2, h3⟩
  · exact .inl o
  · exact .inr ⟨g, cap, cur, h1, hb g (by rw [h1]; rfl), h3⟩
section
variable {h : Heap} {K : Kt} {v x : Value} {l : List UInt8} {ty : TypeId}
theorem bytes_cells (s : Str) : Lib.strCells ⟨s.toArray⟩ = cells s := by
  show (s.toArray.toList.map fun b => Value.int .u8 b.toNat) = _
  induction s with
  | nil => rfl
  | cons a s ih => simp only [List.toArray_cons] at *; simpa [cells, El.enc] using ih
theorem i_byte : ∃ i, Pg.info? t_uint8 = some i ∧ i.zero = some (.int .u8 0) ∧ i.size = 1 ∧ i.bytes = 1 := by
  have h : (Pg.info? t_uint8).map (fun i => (i.zero, i.size, i.bytes)) = some (some (.int .u8 0), 1, 1) := by kernel_rfl
  cases hi : Pg.info? t_uint8 with
  | none => rw [hi] at h; cases h
  | some i =>
    rw [hi] at h
    simp only [Option.map_some, Option.some.injEq, Prod.mk.injEq] at h
    exact ⟨i, rfl, h.1, h.2.1, h.2.2⟩
theorem bld_app {U} {m : List UInt8} (o : Ow 0 t_uint8 h v l) (s : Sl U h x m) (hl : l.length + m.length ≤ 2 ^ 40) (r : ∀ v' h', Ow 0 t_uint8 h' v' (l ++ m) → Bld h v h' v' → K v' h') :
    VH Pg (Builtin.append_ #[t_S_uint8, t_S_uint8] ty #[v, x]) h K :=
  app_ob T_byte o s hl (by decide) fun v' h' o' e' hv => r v' h' o' ⟨e', hv.imp id fun h => ⟨_, h, Nat.le_refl _⟩⟩
theorem bld_str {s : Str} (o : Ow 0 t_uint8 h v l) (hl : l.length + s.length ≤ 2 ^ 40) (r : ∀ v' h', Ow 0 t_uint8 h' v' (l ++ s) → Bld h v h' v' → K v' h') :
    VH Pg (Builtin.append_ #[t_S_uint8, t_string] ty #[v, str s]) h K := by
  obtain ⟨i, hi, hz, hs, hb⟩ := i_byte
  have hts : Pg.underlying t_string = some .string := by kernel_rfl
  intro w hw
  subst hw
  have hsz : (ByteArray.mk s.toArray).size = s.length := by simp [ByteArray.size]
  have ow := o.owns w rfl
  have hz1 : El.z UInt8 = 1 := rfl
  have h63 : l.length + s.length ≤ maxLen := by simp only [maxLen]; omega
  rcases o.cases' with ⟨rfl, hl0⟩ | ⟨g, cap, rfl, _, og⟩
  · subst hl0
    have ow' : w.ownsRow w.heap.size t_uint8 1 (.slice none 0 0) ([] : List UInt8).length (cells ([] : List UInt8)) := (Ow.nil (α := UInt8) w.heap.size t_uint8 w.heap).owns w rfl
    obtain ⟨v', w', h1, h2, h3, h4⟩ := Lib.run_append_own_string (P := Pg) w w.heap.size t_S_uint8 t_string ty t_uint8 i T_byte.und hts hi hz hs hb _ _ _ ow' ⟨s.toArray⟩ (by rw [hsz]; exact h63) (by rw [hsz]; simp only [List.length_nil]; omega) (Nat.le_refl _)
    rw [hsz, bytes_cells, ← cells_append] at h2
    have o2 : Ow w.heap.size t_uint8 w'.heap v' ([] ++ s) := Ow.of h2
    refine ⟨v', w', h1, grown_kin h3, r _ _ (o2.low (Nat.zero_le _)) ⟨⟨h3.size, fun b hb _ => h3.block b hb (by simp [Value.ownBlock])⟩, ?_⟩⟩
    rcases o2.cases' with ⟨rfl, _⟩ | ⟨g, cap, rfl, hg, _⟩
    · exact .inl rfl
    · exact .inr ⟨g, rfl, hg⟩
  · obtain ⟨v', w', h1, h2, h3, h4⟩ := Lib.run_append_own_string (P := Pg) w 0 t_S_uint8 t_string ty t_uint8 i T_byte.und hts hi hz hs hb _ _ _ ow ⟨s.toArray⟩ (by rw [hsz]; exact h63) (by rw [hsz]; omega) (Nat.zero_le _)
    rw [hsz, bytes_cells, ← cells_append] at h2
    have o2 : Ow 0 t_uint8 w'.heap v' (l ++ s) := Ow.of h2
    refine ⟨v', w', h1, grown_kin h3, r _ _ o2 ⟨⟨h3.size, fun b hb hm => h3.block b hb fun he => hm he.symm⟩, ?_⟩⟩
    obtain ⟨cur, q1, q2, q3, q4, q5⟩ := og
    by_cases hr : l.length + s.length ≤ cap
    · have hh := Lib.run_append_room_string (P := Pg) w t_S_uint8 t_string ty t_uint8 i T_byte.und hts hi hs g l.length cap cur.toArray q1 ⟨s.toArray⟩ (by rw [hsz]; exact hr) (by rw [hsz]; simp only [List.size_toArray]; rw [q4, hz1]; omega)
      rw [hh] at h1
      injection h1 with h1 _
      rw [← h1]; exact .inl rfl
    · have holds : ∀ j u, (cells l)[j]? = some u → w.cell? ((⟨g, 0, none⟩ : Addr).add j) = some u := ow.cells (g := g) rfl
      have hh := Lib.run_append_grow_string (P := Pg) w t_S_uint8 t_string ty t_uint8 i (.int .u8 0) T_byte.und hts hi hz ⟨g, 0, none⟩ l.length cap (cells l) (by rw [cells_length, hs, hz1]) holds ⟨s.toArray⟩ (by rw [hsz]; omega) (by rw [hsz]; omega) (by rw [hsz, hb]; exact growslice_fits (by omega) (by omega))
      rw [hh] at h1
      injection h1 with h1 _
      rw [← h1]; exact .inr ⟨_, rfl, Nat.le_refl _⟩
theorem zc_rep (n : Nat) : ∀ i z, Pg.info? t_uint8 = some i → i.zero = some z → (Builtin.zeroCells z.cells n).toList = cells (List.replicate n (0 : UInt8)) := fun i z h1 h2 => zeroCells_rep (z_byte i z h1 h2) n
theorem bld_zer {n : Nat} (o : Ow 0 t_uint8 h v l) (hl : l.length + n ≤ 2 ^ 40) (r : ∀ v' h', Ow 0 t_uint8 h' v' (l ++ List.replicate n 0) → Bld h v h' v' → K v' h') :
    VH Pg (Builtin.append_ #[t_S_uint8, t_int] ty #[v, .int .i64 n]) h K := by
  obtain ⟨i, hi, hz, hs, hb⟩ := i_byte
  have hti : Pg.underlying t_int = some (.int .i64) := by kernel_rfl
  have hw64 : IntKind.i64.wrap (n : Int) = n := wrap64 (by omega) (by omega)
  have hn0 : ¬ (n : Int) < 0 := by omega
  have hw0 : IntKind.i64.wrap 0 = 0 := wrap64 (by omega) (by omega)
  have hn48 : ¬ (281474976710656 < (n : Int)) := by omega
  have grow : ∀ (a : Option Addr) (cap : Nat), v = .slice a l.length cap → cap < l.length + n → 0 < n → VH Pg (Builtin.append_ #[t_S_uint8, t_int] ty #[v, .int .i64 n]) h K := by
    intro a cap hv hg hn
    refine app_zeros (U := No) T_byte hti hv (o.sl fun _ _ h => h) (List.replicate n 0) (zc_rep n) (by simp) hn hg hl (by decide) fun g c h1 o1 hg1 e1 => ?_
    refine r _ _ (o1.ow' (Nat.zero_le _) (by simp)) ⟨e1.toM, .inr ⟨g, rfl, by omega⟩⟩
  rcases o.cases' with ⟨rfl, hl0⟩ | ⟨g, cap, rfl, _, og⟩
  · by_cases hn : n = 0
    · subst hn
      refine vh_pure (v := .slice none 0 0) (fun w hw => ?_) (r _ _ (by simpa using o) (Bld.refl _ _))
      simp [Builtin.append_, run_underlying T_byte.und, run_underlying hti, sizeOf, typeInfo, hi, asInt, asIntOf, hw0, hs, hb]
    · subst hl0
      exact grow none 0 rfl (by simp; omega) (by omega)
  · by_cases hr : l.length + n ≤ cap
    · have ow := og.write l.length (List.replicate n (0 : UInt8)) (Nat.le_refl _) (by simpa using hr)
      rw [List.take_length, List.drop_eq_nil_of_le (by omega), List.append_nil] at ow
      obtain ⟨cur, c1, c2, c3, c4, c5⟩ := og
      have hb' : Blk h g cur := ⟨t_uint8, c1⟩
      have hz1 : El.z UInt8 = 1 := rfl
      intro w hw
      subst hw
      have hst := run_storeCells_cells (P := Pg) g (l.length * El.z UInt8) (cells (List.replicate n (0 : UInt8))) 0 w (fun j hj => by
          rw [cell_hget, hb'.get, Nat.add_zero, List.getElem?_eq_getElem (by
            rw [cells_length, List.length_replicate, hz1] at hj
            rw [c4, hz1]; omega)]; rfl)
        (fun j _ => by rw [frozen_hfz]; exact hb'.fz _) (cells_one _)
      simp only [Nat.add_zero, hz1, Nat.mul_one] at hst
      rw [hz1, Nat.mul_one] at ow
      refine ⟨.slice (some ⟨g, 0, none⟩) (l.length + n) cap, w.setCells g l.length (cells (List.replicate n (0 : UInt8))), ?_, kin_sets _ _ _ _, ?_⟩
      · by_cases hn : n = 0
        · subst hn
          simp [Builtin.append_, run_underlying T_byte.und, run_underlying hti, sizeOf, typeInfo, hi, asInt, asIntOf, hw0, hs, hb, c2, storeCells, World.setCells]
        · have hzc := zc_rep n i _ hi hz
          simp [Builtin.append_, run_underlying T_byte.und, run_underlying hti, sizeOf, typeInfo, zeroValue, hi, asInt, asIntOf, hw64, hs, hb, hn0, hn48, hz, hn, hr, Addr.add_lit, hzc, hst]
      · rw [sets_hsets]
        refine r _ _ (ow.ow' (Nat.zero_le _) (by simp)) ⟨hsets_ex rfl, .inl rfl⟩
    · have := og.le
      exact grow _ cap rfl (by omega) (by omega)
end
end Go.Sg
