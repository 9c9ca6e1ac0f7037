/-
  Part 10 of a proof: own texts, merged by program.
-/
import Derived.Test.YtfdephgpijheoaaGreatDoorP09
set_option linter.unusedVariables false
set_option linter.unusedSimpArgs false
namespace Go.Sg
open Go Vc
section
variable {lab lab' : Nat → Nat} {h h' : Heap} {s : CSt} {nf n i f c dp : Nat} {D D' : List (List UInt8)} {rd wr rd' wr' : BitVec 64} {E : Nat → Option Ent} {K : Kt} {V : Nat → List UInt8} {P : Nat → Nat}
theorem fresh_fin {lab1 : Nat → Nat} {s1 : CSt} {D1 : List (List UInt8)} {wr1 : BitVec 64} {h1 h2 : Heap} {x : Value} {E1 : Nat → Option Ent} (k2 : Cok lab1 h2 s1 nf n D1 rd wr1) (hf : f < nf) (hx1 : x.oneCell' = true) (hi : i < 65536)
    (fin : ∀ h3, Cok lab1 h3 { s1 with L := s1.L.set f ⟨i, x, true, 1, hx1⟩, m := mput s1.m i f, R := s1.R.erase f } nf n D1 rd wr1 → Ex (Lb lab1 2 5) h2 h3 → K (int 0) h3) (hs : x.cells = #[x]) :
    BlP bt_cache_frame [(0, .int .u32 (i : Int)), (1, x), (2, .bool true)] fun x37 => Ca f_cache_Cache_put #[ptr s1.c 0, nint f, x37] h2 fun _ h38 => K (int 0) h38 := by
  refine ⟨_, #[.int .u32 i, x, .bool true, int 0], rfl, ?_, ?_⟩
  · simp only [Instr.fill, hs]; rfl
  · exact c_cache_put k2 hf (fr := ⟨i, x, true, 0, hx1⟩) (fr' := ⟨i, x, true, 1, hx1⟩) rfl rfl (by show i < _; omega) fun h3 k3 e3 => fin h3 k3 e3
theorem c_cache_Fresh (k : CaS lab h c dp nf n D V P rd wr) (h0 : 0 < i) (hi : i < D.length) (hp : ∃ Ps : List Nat, Ps.length < nf ∧ ∀ j, 0 < P j → j ∈ Ps) (hpi : P i = 0)
    (r : ∀ lab' h' D' wr', Lat lab lab' h → D'.length = D.length → CaS lab' h' c dp nf n D' (upd V i (List.replicate n 0)) (upd P i 1) rd wr' → (wr' = wr ∨ wr' = wr + 1) → Ex (Lb lab 1 8) h h' → K (int 0) h') :
    Ca f_cache_Cache_Fresh #[ptr c 0, .int .u32 i] h K := by
  obtain ⟨s, E, rfl, rfl, k, v, hV, hP, hz⟩ := k.out
  have hb2 := k.dev.b2
  have hn2 := k.dev.n2
  refine m_cache_Cache_Fresh_ok (c_cache_there k hi ?_)
  rw [BiP_neq]
  refine cdp (fun h => absurd rfl h) fun _ => ?_
  refine fl (by rw [k.blk.get]; rfl) (c_look k true ?_)
  rw [if_pos rfl, ex20, ex21]
  cases hm : s.m.lookup i with
  | some f =>
    obtain ⟨fr, e, q1, q2, q3, q4, q5, q6, q7, q8⟩ := v.fm i f hm
    have hfl : f < nf := by have := (List.getElem?_eq_some_iff.1 q1).1; rw [k.fl] at this; exact this
    have hpe : e.pins = 0 := by rw [← pn_in q2, ← hP]; exact hpi
    show CdP (.bool true) _ _
    rw [CdP_true]
    refine fl (by rw [k.blk.get]; rfl) ?_
    refine (k.fr.rd k.fl.symm (Nat.le_refl _)).ef (f := 3) (w := int fr.pins) (i := (f : Int)) (x := fr) (by omega) (by rw [Int.toNat_natCast]; exact q1) rfl ?_
    rw [BiP_gtr, decide_eq_false (by omega)]
    unfold m_cache_Cache_Fresh_j22
    rw [CdP_false]
    rw [UnP_not]
    show CdP (.bool false) _ _
    rw [CdP_false]
    unfold m_cache_Cache_Fresh_j29
    refine fl (by rw [k.blk.get]; rfl) (c_dev_Bytes k.dev ?_)
    have k1 := k.lat (frl_lat lab h)
    have v1 := v.ex (Ex.refl (Lb lab 1 8) h) (by decide) (frl_lat lab h)
    refine mkn (n0 := h.size) T_byte z_byte (Nat.le_refl _) (by show n * 1 ≤ _; omega) (by decide) fun g h1 hg o1 e1 => ?_
    have k2 := k1.ext e1
    have e1' : Ex (Lb (frl lab h) 1 8) h h1 := e1.toM
    have v2 := v1.ex e1' (by decide) (Lat.refl _ h)
    have sx : Sl (Use (frl lab h)) h1 (.slice (some ⟨g, 0, none⟩) n n) (List.replicate n (0 : UInt8)) := by
      have := o1.sl (U := Use (frl lab h)) (fun hu => hu (frl_new (by omega)))
      rw [List.length_replicate] at this; exact this
    refine fresh_fin (E1 := E) (h1 := h) k2 hfl rfl (by omega) (fun h3 k3 e3 => ?_) rfl
    have hfR : f ∈ s.R := (v.rw f).2 ⟨i, e, hm, q2, hpe⟩
    have v3 := (v2.ex e3 (by decide) (Lat.refl _ h1)).turn (fr' := ⟨i, .slice (some ⟨g, 0, none⟩) n n, true, 1, rfl⟩) (e' := ⟨List.replicate n 0, true, 1⟩) (D' := D) (R' := s.R.erase f) hm k.fl rfl rfl rfl (sx.lat e3 (by decide) (Lat.refl _ h1)) (by simp) rfl (fun _ _ => rfl) (fun h => by cases h) (fun g => by
      rw [k.row.nd.mem_erase_iff]; simp)
    have hms : mput s.m i f = s.m := mput_same k.mp.nodup hm
    rw [hms] at k3
    refine r (frl lab h) h3 D wr (frl_lat lab h) rfl ⟨{ s with L := s.L.set f ⟨i, .slice (some ⟨g, 0, none⟩) n n, true, 1, rfl⟩, R := s.R.erase f }, _, rfl, rfl, k3, v3, fun j hj => ?_, fun j => ?_, (upd_ne (by omega)).trans hz⟩ (.inl rfl) ((frl_lat lab h).ex (Ex.refl _ _) (e1'.trans (Lb.wide e3 (by decide) (by decide))))
    · by_cases hji : j = i
      · subst hji; rw [upd_same, vw_in upd_same]
      · rw [upd_ne hji, hV j hj]; unfold vw; rw [upd_ne hji]
    · by_cases hji : j = i
      · subst hji; rw [upd_same, pn_in upd_same]
      · rw [upd_ne hji, hP]; unfold pn; rw [upd_ne hji]
  | none =>
    have hE : E i = none := (v.pm i).2 hm
    show CdP (.bool false) _ _
    rw [CdP_false]
    unfold m_cache_Cache_Fresh_j22
    rw [CdP_false, UnP_not]
    show CdP (.bool true) _ _
    rw [CdP_true]
    refine c_cache_room k v (by obtain ⟨Ps, h1, h2⟩ := hp; exact ⟨Ps, h1, fun j hj => h2 j (by rw [hP]; exact hj)⟩) fun lab1 s1 f h1 D1 wr1 E1 a1 hc1 hd1 k1 v1 hl1 hn1 hv1 hp1 hw1 e1 => ?_
    have hE1 := hn1 i hE
    have hi1 : i < D1.length := by rw [hl1]; exact hi
    rw [ex20, ex21, UnP_not]
    show CdP (.bool false) _ _
    rw [CdP_false, ← hc1]
    unfold m_cache_Cache_Fresh_j29
    refine fl (by rw [k1.blk.get]; rfl) (c_dev_Bytes k1.dev ?_)
    have k1 := k1.lat (frl_lat lab1 h1)
    have v1 := v1.ex (Ex.refl (Lb lab1 1 8) h1) (by decide) (frl_lat lab1 h1)
    have a12 : Lat lab (frl lab1 h1) h := a1.trans (frl_lat lab1 h1) e1.le
    refine mkn (n0 := h1.size) T_byte z_byte (Nat.le_refl _) (by show n * 1 ≤ _; omega) (by decide) fun g h2 hg o1 e2 => ?_
    have k2 := k1.ext e2
    have e2' : Ex (Lb (frl lab1 h1) 1 8) h1 h2 := e2.toM
    have v2 := v1.ex e2' (by decide) (Lat.refl _ h1)
    have sx : Sl (Use (frl lab1 h1)) h2 (.slice (some ⟨g, 0, none⟩) n n) (List.replicate n (0 : UInt8)) := by
      have := o1.sl (U := Use (frl lab1 h1)) (fun hu => hu (frl_new (by omega)))
      rw [List.length_replicate] at this; exact this
    have hflt : f < nf := v2.lt f (by simp)
    have hm1 : s1.m.lookup i = none := (v1.pm i).1 hE1
    refine fresh_fin (E1 := E) (h1 := h) k2 hflt rfl (by omega) (fun h3 k3 e3 => ?_) rfl
    have v3 := (v2.ex e3 (by decide) (Lat.refl _ h2)).put (fr' := ⟨i, .slice (some ⟨g, 0, none⟩) n n, true, 1, rfl⟩) (e' := ⟨List.replicate n 0, true, 1⟩) hm1 k2.fl rfl rfl rfl (sx.lat e3 (by decide) (Lat.refl _ h2)) (by simp) hi1 (fun h => by cases h) Nat.zero_lt_one
    refine r (frl lab1 h1) h3 D1 wr1 a12 hl1 ⟨{ s1 with L := s1.L.set f ⟨i, .slice (some ⟨g, 0, none⟩) n n, true, 1, rfl⟩, m := mput s1.m i f, R := s1.R.erase f }, _, hc1, hd1, k3, v3, fun j hj => ?_, fun j => ?_, (upd_ne (by omega)).trans (hn1 0 hz)⟩ hw1 (a12.ex e1 ?_)
    · rw [hl1] at hj
      by_cases hji : j = i
      · subst hji; rw [upd_same, vw_in upd_same]
      · rw [upd_ne hji, hV j hj, ← hv1 j hj]; unfold vw; rw [upd_ne hji]
    · by_cases hji : j = i
      · subst hji; rw [upd_same, pn_in upd_same]
      · rw [upd_ne hji, hP, ← hp1 j]; unfold pn; rw [upd_ne hji]
    · exact e2'.trans (Lb.wide e3 (by decide) (by decide))
theorem c_cache_Unpin (k : CaS lab h c dp nf n D V P rd wr) (hpi : 0 < P i) (hpb : P i < 1000)
    (r : ∀ h', CaS lab h' c dp nf n D V (upd P i (P i - 1)) rd wr → Ex (Lb lab 1 8) h h' → K (int 0) h') :
    Ca f_cache_Cache_Unpin #[ptr c 0, .int .u32 i] h K := by
  obtain ⟨s, E, rfl, rfl, k, v, hV, hP, hz⟩ := k.out
  have hi0 : 0 ≠ i := fun e => by subst e; rw [hP, pn_out hz] at hpi; omega
  cases hE : E i with
  | none => rw [hP, pn_out hE] at hpi; omega
  | some e =>
  obtain ⟨f, fr, hm, q1, q3, q4, q5, q6, q7, q8⟩ := v.has hE
  have hfl : f < nf := by have := (List.getElem?_eq_some_iff.1 q1).1; rw [k.fl] at this; exact this
  have hpe : P i = e.pins := by rw [hP, pn_in hE]
  refine m_cache_Cache_Unpin_ok (c_cache_pinned k hm q1 (by omega) ?_)
  rw [ex20, ex21, BiP_neq]
  refine cdp (fun h => absurd rfl h) fun _ => ?_
  refine own_fl (a := fr) (w := int fr.pins) rfl k.fr q1 rfl ?_
  refine sub64 (by omega) ?_
  have e1' : (fr.pins : Int) - 1 = ((e.pins - 1 : Nat) : Int) := by omega
  rw [e1']
  refine own_fs (f := 3) (a := fr) (a' := ({ fr with pins := e.pins - 1 } : Fr)) rfl k.fr q1 (by decide) rfl rfl fun h1 o1 e1 => ?_
  have e1' : Ex (Lb lab 2 2) h h1 := one_lb e1 ⟨by rw [k.l2]; decide, by rw [k.l2]; decide⟩
  have k1 := k.set_fr o1 (by rw [List.length_set]; exact k.fl) e1'
  have q1' : (s.L.set f { fr with pins := e.pins - 1 })[f]? = some { fr with pins := e.pins - 1 } := List.getElem?_set_self (by rw [k.fl]; exact hfl)
  refine own_fl (a := ({ fr with pins := e.pins - 1 } : Fr)) (w := int (e.pins - 1 : Nat)) rfl k1.fr q1' rfl ?_
  have fin : ∀ (h2 : Heap) (R' : List Nat), Cok lab h2 { s with L := s.L.set f { fr with pins := e.pins - 1 }, R := R' } nf n D rd wr → (∀ g, g ∈ R' ↔ (g = f ∧ e.pins - 1 = 0) ∨ (g ≠ f ∧ g ∈ s.R)) → Ex (Lb lab 1 8) h h2 → K (int 0) h2 := by
    intro h2 R' k2 hR e2
    have v2 := (v.ex e2 (by decide) (Lat.refl lab h)).turn (fr' := { fr with pins := e.pins - 1 }) (e' := { e with pins := e.pins - 1 }) (D' := D) (R' := R') hm k.fl q3 q4 rfl (q6.lat e2 (by decide) (Lat.refl lab h)) q7 rfl (fun _ _ => rfl) (v.cl i e hE) hR
    refine r h2 ⟨{ s with L := s.L.set f { fr with pins := e.pins - 1 }, R := R' }, _, rfl, rfl, k2, v2, fun j hj => ?_, fun j => ?_, (upd_ne hi0).trans hz⟩ e2
    · rw [hV j hj]
      by_cases hji : j = i
      · subst hji; rw [vw_in hE, vw_in upd_same]
      · unfold vw; rw [upd_ne hji]
    · by_cases hji : j = i
      · subst hji; rw [upd_same, pn_in upd_same, hpe]
      · rw [upd_ne hji, hP]; unfold pn; rw [upd_ne hji]
  have hfR : f ∉ s.R := fun hR => by
    obtain ⟨j, e', a1, a2, a3⟩ := (v.rw f).1 hR
    have := val_inj v.ndv a1 hm
    subst this
    rw [hE] at a2; cases a2; omega
  rw [BiP_eql]
  unfold m_cache_Cache_Unpin_j29
  refine cdp (fun hz => ?_) (fun hz => ?_)
  · refine ⟨fun b' _ => b' = s.c, ?_⟩
    rw [NilP_ptr, FaP_ptr]
    refine LdX_b k1.blk rfl (fun _ => rfl) ?_
    rw [NilP_ptr, FaP_ptr]
    refine LdX_b k1.blk rfl (fun _ => rfl) ?_
    refine c_look k1 false ⟨fun _ _ _ => rfl, ?_⟩
    rw [if_neg (by decide)]
    have hm' : ({ s with L := s.L.set f { fr with pins := e.pins - 1 } } : CSt).m.lookup i = some f := hm
    rw [hm']
    refine c_chain_Front k1.row hfl fun h2 c2 e2 => ⟨trivial, ?_⟩
    have e2' : Ex (Lb lab 4 5) h1 h2 := two_lb e2 ⟨by rw [k1.l4]; decide, by rw [k1.l4]; decide⟩ ⟨by rw [k1.l5]; decide, by rw [k1.l5]; decide⟩
    have k2 := k1.set_row c2 e2'
    refine fin h2 _ k2 (fun g => ?_) ((Lb.wide e1' (by decide) (by decide)).trans (Lb.wide e2' (by decide) (by decide)))
    rw [List.erase_of_not_mem hfR, List.mem_cons]
    constructor
    · rintro (h | h)
      · exact .inl ⟨h, by omega⟩
      · exact .inr ⟨fun e => hfR (e ▸ h), h⟩
    · rintro (⟨h, _⟩ | ⟨_, h⟩)
      · exact .inl h
      · exact .inr h
  · refine fin h1 s.R k1 (fun g => ?_) (Lb.wide e1' (by decide) (by decide))
    constructor
    · intro h; exact .inr ⟨fun e => hfR (e ▸ h), h⟩
    · rintro (⟨_, h⟩ | ⟨_, h⟩)
      · omega
      · exact h
theorem c_cache_Read (k : CaS lab h c dp nf n D V P rd wr) (hpi : 0 < P i) (r : ∀ x h', Ow h.size t_uint8 h' x (V i) → Ext h h' → K (.tuple #[x, int 0]) h') : Ca f_cache_Cache_Read #[ptr c 0, .int .u32 i] h K := by
  obtain ⟨s, E, rfl, rfl, k, v, hV, hP, hz⟩ := k.out
  cases hE : E i with
  | none => rw [hP, pn_out hE] at hpi; omega
  | some e =>
  obtain ⟨f, fr, hm, q1, q3, q4, q5, q6, q7, q8⟩ := v.has hE
  have hpe : P i = e.pins := by rw [hP, pn_in hE]
  have hn2 := k.dev.n2
  refine m_cache_Cache_Read_ok (c_cache_pinned k hm q1 (by omega) ?_)
  rw [ex20, ex21, BiP_neq]
  refine cdp (fun h => absurd rfl h) fun _ => ?_
  refine own_fl (a := fr) (w := fr.b) rfl k.fr q1 rfl ?_
  rw [hV i q8, vw_in hE] at r
  exact c_Clone_byte q6 (by omega) r
theorem c_cache_Write (k : CaS lab h c dp nf n D V P rd wr) (hpi : 0 < P i) {U : Nat → Prop} {x : Value} {bs : List UInt8} (sx : Sl U h x bs) (hl : bs.length = n)
    (r : ∀ lab' h', Lat lab lab' h → CaS lab' h' c dp nf n D (upd V i bs) P rd wr → Ex (Lb lab 1 8) h h' → K (int 0) h') : Ca f_cache_Cache_Write #[ptr c 0, .int .u32 i, x] h K := by
  obtain ⟨s, E, rfl, rfl, k, v, hV, hP, hz⟩ := k.out
  have hi0 : 0 ≠ i := fun e => by subst e; rw [hP, pn_out hz] at hpi; omega
  cases hE : E i with
  | none => rw [hP, pn_out hE] at hpi; omega
  | some e =>
  obtain ⟨f, fr, hm, q1, q3, q4, q5, q6, q7, q8⟩ := v.has hE
  have hfl : f < nf := by have := (List.getElem?_eq_some_iff.1 q1).1; rw [k.fl] at this; exact this
  have hpe : P i = e.pins := by rw [hP, pn_in hE]
  have hn2 := k.dev.n2
  refine m_cache_Cache_Write_ok (c_cache_pinned k hm q1 (by omega) ?_)
  rw [ex20, ex21, BiP_neq]
  refine cdp (fun h => absurd rfl h) fun _ => ?_
  refine sx.len (fl (by rw [k.blk.get]; rfl) (c_dev_Bytes k.dev ?_))
  rw [BiP_neq]
  refine cdp (fun h => absurd (by omega) h) fun _ => ?_
  have k0 := k.lat (frl_lat lab h)
  have v0 := v.ex (Ex.refl (Lb lab 1 8) h) (by decide) (frl_lat lab h)
  refine c_Clone_byte sx (by omega) fun y h1 o1 e1 => ?_
  have hy1 : y.oneCell' = true := by rcases o1.cases' with ⟨rfl, _⟩ | ⟨_, _, rfl, _⟩ <;> rfl
  have sy : Sl (Use (frl lab h)) h1 y bs := o1.sl fun b hb hu => hu (frl_new hb)
  have k1 := k0.ext e1
  refine own_fs (f := 1) (a := fr) (a' := ({ fr with b := y, one := hy1 } : Fr)) rfl k1.fr q1 (by decide) rfl (by rw [one_eq]; exact hy1) fun h2 o2 e2 => ?_
  have e2' : Ex (Lb (frl lab h) 2 2) h1 h2 := one_lb e2 ⟨by rw [k1.l2]; decide, by rw [k1.l2]; decide⟩
  have k2 := k1.set_fr o2 (by rw [List.length_set]; exact k1.fl) e2'
  have q1' : (s.L.set f { fr with b := y, one := hy1 })[f]? = some { fr with b := y, one := hy1 } := List.getElem?_set_self (by rw [k.fl]; exact hfl)
  refine own_fs (f := 2) (a := ({ fr with b := y, one := hy1 } : Fr)) (a' := ({ fr with b := y, one := hy1, dirty := true } : Fr)) rfl k2.fr q1' (by decide) rfl rfl fun h3 o3 e3 => ?_
  have e3' : Ex (Lb (frl lab h) 2 2) h2 h3 := one_lb e3 ⟨by rw [k1.l2]; decide, by rw [k1.l2]; decide⟩
  have k3 := k2.set_fr o3 (by rw [List.length_set]; exact k2.fl) e3'
  rw [List.set_set] at k3
  have e13 : Ex (Lb (frl lab h) 1 8) h h3 := (Ex.toM e1).trans ((Lb.wide e2' (by decide) (by decide)).trans (Lb.wide e3' (by decide) (by decide)))
  have sy3 : Sl (Use (frl lab h)) h3 y bs := (sy.lat e2' (by decide) (Lat.refl _ h1)).lat e3' (by decide) (Lat.refl _ h2)
  have v3 := (v0.ex e13 (by decide) (Lat.refl _ h)).turn (fr' := { fr with b := y, one := hy1, dirty := true }) (e' := { e with bytes := bs, dirty := true }) (D' := D) (R' := s.R) hm k.fl q3 rfl q5 sy3 hl rfl (fun _ _ => rfl) (fun h => by cases h) (fun g => by
    have hfR : f ∉ s.R := fun hR => by
      obtain ⟨j, e', a1, a2, a3⟩ := (v.rw f).1 hR
      have := val_inj v.ndv a1 hm
      subst this
      rw [hE] at a2; cases a2; omega
    constructor
    · intro h; exact .inr ⟨fun e => hfR (e ▸ h), h⟩
    · rintro (⟨_, h⟩ | ⟨_, h⟩)
      · have h : e.pins = 0 := h
        omega
      · exact h)
  refine r (frl lab h) h3 (frl_lat lab h) ⟨{ s with L := s.L.set f { fr with b := y, one := hy1, dirty := true } }, _, rfl, rfl, k3, v3, fun j hj => ?_, fun j => ?_, (upd_ne (by omega)).trans hz⟩ ((frl_lat lab h).ex (Ex.refl _ _) e13)
  · by_cases hji : j = i
    · subst hji; rw [upd_same, vw_in upd_same]
    · rw [upd_ne hji, hV j hj]; unfold vw; rw [upd_ne hji]
  · by_cases hji : j = i
    · subst hji; rw [pn_in upd_same, hpe]
    · rw [hP]; unfold pn; rw [upd_ne hji]
end
end Go.Sg
namespace Go.Sg
open Go Vc
section
variable {h : Heap} {K : Kt} {nf n dp dg : Nat} {D : List (List UInt8)} {rd wr : BitVec 64}
def dlab (dp dg : Nat) : Nat → Nat := fun b => if b = dp then 6 else if b = dg then 7 else 0
theorem c_cache_New (d : Dv dg dp h n D rd wr) (h1 : 1 ≤ nf) (h64 : nf ≤ 64)
    (r : ∀ lab' c h', Lat (dlab dp dg) lab' h → CaS lab' h' c dp nf n D (fun i => D.getD i []) (fun _ => 0) rd wr → h.size ≤ c → Ex (two dp dg) h h' → K (.tuple #[ptr c 0, int 0]) h') :
    Ca f_cache_New #[ptr dp 0, int nf] h K := by
  have hdl := d.lt
  have hb1 := d.b1
  have hne := d.ne
  refine m_cache_New_ok (c_dev_Blocks d ?_)
  rw [BiP_eql]
  refine cdp (fun h => absurd h (by omega)) fun _ => ?_
  rw [BiP_lss]
  refine cdp (fun h => absurd h (by omega)) fun _ => ?_
  rw [BiP_gtr]
  unfold m_cache_New_j10
  refine cdp (fun h => absurd h (by omega)) fun _ => ?_
  unfold m_cache_New_j11
  refine c_chain_New (by omega) (by omega) fun rg rp h2 hrg hrp c2 e2 => ?_
  rw [ex20, ex21, BiP_neq]
  refine cdp (fun h => absurd rfl h) fun _ => ?_
  have hrl : rp < h2.size ∧ rg < h2.size := by
    obtain ⟨_, _, _, r1, _, _, _, _, r2⟩ := c2; exact ⟨r1.lt, r2.lt⟩
  have hrn : rp ≠ rg := c2.ne
  refine mkn (n0 := h2.size) T_frame z_frame (Nat.le_refl _) (by show nf * 4 ≤ _; omega) (by decide) fun fg h3 hfg o3 e3 => ?_
  have hfl := o3.lt
  refine vc_makeMap (ev := nint) fun mb h4 hmb m4 hs4 q4 => ?_
  have e4 : Ext h3 h4 := ⟨by omega, fun b hb _ => q4 b hb⟩
  refine ⟨_, #[ptr dp 0, .slice (some ⟨fg, 0, none⟩) nf nf, .map (some mb), .slice none 0 0, ptr rp 0], rfl, rfl, ?_⟩
  refine bxa (cs := [ptr dp 0, .slice (some ⟨fg, 0, none⟩) nf nf, .map (some mb), .slice none 0 0, ptr rp 0]) fun c h5 e5 hc k5 _ => ?_
  have hl2 := e2.le
  have hl3 := e3.le
  have e25 : Ext h2 h5 := (e3.trans e4).trans e5
  have e05 : Ext h h5 := e2.trans e25
  let lab : Nat → Nat := fun b => if b = dp then 6 else if b = dg then 7 else if b = rp then 4 else if b = rg then 5 else if b = fg then 2 else if b = mb then 3 else if b = c then 1 else 0
  have hlab : Lat (dlab dp dg) lab h := fun b hb => by
    simp only [lab, dlab]
    split
    · rfl
    · split
      · rfl
      · rw [if_neg (by omega), if_neg (by omega), if_neg (by omega), if_neg (by omega), if_neg (by omega)]
  let s0 : CSt := ⟨c, fg, mb, rp, rg, dp, dg, .slice none 0 0, [], [], List.replicate nf Fr.nil, []⟩
  have k0 : Cok lab h5 s0 nf n D rd wr := by
    refine ⟨k5, d.ext e05, (o3.ext e4).ext e5, by simp [s0], h64, ?_, Ow.nil _ _ _, c2.ext e25, ?_, ?_, ?_, ?_, ?_, ?_, ?_, ?_⟩
    · obtain ⟨es, cl, q1, q2⟩ := m4; exact ⟨es, cl, e5.get q1, q2⟩
    · show lab c = 1
      simp only [lab]; rw [if_neg (by omega), if_neg (by omega), if_neg (by omega), if_neg (by omega), if_neg (by omega), if_neg (by omega), if_pos trivial]
    · show lab fg = 2
      simp only [lab]; rw [if_neg (by omega), if_neg (by omega), if_neg (by omega), if_neg (by omega), if_pos trivial]
    · show lab mb = 3
      simp only [lab]; rw [if_neg (by omega), if_neg (by omega), if_neg (by omega), if_neg (by omega), if_neg (by omega), if_pos trivial]
    · show lab rp = 4
      simp only [lab]; rw [if_neg (by omega), if_neg (by omega), if_pos trivial]
    · show lab rg = 5
      simp only [lab]; rw [if_neg (by omega), if_neg (by omega), if_neg (by omega), if_pos trivial]
    · show lab dp = 6
      simp only [lab, if_true]
    · show lab dg = 7
      simp only [lab]; rw [if_neg (by omega), if_pos trivial]
    · intro b hb; simp [s0, Value.ownBlock] at hb
  refine lop (σ := Nat × (Nat → Nat) × Value) (fun p => [int p.1]) (fun p h' => p.1 ≤ nf ∧ Lat lab p.2.1 h5 ∧ Cok p.2.1 h' { s0 with ve := p.2.2, em := List.range p.1 } nf n D rd wr ∧ Ex (Lb lab 1 8) h5 h') (fun p => nf - p.1) (0, lab, .slice none 0 0) rfl ⟨Nat.zero_le _, Lat.refl _ _, k0, Ex.refl _ _⟩ ?_
  rintro ⟨f, l6, v6⟩ h6 N ⟨hf, a6, k6, e6⟩ hN
  simp only at hf a6 k6 e6
  simp only [m_cache_New_l25, gv_zero, gv_succ]
  rw [BiP_lss]
  refine cdp (fun hlt => ?_) (fun hge => ?_)
  · refine em_push (s := { s0 with ve := v6, em := List.range f }) (f := f) k6 (by show (List.range f).length ≤ 64; rw [List.length_range]; omega) fun l7 v7 h7 a7 k7 e7 => ?_
    refine add64 (by omega) ?_
    have := hN (f + 1, l7, v7) h7 ⟨by show f + 1 ≤ nf; omega, a6.trans a7 e6.le, by show Cok l7 h7 { s0 with ve := v7, em := List.range (f + 1) } nf n D rd wr; rw [List.range_succ]; exact k7, a6.ex e6 e7⟩ (by simp only; omega)
    simpa using this
  · have hfn : f = nf := by omega
    subst hfn
    unfold m_cache_New_j40
    refine r l6 c h6 (fun b hb => (a6 b (by have := e05.le; omega)).trans (hlab b hb)) ⟨{ s0 with ve := v6, em := List.range f }, fun _ => none, rfl, rfl, k6, ?_, fun i hi => by simp [vw], fun i => by simp [pn], rfl⟩ (by have := e4.le; omega) ?_
    · refine ⟨fun i => by simp [s0], fun i g hg => by simp [s0] at hg, ?_, fun g hg => ?_, by simp [s0], fun g => by simp [s0], fun i e hE => by cases hE⟩
      · show ([] ++ List.range f ++ []).Nodup
        simp [List.nodup_range]
      · simpa [s0] using hg
    · refine ⟨by have := e05.le; have := e6.le; omega, fun b hb hm => ?_⟩
      rw [e6.eq b (by have := e05.le; omega) fun x => ?_, e05.eq b hb (fun x => x)]
      have hl := hlab b hb
      obtain ⟨x1, x2⟩ := x
      rw [hl] at x1
      simp only [dlab] at x1
      split at x1
      · rename_i he; exact hm (.inl he)
      · split at x1
        · rename_i he; exact hm (.inr he)
        · omega
end
end Go.Sg
namespace Go.Sg
open Go Vc
structure Bld (h : Heap) (v : Value) (h' : Heap) (v' : Value) : Prop where
  ex : Ex (fun b => v.ownBlock = some b) h h'
  at_ : v'.ownBlock = v.ownBlock ∨ ∃ b, v'.ownBlock = some b ∧ h.size ≤ b
theorem Bld.refl (h v) : Bld h v h v := ⟨Ex.refl _ _, .inl rfl⟩
theorem Bld.trans {h1 h2 h3 : Heap} {v1 v2 v3 : Value} (a : Bld h1 v1 h2 v2) (b : Bld h2 v2 h3 v3) : Bld h1 v1 h3 v3 := by
  refine ⟨⟨Nat.le_trans a.ex.le b.ex.le, fun x hx hm => (b.ex.eq x (Nat.lt_of_lt_of_le hx a.ex.le) fun he => ?_).trans (a.ex.eq x hx hm)⟩, ?_⟩
  · rcases a.at_ with h | ⟨c, h, hc⟩
    · exact hm (h ▸ he)
    · rw [h] at he; cases he; omega
  · rcases b.at_ with h | ⟨c, h, hc⟩
    · rcases a.at_ with h' | ⟨c, h', hc⟩
      · exact .inl (h.trans h')
      · exact .inr ⟨c, h.trans h', hc⟩
    · exact .inr ⟨c, h, Nat.le_trans a.ex.le hc⟩
theorem Bld.ext {h1 h2 : Heap} {v : Value} (e : Ext h1 h2) : Bld h1 v h2 v := ⟨e.toM, .inl rfl⟩
theorem Bld.blk {h h' : Heap} {v v' : Value} (a : Bld h v h' v') {b : Nat} {cs : List Value} (k : Blk h b cs) (hb : v.ownBlock ≠ some b) : Blk h' b cs := k.ex a.ex hb
theorem Bld.new {h h' : Heap} {v v' : Value} (a : Bld h v h' v') (hv : v.ownBlock = none) : Ext h h' := a.ex.mono fun x _ hx => by rw [hv] at hx; cases hx
theorem Bld.ne {h h' : Heap} {v v' : Value} (a : Bld h v h' v') {b : Nat} (hb : b < h.size) (hv : v.ownBlock ≠ some b) : v'.ownBlock ≠ some b := fun he => by
  rcases a.at_ with h | ⟨c, h, hc⟩
  · exact hv (h ▸ he)
  · rw [h] at he; cases he; omega
theorem Ow.anew {α : Type} [El α] {e} {n0 : Nat} {h : Heap} {v : Value} {l : List α} (o : Ow 0 e h v l) (hb : ∀ b, v.ownBlock = some b → n0 ≤ b) : Ow n0 e h v l := by
  rcases o with o | ⟨g, cap, cur, h1, h2, h3⟩
  · exact .inl o
  · exact .inr ⟨g, cap, cur, h1, hb g (by rw [h1]; rfl), h3⟩
section
variable {h : Heap} {K : Kt} {v x : Value} {l : List UInt8} {ty : TypeId}
theorem bytes_cells (s : Str) : Lib.strCells ⟨s.toArray⟩ = cells s := by
  show (s.toArray.toList.map fun b => Value.int .u8 b.toNat) = _
  induction s with
  | nil => rfl
  | cons a s ih => simp only [List.toArray_cons] at *; simpa [cells, El.enc] using ih
theorem i_byte : ∃ i, Pg.info? t_uint8 = some i ∧ i.zero = some (.int .u8 0) ∧ i.size = 1 ∧ i.bytes = 1 := by
  have h : (Pg.info? t_uint8).map (fun i => (i.zero, i.size, i.bytes)) = some (some (.int .u8 0), 1, 1) := by kernel_rfl
  cases hi : Pg.info? t_uint8 with
  | none => rw [hi] at h; cases h
  | some i =>
    rw [hi] at h
    simp only [Option.map_some, Option.some.injEq, Prod.mk.injEq] at h
    exact ⟨i, rfl, h.1, h.2.1, h.2.2⟩
theorem bld_app {U} {m : List UInt8} (o : Ow 0 t_uint8 h v l) (s : Sl U h x m) (hl : l.length + m.length ≤ 2 ^ 40) (r : ∀ v' h', Ow 0 t_uint8 h' v' (l ++ m) → Bld h v h' v' → K v' h') :
    VH Pg (Builtin.append_ #[t_S_uint8, t_S_uint8] ty #[v, x]) h K :=
  app_ob T_byte o s hl (by decide) fun v' h' o' e' hv => r v' h' o' ⟨e', hv.imp id fun h => ⟨_, h, Nat.le_refl _⟩⟩
theorem bld_str {s : Str} (o : Ow 0 t_uint8 h v l) (hl : l.length + s.length ≤ 2 ^ 40) (r : ∀ v' h', Ow 0 t_uint8 h' v' (l ++ s) → Bld h v h' v' → K v' h') :
    VH Pg (Builtin.append_ #[t_S_uint8, t_string] ty #[v, str s]) h K := by
  obtain ⟨i, hi, hz, hs, hb⟩ := i_byte
  have hts : Pg.underlying t_string = some .string := by kernel_rfl
  intro w hw
  subst hw
  have hsz : (ByteArray.mk s.toArray).size = s.length := by simp [ByteArray.size]
  have ow := o.owns w rfl
  have hz1 : El.z UInt8 = 1 := rfl
  have h63 : l.length + s.length ≤ maxLen := by simp only [maxLen]; omega
  rcases o.cases' with ⟨rfl, hl0⟩ | ⟨g, cap, rfl, _, og⟩
  · subst hl0
    have ow' : w.ownsRow w.heap.size t_uint8 1 (.slice none 0 0) ([] : List UInt8).length (cells ([] : List UInt8)) := (Ow.nil (α := UInt8) w.heap.size t_uint8 w.heap).owns w rfl
    obtain ⟨v', w', h1, h2, h3, h4⟩ := Lib.run_append_own_string (P := Pg) w w.heap.size t_S_uint8 t_string ty t_uint8 i T_byte.und hts hi hz hs hb _ _ _ ow' ⟨s.toArray⟩ (by rw [hsz]; exact h63) (by rw [hsz]; simp only [List.length_nil]; omega) (Nat.le_refl _)
    rw [hsz, bytes_cells, ← cells_append] at h2
    have o2 : Ow w.heap.size t_uint8 w'.heap v' ([] ++ s) := Ow.of h2
    refine ⟨v', w', h1, grown_kin h3, r _ _ (o2.low (Nat.zero_le _)) ⟨⟨h3.size, fun b hb _ => h3.block b hb (by simp [Value.ownBlock])⟩, ?_⟩⟩
    rcases o2.cases' with ⟨rfl, _⟩ | ⟨g, cap, rfl, hg, _⟩
    · exact .inl rfl
    · exact .inr ⟨g, rfl, hg⟩
  · obtain ⟨v', w', h1, h2, h3, h4⟩ := Lib.run_append_own_string (P := Pg) w 0 t_S_uint8 t_string ty t_uint8 i T_byte.und hts hi hz hs hb _ _ _ ow ⟨s.toArray⟩ (by rw [hsz]; exact h63) (by rw [hsz]; omega) (Nat.zero_le _)
    rw [hsz, bytes_cells, ← cells_append] at h2
    have o2 : Ow 0 t_uint8 w'.heap v' (l ++ s) := Ow.of h2
    refine ⟨v', w', h1, grown_kin h3, r _ _ o2 ⟨⟨h3.size, fun b hb hm => h3.block b hb fun he => hm he.symm⟩, ?_⟩⟩
    obtain ⟨cur, q1, q2, q3, q4, q5⟩ := og
    by_cases hr : l.length + s.length ≤ cap
    · have hh := Lib.run_append_room_string (P := Pg) w t_S_uint8 t_string ty t_uint8 i T_byte.und hts hi hs g l.length cap cur.toArray q1 ⟨s.toArray⟩ (by rw [hsz]; exact hr) (by rw [hsz]; simp only [List.size_toArray]; rw [q4, hz1]; omega)
      rw [hh] at h1
      injection h1 with h1 _
      rw [← h1]; exact .inl rfl
    · have holds : ∀ j u, (cells l)[j]? = some u → w.cell? ((⟨g, 0, none⟩ : Addr).add j) = some u := ow.cells (g := g) rfl
      have hh := Lib.run_append_grow_string (P := Pg) w t_S_uint8 t_string ty t_uint8 i (.int .u8 0) T_byte.und hts hi hz ⟨g, 0, none⟩ l.length cap (cells l) (by rw [cells_length, hs, hz1]) holds ⟨s.toArray⟩ (by rw [hsz]; omega) (by rw [hsz]; omega) (by rw [hsz, hb]; exact growslice_fits (by omega) (by omega))
      rw [hh] at h1
      injection h1 with h1 _
      rw [← h1]; exact .inr ⟨_, rfl, Nat.le_refl _⟩
theorem zc_rep (n : Nat) : ∀ i z, Pg.info? t_uint8 = some i → i.zero = some z → (Builtin.zeroCells z.cells n).toList = cells (List.replicate n (0 : UInt8)) := fun i z h1 h2 => zeroCells_rep (z_byte i z h1 h2) n
theorem bld_zer {n : Nat} (o : Ow 0 t_uint8 h v l) (hl : l.length + n ≤ 2 ^ 40) (r : ∀ v' h', Ow 0 t_uint8 h' v' (l ++ List.replicate n 0) → Bld h v h' v' → K v' h') :
    VH Pg (Builtin.append_ #[t_S_uint8, t_int] ty #[v, .int .i64 n]) h K := by
  obtain ⟨i, hi, hz, hs, hb⟩ := i_byte
  have hti : Pg.underlying t_int = some (.int .i64) := by kernel_rfl
  have hw64 : IntKind.i64.wrap (n : Int) = n := wrap64 (by omega) (by omega)
  have hn0 : ¬ (n : Int) < 0 := by omega
  have hw0 : IntKind.i64.wrap 0 = 0 := wrap64 (by omega) (by omega)
  have hn48 : ¬ (281474976710656 < (n : Int)) := by omega
  have grow : ∀ (a : Option Addr) (cap : Nat), v = .slice a l.length cap → cap < l.length + n → 0 < n → VH Pg (Builtin.append_ #[t_S_uint8, t_int] ty #[v, .int .i64 n]) h K := by
    intro a cap hv hg hn
    refine app_zeros (U := No) T_byte hti hv (o.sl fun _ _ h => h) (List.replicate n 0) (zc_rep n) (by simp) hn hg hl (by decide) fun g c h1 o1 hg1 e1 => ?_
    refine r _ _ (o1.ow' (Nat.zero_le _) (by simp)) ⟨e1.toM, .inr ⟨g, rfl, by omega⟩⟩
  rcases o.cases' with ⟨rfl, hl0⟩ | ⟨g, cap, rfl, _, og⟩
  · by_cases hn : n = 0
    · subst hn
      refine vh_pure (v := .slice none 0 0) (fun w hw => ?_) (r _ _ (by simpa using o) (Bld.refl _ _))
      simp [Builtin.append_, run_underlying T_byte.und, run_underlying hti, sizeOf, typeInfo, hi, asInt, asIntOf, hw0, hs, hb]
    · subst hl0
      exact grow none 0 rfl (by simp; omega) (by omega)
  · by_cases hr : l.length + n ≤ cap
    · have ow := og.write l.length (List.replicate n (0 : UInt8)) (Nat.le_refl _) (by simpa using hr)
      rw [List.take_length, List.drop_eq_nil_of_le (by omega), List.append_nil] at ow
      obtain ⟨cur, c1, c2, c3, c4, c5⟩ := og
      have hb' : Blk h g cur := ⟨t_uint8, c1⟩
      have hz1 : El.z UInt8 = 1 := rfl
      intro w hw
      subst hw
      have hst := run_storeCells_cells (P := Pg) g (l.length * El.z UInt8) (cells (List.replicate n (0 : UInt8))) 0 w (fun j hj => by
          rw [cell_hget, hb'.get, Nat.add_zero, List.getElem?_eq_getElem (by
            rw [cells_length, List.length_replicate, hz1] at hj
            rw [c4, hz1]; omega)]; rfl)
        (fun j _ => by rw [frozen_hfz]; exact hb'.fz _) (cells_one _)
      simp only [Nat.add_zero, hz1, Nat.mul_one] at hst
      rw [hz1, Nat.mul_one] at ow
      refine ⟨.slice (some ⟨g, 0, none⟩) (l.length + n) cap, w.setCells g l.length (cells (List.replicate n (0 : UInt8))), ?_, kin_sets _ _ _ _, ?_⟩
      · by_cases hn : n = 0
        · subst hn
          simp [Builtin.append_, run_underlying T_byte.und, run_underlying hti, sizeOf, typeInfo, hi, asInt, asIntOf, hw0, hs, hb, c2, storeCells, World.setCells]
        · have hzc := zc_rep n i _ hi hz
          simp [Builtin.append_, run_underlying T_byte.und, run_underlying hti, sizeOf, typeInfo, zeroValue, hi, asInt, asIntOf, hw64, hs, hb, hn0, hn48, hz, hn, hr, Addr.add_lit, hzc, hst]
      · rw [sets_hsets]
        refine r _ _ (ow.ow' (Nat.zero_le _) (by simp)) ⟨hsets_ex rfl, .inl rfl⟩
    · have := og.le
      exact grow _ cap rfl (by omega) (by omega)
end
end Go.Sg
set_option maxRecDepth 100000
namespace Go.Sg
open Go Vc Go.Proofs
def m_mount_Mount_Sync (x0_ : Value) (h : Heap) (K : Kt) : Prop :=
 Ca f_mount_Mount_none #[x0_] h fun x2 h1 =>
 CdP x2
 (K (.int .i64 1) h1)
 (Ca f_mount_Mount_Head #[x0_] h1 fun x4 h3 =>
 Ca f_head_Encode #[x4] h3 fun x6 h5 =>
 ExP x6 0 fun x7 =>
 ExP x6 1 fun x8 =>
 BiP .neq x8 (.int .i64 0) fun x9 =>
 CdP x9
 (K x8 h5)
 (Fl 1 x0_ h5 fun x12 =>
 Ca f_tree_Tree_Shelf #[x12] h5 fun x14 h13 =>
 Ca f_shelf_Shelf_Flush #[x14] h13 fun x16 h15 =>
 BiP .neq x16 (.int .i64 0) fun x17 =>
 CdP x17
 (K x16 h15)
 (Fl 0 x0_ h15 fun x20 =>
 Ca f_dev_Device_Write #[x20, (.int .u32 0), x7] h15 fun x22 h21 =>
 K x22 h21)))
theorem m_mount_Mount_Sync_ok {x0_ : Value} {h : Heap} {K : Kt} (hh : m_mount_Mount_Sync x0_ h K) : Ca f_mount_Mount_Sync #[x0_] h K := cv Tryz.func39 (by kernel_rfl) hh
def m_mount_Mount_Device (x0_ : Value) (h : Heap) (K : Kt) : Prop :=
 Ca f_mount_Mount_none #[x0_] h fun x2 h1 =>
 CdP x2
 (K (.pointer none) h1)
 (Fl 0 x0_ h1 fun x5 =>
 K x5 h1)
theorem m_mount_Mount_Device_ok {x0_ : Value} {h : Heap} {K : Kt} (hh : m_mount_Mount_Device x0_ h K) : Ca f_mount_Mount_Device #[x0_] h K := cv Tryz.func40 (by kernel_rfl) hh
def m_scan_Range_j12 (x0_ x1_ x3_ x6_ : Value) (h : Heap) (K : Kt) : Prop :=
 BlP bt_scan_scanner [(0, x0_), (1, x3_)] fun x13 =>
 BxP t_scan_scanner x13 h fun x15 h14 =>
 LdA 3 x6_ h14 fun x16 =>
 Ca f_scan_scanner_visit #[x15, x1_, (.int .i64 (-1)), x16, (.slice none 0 0)] h14 fun x18 h17 =>
 BiP .neq x18 (.int .i64 0) fun x19 =>
 CdP x19
 (K (.tuple #[(.slice none 0 0), x18]) h17)
 (Fl 2 x15 h17 fun x22 =>
 K (.tuple #[x22, (.int .i64 0)]) h17)
def m_scan_Range_j11 (x0_ x1_ x3_ x6_ x17_ : Value) (h : Heap) (K : Kt) : Prop :=
 CdP x17_
 (K (.tuple #[(.slice none 0 0), (.int .i64 0)]) h)
 (m_scan_Range_j12 x0_ x1_ x3_ x6_ h K)
def m_scan_Range (x0_ x1_ x2_ x3_ : Value) (h : Heap) (K : Kt) : Prop :=
 BxP t_api_Span x2_ h fun x2 h1 =>
 BiP .lss x3_ (.int .i64 1) fun x5 =>
 CdP x5
 (m_scan_Range_j11 x0_ x1_ x3_ x2 (.bool true) h1 K)
 (LdA 3 x2 h1 fun x7 =>
 Ca f_lex_Empty #[x7] h1 fun x9 h8 =>
 m_scan_Range_j11 x0_ x1_ x3_ x2 x9 h8 K)
theorem m_scan_Range_ok {x0_ x1_ x2_ x3_ : Value} {h : Heap} {K : Kt} (hh : m_scan_Range x0_ x1_ x2_ x3_ h K) : Ca f_scan_Range #[x0_, x1_, x2_, x3_] h K := cv Tryz.func59 (by kernel_rfl) hh
def m_mount_Mount_Tree (x0_ : Value) (h : Heap) (K : Kt) : Prop :=
 Ca f_mount_Mount_none #[x0_] h fun x2 h1 =>
 CdP x2
 (K (.pointer none) h1)
 (Fl 1 x0_ h1 fun x5 =>
 K x5 h1)
theorem m_mount_Mount_Tree_ok {x0_ : Value} {h : Heap} {K : Kt} (hh : m_mount_Mount_Tree x0_ h K) : Ca f_mount_Mount_Tree #[x0_] h K := cv Tryz.func60 (by kernel_rfl) hh
def m_tree_Tree_Shelf (x0_ : Value) (h : Heap) (K : Kt) : Prop :=
 Ca f_tree_Tree_none #[x0_] h fun x2 h1 =>
 CdP x2
 (K (.pointer none) h1)
 (Fl 0 x0_ h1 fun x5 =>
 K x5 h1)
theorem m_tree_Tree_Shelf_ok {x0_ : Value} {h : Heap} {K : Kt} (hh : m_tree_Tree_Shelf x0_ h K) : Ca f_tree_Tree_Shelf #[x0_] h K := cv Tryz.func61 (by kernel_rfl) hh
def m_tree_Tree_Root (x0_ : Value) (h : Heap) (K : Kt) : Prop :=
 Ca f_tree_Tree_none #[x0_] h fun x2 h1 =>
 CdP x2
 (K (.int .u32 0) h1)
 (Fl 1 x0_ h1 fun x5 =>
 K x5 h1)
theorem m_tree_Tree_Root_ok {x0_ : Value} {h : Heap} {K : Kt} (hh : m_tree_Tree_Root x0_ h K) : Ca f_tree_Tree_Root #[x0_] h K := cv Tryz.func62 (by kernel_rfl) hh
def m_mount_Format (x0_ : Value) (h : Heap) (K : Kt) : Prop :=
 BxP t_api_Config x0_ h fun x2 h1 =>
 LdA 8 x2 h1 fun x3 =>
 Ca f_conf_Check #[x3] h1 fun x5 h4 =>
 BiP .neq x5 (.int .i64 0) fun x6 =>
 CdP x6
 (K (.tuple #[(.pointer none), x5]) h4)
 (Fv 0 x2 h4 fun x8 =>
 Fv 1 x2 h4 fun x10 =>
 Ca f_dev_New #[x8, x10] h4 fun x12 h11 =>
 ExP x12 0 fun x13 =>
 ExP x12 1 fun x14 =>
 BiP .neq x14 (.int .i64 0) fun x15 =>
 CdP x15
 (K (.tuple #[(.pointer none), x14]) h11)
 (LdA 8 x2 h11 fun x16 =>
 Ca f_shelf_New #[x16, x13] h11 fun x18 h17 =>
 ExP x18 0 fun x19 =>
 ExP x18 1 fun x20 =>
 BiP .neq x20 (.int .i64 0) fun x21 =>
 CdP x21
 (K (.tuple #[(.pointer none), x20]) h17)
 (Ca f_tree_New #[x19] h17 fun x23 h22 =>
 ExP x23 0 fun x24 =>
 ExP x23 1 fun x25 =>
 BiP .neq x25 (.int .i64 0) fun x26 =>
 CdP x26
 (K (.tuple #[(.pointer none), x25]) h22)
 (BlP bt_mount_Mount [(0, x13), (1, x24)] fun x27 =>
 BxP t_mount_Mount x27 h22 fun x29 h28 =>
 Ca f_mount_Mount_Sync #[x29] h28 fun x31 h30 =>
 BiP .neq x31 (.int .i64 0) fun x32 =>
 CdP x32
 (K (.tuple #[(.pointer none), x31]) h30)
 (K (.tuple #[x29, (.int .i64 0)]) h30)))))
theorem m_mount_Format_ok {x0_ : Value} {h : Heap} {K : Kt} (hh : m_mount_Format x0_ h K) : Ca f_mount_Format #[x0_] h K := cv Tryz.func64 (by kernel_rfl) hh
def m_mount_Mount_none_j11 (x2_ : Value) (h : Heap) (K : Kt) : Prop :=
 K x2_ h
def m_mount_Mount_none (x0_ : Value) (h : Heap) (K : Kt) : Prop :=
 EqP .eql t_P_mount_Mount (.tmp 3) (.const (.pointer none)) x0_ (.pointer none) h fun x3 h2 =>
 CdP x3
 (m_mount_Mount_none_j11 (.bool true) h2 K)
 (Fl 1 x0_ h2 fun x7 =>
 EqP .eql t_P_tree_Tree (.tmp 9) (.const (.pointer none)) x7 (.pointer none) h2 fun x9 h8 =>
 m_mount_Mount_none_j11 x9 h8 K)
theorem m_mount_Mount_none_ok {x0_ : Value} {h : Heap} {K : Kt} (hh : m_mount_Mount_none x0_ h K) : Ca f_mount_Mount_none #[x0_] h K := cv Tryz.func80 (by kernel_rfl) hh
def m_mount_Mount_Head (x0_ : Value) (h : Heap) (K : Kt) : Prop :=
 AlP t_head_Head zt_head_Head h fun x2 h1 =>
 Ca f_mount_Mount_none #[x0_] h1 fun x4 h3 =>
 CdP x4
 (BlP bt_head_Head [] fun x5 =>
 StA 10 x2 x5 h3 fun h6 =>
 LdA 10 x2 h6 fun x7 =>
 K x7 h6)
 (∃ X9 : XS,
 NilP x0_ fun x10 =>
 FaP (some 1) x10 fun x11 =>
 LdX X9 x11 h3 fun x12 =>
 NilP x0_ fun x13 =>
 FaP (some 1) x13 fun x14 =>
 LdX X9 x14 h3 fun x15 =>
 NilP x0_ fun x16 =>
 FaP (some 1) x16 fun x17 =>
 LdX X9 x17 h3 fun x18 =>
 Ca f_tree_Tree_Shelf #[x12] h3 fun x20 h19 =>
 Agr X9 h3 h19 ∧ (Ca f_shelf_Shelf_Config #[x20] h19 fun x22 h21 =>
 Agr X9 h3 h21 ∧ (Ca f_tree_Tree_Root #[x15] h21 fun x24 h23 =>
 Agr X9 h3 h23 ∧ (Ca f_tree_Tree_Height #[x18] h23 fun x26 h25 =>
 True ∧ (BlP bt_head_Head [(0, x22), (1, x24), (2, x26)] fun x27 =>
 StA 10 x2 x27 h25 fun h28 =>
 True ∧ (LdA 10 x2 h28 fun x29 =>
 K x29 h28))))))
theorem m_mount_Mount_Head_ok {x0_ : Value} {h : Heap} {K : Kt} (hh : m_mount_Mount_Head x0_ h K) : Ca f_mount_Mount_Head #[x0_] h K := cv Tryz.func82 (by kernel_rfl) hh
def m_mount_Open_j39 (x0_ x8_ : Value) (h : Heap) (K : Kt) : Prop :=
 BlP bt_mount_Mount [(0, x0_), (1, x8_)] fun x40 =>
 BxP t_mount_Mount x40 h fun x42 h41 =>
 K (.tuple #[x42, (.int .i64 0)]) h41
def m_mount_Open_j38 (x0_ x8_ x48_ : Value) (h : Heap) (K : Kt) : Prop :=
 CdP x48_
 (K (.tuple #[(.pointer none), (.int .i64 12)]) h)
 (m_mount_Open_j39 x0_ x8_ h K)
def m_mount_Open (x0_ : Value) (h : Heap) (K : Kt) : Prop :=
 Ca f_dev_Device_Read #[x0_, (.int .u32 0)] h fun x2 h1 =>
 ExP x2 0 fun x3 =>
 ExP x2 1 fun x4 =>
 BiP .neq x4 (.int .i64 0) fun x5 =>
 CdP x5
 (K (.tuple #[(.pointer none), x4]) h1)
 (Ca f_head_Decode #[x3] h1 fun x7 h6 =>
 ExP x7 0 fun x8 =>
 ExP x7 1 fun x9 =>
 AlP t_head_Head zt_head_Head h6 fun x11 h10 =>
 StA 10 x11 x8 h10 fun h12 =>
 BiP .neq x9 (.int .i64 0) fun x13 =>
 CdP x13
 (K (.tuple #[(.pointer none), (.int .i64 12)]) h12)
 (Fva 0 8 x11 h12 fun x15 =>
 Ca f_shelf_New #[x15, x0_] h12 fun x17 h16 =>
 ExP x17 0 fun x18 =>
 ExP x17 1 fun x19 =>
 BiP .neq x19 (.int .i64 0) fun x20 =>
 CdP x20
 (K (.tuple #[(.pointer none), (.int .i64 12)]) h16)
 (Fv 8 x11 h16 fun x22 =>
 Ca f_tree_Open #[x18, x22] h16 fun x24 h23 =>
 ExP x24 0 fun x25 =>
 ExP x24 1 fun x26 =>
 ∃ X29 : XS,
 BiP .neq x26 (.int .i64 0) fun x30 =>
 CdP x30
 (m_mount_Open_j38 x0_ x25 (.bool true) h23 K)
 (FaP (some 9) x11 fun x32 =>
 LdX X29 x32 h23 fun x33 =>
 Ca f_tree_Tree_Height #[x25] h23 fun x35 h34 =>
 Agr X29 h23 h34 ∧ (BiP .neq x35 x33 fun x36 =>
 m_mount_Open_j38 x0_ x25 x36 h34 K)))))
theorem m_mount_Open_ok {x0_ : Value} {h : Heap} {K : Kt} (hh : m_mount_Open x0_ h K) : Ca f_mount_Open #[x0_] h K := cv Tryz.func91 (by kernel_rfl) hh
def m_scan_scanner_visit_j101 (x0_ x4_ x8_ x10_ x11_ x83_ x84_ x85_ : Value) (h : Heap) (nx71 : Nt) (K : Kt) : Prop :=
 BiP .add x85_ (.int .i64 1) fun x102 =>
 nx71 [x10_, x102] h
def m_scan_scanner_visit_j103 (h : Heap) (K : Kt) : Prop :=
 K (.int .i64 0) h
def m_scan_scanner_visit_l70 (vs : List Value) (x0_ x4_ x8_ x11_ x83_ x84_ : Value) (h : Heap) (nx71 : Nt) (K : Kt) : Prop :=
 BiP .lss (gv vs 1) x84_ fun x72 =>
 CdP x72
 (Ei 1 x83_ (gv vs 1) h fun x75 =>
 Fv 2 x11_ h fun x77 =>
 LdA 3 x8_ h fun x78 =>
 Ca f_fan_Span #[x77, (gv vs 1), x78] h fun x80 h79 =>
 ExP x80 0 fun x81 =>
 ExP x80 1 fun x82 =>
 AlP t_api_Span zt_api_Span h79 fun x84 h83 =>
 StA 3 x84 x81 h83 fun h85 =>
 UnP .not x82 fun x86 =>
 CdP x86
 (m_scan_scanner_visit_j101 x0_ x4_ x8_ (gv vs 0) x11_ x83_ x84_ (gv vs 1) h85 nx71 K)
 (Ca f_scan_scanner_full #[x0_] h85 fun x88 h87 =>
 CdP x88
 (K (.int .i64 0) h87)
 (∃ X90 : XS,
 FaP (some 0) x11_ fun x91 =>
 LdX X90 x91 h87 fun x92 =>
 BiP .sub x92 (.int .i64 1) fun x93 =>
 LaX X90 3 x84 h87 fun x94 =>
 LaX X90 3 x84 h87 fun x95 =>
 Ca f_buf_Part #[x4_, x95] h87 fun x97 h96 =>
 Agr X90 h87 h96 ∧ (Ca f_scan_scanner_visit #[x0_, x75, x93, x94, x97] h96 fun x99 h98 =>
 True ∧ (BiP .neq x99 (.int .i64 0) fun x100 =>
 CdP x100
 (K x99 h98)
 (m_scan_scanner_visit_j101 x0_ x4_ x8_ (gv vs 0) x11_ x83_ x84_ (gv vs 1) h98 nx71 K))))))
 (m_scan_scanner_visit_j103 h K)
def m_scan_scanner_visit_j23 (x0_ x4_ x8_ x11_ : Value) (h : Heap) (K : Kt) : Prop :=
 Fv 0 x11_ h fun x25 =>
 BiP .eql x25 (.int .i64 0) fun x26 =>
 CdP x26
 (Fv 4 x11_ h fun x28 =>
 LdA 3 x8_ h fun x29 =>
 Fv 4 x11_ h fun x31 =>
 LenP (some true) x31 fun x32 =>
 Ca f_leaf_Part #[x28, x29, x32] h fun x34 h33 =>
 Ca f_leaf_Apply #[x34, x4_] h33 fun x36 h35 =>
 ∃ X38 : XS,
 NilP x0_ fun x39 =>
 FaP (some 2) x39 fun x40 =>
 LdX X38 x40 h35 fun x41 =>
 LenP (some true) x36 fun x42 =>
 NilP x0_ fun x43 =>
 FaP (some 1) x43 fun x44 =>
 LdX X38 x44 h35 fun x45 =>
 NilP x0_ fun x46 =>
 FaP (some 2) x46 fun x47 =>
 LdX X38 x47 h35 fun x48 =>
 LenP (some true) x48 fun x49 =>
 BiP .sub x45 x49 fun x50 =>
 VH Pg (Builtin.min_ #[t_int, t_int] t_int #[x42, x50]) h35 fun x52 h51 =>
 Agr X38 h35 h51 ∧ (SlP 2 x36 none (some x52) fun x53 =>
 VH Pg (Builtin.append_ #[t_S_api_Pair, t_S_api_Pair] t_S_api_Pair #[x41, x53]) h51 fun x55 h54 =>
 True ∧ (Fs 2 x0_ x55 h54 fun h58 =>
 True ∧ (K (.int .i64 0) h58))))
 (Fv 3 x11_ h fun x60 =>
 LdA 3 x8_ h fun x61 =>
 Ca f_buf_Part #[x60, x61] h fun x63 h62 =>
 Ca f_buf_Merge #[x4_, x63] h62 fun x65 h64 =>
 Fv 1 x11_ h64 fun x68 =>
 LenP (some true) x68 fun x69 =>
 LoP (fun vt h nx71 => m_scan_scanner_visit_l70 vt x0_ x65 x8_ x11_ x68 x69 h nx71 K) [(.int .i64 0), (.int .i64 0)] h64)
def m_scan_scanner_visit_j22 (x0_ x4_ x8_ x11_ x32_ : Value) (h : Heap) (K : Kt) : Prop :=
 CdP x32_
 (K (.int .i64 12) h)
 (m_scan_scanner_visit_j23 x0_ x4_ x8_ x11_ h K)
def m_scan_scanner_visit (x0_ x1_ x2_ x3_ x4_ : Value) (h : Heap) (K : Kt) : Prop :=
 BxP t_api_Span x3_ h fun x2 h1 =>
 Fl 0 x0_ h1 fun x5 =>
 Ca f_shelf_Shelf_Load #[x5, x1_] h1 fun x7 h6 =>
 ExP x7 0 fun x8 =>
 ExP x7 1 fun x9 =>
 AlP t_api_Node zt_api_Node h6 fun x11 h10 =>
 StA 5 x11 x8 h10 fun h12 =>
 BiP .neq x9 (.int .i64 0) fun x14 =>
 CdP x14
 (K x9 h12)
 (BiP .geq x2_ (.int .i64 0) fun x16 =>
 CdP x16
 (Fv 0 x11 h12 fun x18 =>
 BiP .neq x18 x2_ fun x19 =>
 m_scan_scanner_visit_j22 x0_ x4_ x2 x11 x19 h12 K)
 (m_scan_scanner_visit_j22 x0_ x4_ x2 x11 (.bool false) h12 K))
theorem m_scan_scanner_visit_ok {x0_ x1_ x2_ x3_ x4_ : Value} {h : Heap} {K : Kt} (hh : m_scan_scanner_visit x0_ x1_ x2_ x3_ x4_ h K) : Ca f_scan_scanner_visit #[x0_, x1_, x2_, x3_, x4_] h K := cv Tryz.func105 (by kernel_rfl) hh
def m_tree_Tree_none_j11 (x2_ : Value) (h : Heap) (K : Kt) : Prop :=
 K x2_ h
def m_tree_Tree_none (x0_ : Value) (h : Heap) (K : Kt) : Prop :=
 EqP .eql t_P_tree_Tree (.tmp 3) (.const (.pointer none)) x0_ (.pointer none) h fun x3 h2 =>
 CdP x3
 (m_tree_Tree_none_j11 (.bool true) h2 K)
 (Fl 0 x0_ h2 fun x7 =>
 EqP .eql t_P_shelf_Shelf (.tmp 9) (.const (.pointer none)) x7 (.pointer none) h2 fun x9 h8 =>
 m_tree_Tree_none_j11 x9 h8 K)
theorem m_tree_Tree_none_ok {x0_ : Value} {h : Heap} {K : Kt} (hh : m_tree_Tree_none x0_ h K) : Ca f_tree_Tree_none #[x0_] h K := cv Tryz.func106 (by kernel_rfl) hh
def m_tree_New (x0_ : Value) (h : Heap) (K : Kt) : Prop :=
 BlP bt_api_Node [] fun x1 =>
 Ca f_shelf_Shelf_Make #[x0_, x1] h fun x3 h2 =>
 ExP x3 0 fun x4 =>
 ExP x3 1 fun x5 =>
 BiP .neq x5 (.int .i64 0) fun x6 =>
 CdP x6
 (K (.tuple #[(.pointer none), x5]) h2)
 (BlP bt_tree_Tree [(0, x0_), (1, x4)] fun x7 =>
 BxP t_tree_Tree x7 h2 fun x9 h8 =>
 Ca f_shelf_Shelf_Keep #[x0_, x4] h8 fun x11 h10 =>
 K (.tuple #[x9, x11]) h10)
theorem m_tree_New_ok {x0_ : Value} {h : Heap} {K : Kt} (hh : m_tree_New x0_ h K) : Ca f_tree_New #[x0_] h K := cv Tryz.func114 (by kernel_rfl) hh
def m_tree_Tree_Height (x0_ : Value) (h : Heap) (K : Kt) : Prop :=
 Ca f_tree_Tree_none #[x0_] h fun x2 h1 =>
 CdP x2
 (K (.int .i64 0) h1)
 (Fl 2 x0_ h1 fun x5 =>
 BiP .add x5 (.int .i64 1) fun x6 =>
 K x6 h1)
theorem m_tree_Tree_Height_ok {x0_ : Value} {h : Heap} {K : Kt} (hh : m_tree_Tree_Height x0_ h K) : Ca f_tree_Tree_Height #[x0_] h K := cv Tryz.func128 (by kernel_rfl) hh
def m_tree_Open_j51 (x4_ x5_ : Value) (h : Heap) (K : Kt) : Prop :=
 K (.tuple #[x4_, x5_]) h
def m_tree_Open_j29 (x0_ x1_ : Value) (h : Heap) (K : Kt) : Prop :=
 Ca f_shelf_Shelf_Load #[x0_, x1_] h fun x31 h30 =>
 ExP x31 0 fun x32 =>
 ExP x31 1 fun x33 =>
 AlP t_api_Node zt_api_Node h30 fun x35 h34 =>
 StA 5 x35 x32 h34 fun h36 =>
 BiP .neq x33 (.int .i64 0) fun x37 =>
 CdP x37
 (K (.tuple #[(.pointer none), x33]) h36)
 (∃ X39 : XS,
 FaP (some 0) x35 fun x40 =>
 LdX X39 x40 h36 fun x41 =>
 BlP bt_tree_Tree [(0, x0_), (1, x1_), (2, x41)] fun x42 =>
 (BxP t_tree_Tree x42 h36 fun x44 h43 =>
 True ∧ (Ca f_shelf_Shelf_Keep #[x0_, x1_] h43 fun x46 h45 =>
 Agr X39 h36 h45 ∧ (m_tree_Open_j51 x44 x46 h45 K))) ∧
 (Ca f_shelf_Shelf_Keep #[x0_, x1_] h36 fun x48 h47 =>
 Agr X39 h36 h47 ∧ (BxP t_tree_Tree x42 h47 fun x50 h49 =>
 True ∧ (m_tree_Open_j51 x50 x48 h49 K))))
def m_tree_Open_l20 (vs : List Value) (x0_ x1_ x32_ x33_ : Value) (h : Heap) (nx21 : Nt) (K : Kt) : Prop :=
 BiP .lss (gv vs 0) x33_ fun x22 =>
 CdP x22
 (Ei 1 x32_ (gv vs 0) h fun x25 =>
 Ca f_shelf_Shelf_Mark #[x0_, x25] h fun x27 h26 =>
 BiP .add (gv vs 0) (.int .i64 1) fun x28 =>
 nx21 [x28] h26)
 (m_tree_Open_j29 x0_ x1_ h K)
def m_tree_Open_j17 (x0_ x1_ x6_ : Value) (h : Heap) (K : Kt) : Prop :=
 LenP (some true) x6_ fun x19 =>
 LoP (fun vt h nx21 => m_tree_Open_l20 vt x0_ x1_ x6_ x19 h nx21 K) [(.int .i64 0)] h
def m_tree_Open_l8 (vs : List Value) (x0_ x1_ x6_ x22_ x23_ : Value) (h : Heap) (nx9 : Nt) (K : Kt) : Prop :=
 BiP .lss (gv vs 2) x23_ fun x10 =>
 CdP x10
 (Ei 1 x22_ (gv vs 2) h fun x13 =>
 Ca f_shelf_Shelf_Has #[x0_, x13] h fun x15 h14 =>
 CdP x15
 (K (.tuple #[(.pointer none), (.int .i64 10)]) h14)
 (BiP .add (gv vs 2) (.int .i64 1) fun x16 =>
 nx9 [(gv vs 0), (gv vs 1), x16] h14))
 (m_tree_Open_j17 x0_ x1_ x6_ h K)
def m_tree_Open (x0_ x1_ : Value) (h : Heap) (K : Kt) : Prop :=
 Ca f_walk_Blocks #[x0_, x1_] h fun x2 h1 =>
 ExP x2 0 fun x3 =>
 ExP x2 1 fun x4 =>
 BiP .neq x4 (.int .i64 0) fun x5 =>
 CdP x5
 (K (.tuple #[(.pointer none), x4]) h1)
 (LenP (some true) x3 fun x7 =>
 LoP (fun vt h nx9 => m_tree_Open_l8 vt x0_ x1_ x3 x3 x7 h nx9 K) [(.pointer none), (.int .i64 0), (.int .i64 0)] h1)
theorem m_tree_Open_ok {x0_ x1_ : Value} {h : Heap} {K : Kt} (hh : m_tree_Open x0_ x1_ h K) : Ca f_tree_Open #[x0_, x1_] h K := cv Tryz.func136 (by kernel_rfl) hh
def m_tree_Tree_Put_j32 (x0_ x3_ x5_ x6_ : Value) (h : Heap) (K : Kt) : Prop :=
 BiP .neq x6_ (.int .i64 0) fun x33 =>
 CdP x33
 (K x6_ h)
 (LdA 5 x5_ h fun x34 =>
 LdA 3 x3_ h fun x35 =>
 Ca f_tree_Tree_direct #[x0_, x34, x35] h fun x37 h36 =>
 ExP x37 0 fun x38 =>
 ExP x37 1 fun x39 =>
 ExP x37 2 fun x40 =>
 AlP t_api_Node zt_api_Node h36 fun x42 h41 =>
 StA 5 x42 x39 h41 fun h43 =>
 BiP .neq x40 (.int .i64 0) fun x45 =>
 CdP x45
 (K x40 h43)
 (CdP x38
 (NilP x0_ fun x46 =>
 FaP (some 3) x46 fun x47 =>
 Fv 0 x47 h43 fun x49 =>
 BiP .add x49 (.int .i64 1) fun x50 =>
 NilP x0_ fun x51 =>
 FaP (some 3) x51 fun x52 =>
 FaP (some 0) x52 fun x53 =>
 StP x53 x50 h43 fun h54 =>
 K (.int .i64 0) h54)
 (∃ X55 : XS,
 NilP x0_ fun x56 =>
 FaP (some 0) x56 fun x57 =>
 LdX X55 x57 h43 fun x58 =>
 FaP (some 0) x5_ fun x59 =>
 LdX X55 x59 h43 fun x60 =>
 BiP .add x60 (.int .i64 3) fun x61 =>
 Ca f_shelf_Shelf_Left #[x58] h43 fun x63 h62 =>
 Agr X55 h43 h62 ∧ (BiP .lss x63 x61 fun x64 =>
 CdP x64
 (K (.int .i64 11) h62)
 (Fv 0 x5_ h62 fun x66 =>
 BiP .eql x66 (.int .i64 0) fun x67 =>
 CdP x67
 (LdA 5 x42 h62 fun x68 =>
 Ca f_tree_Tree_raise #[x0_, x68] h62 fun x70 h69 =>
 BiP .neq x70 (.int .i64 0) fun x71 =>
 CdP x71
 (K x70 h69)
 (NilP x0_ fun x72 =>
 FaP (some 3) x72 fun x73 =>
 Fv 0 x73 h69 fun x75 =>
 BiP .add x75 (.int .i64 1) fun x76 =>
 NilP x0_ fun x77 =>
 FaP (some 3) x77 fun x78 =>
 FaP (some 0) x78 fun x79 =>
 StP x79 x76 h69 fun h80 =>
 K (.int .i64 0) h80))
 (LdA 3 x3_ h62 fun x81 =>
 Ca f_tree_Tree_drain #[x0_, x81] h62 fun x83 h82 =>
 K x83 h82))))))
def m_tree_Tree_Put (x0_ x1_ : Value) (h : Heap) (K : Kt) : Prop :=
 BxP t_api_Msg x1_ h fun x2 h1 =>
 Ca f_tree_Tree_none #[x0_] h1 fun x5 h4 =>
 CdP x5
 (K (.int .i64 1) h4)
 (LdA 3 x2 h4 fun x6 =>
 Ca f_tree_Tree_may #[x0_, x6] h4 fun x8 h7 =>
 UnP .not x8 fun x9 =>
 CdP x9
 (K (.int .i64 2) h7)
 (∃ X11 : XS,
 NilP x0_ fun x12 =>
 FaP (some 0) x12 fun x13 =>
 LdX X11 x13 h7 fun x14 =>
 NilP x0_ fun x15 =>
 FaP (some 1) x15 fun x16 =>
 LdX X11 x16 h7 fun x17 =>
 (Ca f_shelf_Shelf_Load #[x14, x17] h7 fun x19 h18 =>
 True ∧ (ExP x19 0 fun x20 =>
 ExP x19 1 fun x21 =>
 AlP t_api_Node zt_api_Node h18 fun x23 h22 =>
 Agr X11 h7 h22 ∧ (StA 5 x23 x20 h22 fun h24 =>
 True ∧ (m_tree_Tree_Put_j32 x0_ x2 x23 x21 h24 K)))) ∧
 (AlP t_api_Node zt_api_Node h7 fun x26 h25 =>
 Agr X11 h7 h25 ∧ (Ca f_shelf_Shelf_Load #[x14, x17] h25 fun x28 h27 =>
 True ∧ (ExP x28 0 fun x29 =>
 ExP x28 1 fun x30 =>
 StA 5 x26 x29 h27 fun h31 =>
 True ∧ (m_tree_Tree_Put_j32 x0_ x2 x26 x30 h31 K))))))
theorem m_tree_Tree_Put_ok {x0_ x1_ : Value} {h : Heap} {K : Kt} (hh : m_tree_Tree_Put x0_ x1_ h K) : Ca f_tree_Tree_Put #[x0_, x1_] h K := cv Tryz.func166 (by kernel_rfl) hh
def m_walk_Blocks (x0_ x1_ : Value) (h : Heap) (K : Kt) : Prop :=
 AlP t_S_uint32 zt_S_uint32 h fun x2 h1 =>
 Ca f_walk_All #[x0_, x1_, (.func (.func f_walk_Blocks_1) #[] #[x2])] h1 fun x4 h3 =>
 BiP .neq x4 (.int .i64 0) fun x5 =>
 CdP x5
 (K (.tuple #[(.slice none 0 0), x4]) h3)
 (LdP x2 h3 fun x6 =>
 Ca f_slices_Sort_uint32 #[x6] h3 fun x8 h7 =>
 LdP x2 h7 fun x9 =>
 K (.tuple #[x9, (.int .i64 0)]) h7)
theorem m_walk_Blocks_ok {x0_ x1_ : Value} {h : Heap} {K : Kt} (hh : m_walk_Blocks x0_ x1_ h K) : Ca f_walk_Blocks #[x0_, x1_] h K := cv Tryz.func180 (by kernel_rfl) hh
def m_tree_Tree_may_j38 (x4_ : Value) (h : Heap) (K : Kt) : Prop :=
 K x4_ h
def m_tree_Tree_may (x0_ x1_ : Value) (h : Heap) (K : Kt) : Prop :=
 BxP t_api_Msg x1_ h fun x2 h1 =>
 Fl 0 x0_ h1 fun x5 =>
 Ca f_shelf_Shelf_Config #[x5] h1 fun x7 h6 =>
 AlP t_api_Config zt_api_Config h6 fun x9 h8 =>
 StA 8 x9 x7 h8 fun h10 =>
 LdA 8 x9 h10 fun x12 =>
 Fv 0 x2 h10 fun x14 =>
 Ca f_node_Key #[x12, x14] h10 fun x16 h15 =>
 CdP x16
 (Fv 2 x2 h15 fun x18 =>
 LenP (some false) x18 fun x19 =>
 Fv 7 x9 h15 fun x21 =>
 BiP .leq x19 x21 fun x22 =>
 CdP x22
 (Fv 1 x2 h15 fun x25 =>
 CdP x25
 (Fv 2 x2 h15 fun x27 =>
 BiP .neq x27 (.string { data := #[] }) fun x28 =>
 UnP .not x28 fun x30 =>
 m_tree_Tree_may_j38 x30 h15 K)
 (UnP .not (.bool false) fun x33 =>
 m_tree_Tree_may_j38 x33 h15 K))
 (undef = undef ∧ (undef = undef ∧ (undef = undef ∧ (m_tree_Tree_may_j38 (.bool false) h15 K)))))
 (undef = undef ∧ (undef = undef ∧ (undef = undef ∧ (m_tree_Tree_may_j38 (.bool false) h15 K))))
theorem m_tree_Tree_may_ok {x0_ x1_ : Value} {h : Heap} {K : Kt} (hh : m_tree_Tree_may x0_ x1_ h K) : Ca f_tree_Tree_may #[x0_, x1_] h K := cv Tryz.func220 (by kernel_rfl) hh
def m_tree_Tree_direct_j62 (x0_ x4_ x7_ x10_ : Value) (h : Heap) (K : Kt) : Prop :=
 UnP .not x10_ fun x63 =>
 CdP x63
 (LdA 5 x4_ h fun x64 =>
 StA 5 x7_ x64 h fun h65 =>
 True ∧ (LdA 5 x7_ h65 fun x66 =>
 K (.tuple #[(.bool false), x66, (.int .i64 0)]) h65))
 (∃ X68 : XS,
 LaX X68 5 x4_ h fun x69 =>
 NilP x0_ fun x70 =>
 FaP (some 0) x70 fun x71 =>
 LdX X68 x71 h fun x72 =>
 NilP x0_ fun x73 =>
 FaP (some 1) x73 fun x74 =>
 LdX X68 x74 h fun x75 =>
 LaX X68 5 x4_ h fun x76 =>
 Ca f_shelf_Shelf_Save #[x72, x75, x76] h fun x78 h77 =>
 Agr X68 h h77 ∧ (StA 5 x7_ x69 h77 fun h79 =>
 True ∧ (LdA 5 x7_ h79 fun x80 =>
 K (.tuple #[(.bool true), x80, x78]) h79)))
def m_tree_Tree_direct_j54 (x0_ x4_ x5_ x7_ x10_ : Value) (h : Heap) (K : Kt) : Prop :=
 CdP x10_
 (Fv 3 x4_ h fun x56 =>
 LdA 3 x5_ h fun x57 =>
 Ca f_buf_Put #[x56, x57] h fun x59 h58 =>
 FaP (some 3) x4_ fun x60 =>
 StP x60 x59 h58 fun h61 =>
 m_tree_Tree_direct_j62 x0_ x4_ x7_ x10_ h61 K)
 (m_tree_Tree_direct_j62 x0_ x4_ x7_ x10_ h K)
def m_tree_Tree_direct (x0_ x1_ x2_ : Value) (h : Heap) (K : Kt) : Prop :=
 BxP t_api_Node x1_ h fun x2 h1 =>
 BxP t_api_Msg x2_ h1 fun x4 h3 =>
 AlP t_api_Node zt_api_Node h3 fun x6 h5 =>
 Fl 0 x0_ h5 fun x9 =>
 Ca f_shelf_Shelf_Config #[x9] h5 fun x11 h10 =>
 AlP t_api_Config zt_api_Config h10 fun x13 h12 =>
 StA 8 x13 x11 h12 fun h14 =>
 Fv 0 x2 h14 fun x17 =>
 BiP .eql x17 (.int .i64 0) fun x18 =>
 CdP x18
 (Fv 4 x2 h14 fun x20 =>
 LdA 3 x4 h14 fun x21 =>
 BsP st_S_api_Msg 1 [(0, x21)] h14 fun x23 h22 =>
 Ca f_leaf_Apply #[x20, x23] h22 fun x25 h24 =>
 FaP (some 4) x2 fun x26 =>
 StP x26 x25 h24 fun h27 =>
 Fv 4 x2 h27 fun x29 =>
 LenP (some true) x29 fun x30 =>
 Fv 5 x13 h27 fun x32 =>
 BiP .leq x30 x32 fun x33 =>
 m_tree_Tree_direct_j62 x0_ x2 x6 x33 h27 K)
 (Fv 3 x2 h14 fun x35 =>
 Fv 0 x4 h14 fun x37 =>
 Ca f_buf_Find #[x35, x37] h14 fun x39 h38 =>
 ExP x39 0 fun x40 =>
 ExP x39 1 fun x41 =>
 AlP t_api_Msg zt_api_Msg h38 fun x43 h42 =>
 StA 3 x43 x40 h42 fun h44 =>
 CdP x41
 (m_tree_Tree_direct_j54 x0_ x2 x4 x6 (.bool true) h44 K)
 (Fv 3 x2 h44 fun x48 =>
 LenP (some true) x48 fun x49 =>
 Fv 4 x13 h44 fun x51 =>
 BiP .lss x49 x51 fun x52 =>
 m_tree_Tree_direct_j54 x0_ x2 x4 x6 x52 h44 K))
theorem m_tree_Tree_direct_ok {x0_ x1_ x2_ : Value} {h : Heap} {K : Kt} (hh : m_tree_Tree_direct x0_ x1_ x2_ h K) : Ca f_tree_Tree_direct #[x0_, x1_, x2_] h K := cv Tryz.func221 (by kernel_rfl) hh
def m_walk_All (x0_ x1_ x2_ : Value) (h : Heap) (K : Kt) : Prop :=
 VH Pg (Instr.makeMap t_M_uint32_bool none) h fun x2 h1 =>
 BlP bt_walk_walker [(0, x0_), (1, x2), (2, x2_)] fun x3 =>
 BxP t_walk_walker x3 h1 fun x5 h4 =>
 Ca f_lex_All #[] h4 fun x7 h6 =>
 Ca f_walk_walker_visit #[x5, x1_, (.int .i64 (-1)), x7] h6 fun x9 h8 =>
 K x9 h8
theorem m_walk_All_ok {x0_ x1_ x2_ : Value} {h : Heap} {K : Kt} (hh : m_walk_All x0_ x1_ x2_ h K) : Ca f_walk_All #[x0_, x1_, x2_] h K := cv Tryz.func231 (by kernel_rfl) hh
def m_walk_Blocks_1 (x0_ x1_ x2_ x3_ : Value) (h : Heap) (K : Kt) : Prop :=
 BxP t_api_Node x1_ h fun x2 h1 =>
 BxP t_api_Span x2_ h1 fun x4 h3 =>
 LdP x3_ h3 fun x5 =>
 BsP st_S_uint32 1 [(0, x0_)] h3 fun x7 h6 =>
 VH Pg (Builtin.append_ #[t_S_uint32, t_S_uint32] t_S_uint32 #[x5, x7]) h6 fun x9 h8 =>
 StP x3_ x9 h8 fun h10 =>
 K (.bool true) h10
theorem m_walk_Blocks_1_ok {x0_ x1_ x2_ x3_ : Value} {h : Heap} {K : Kt} (hh : m_walk_Blocks_1 x0_ x1_ x2_ x3_ h K) : Ca f_walk_Blocks_1 #[x0_, x1_, x2_, x3_] h K := cv Tryz.func232 (by kernel_rfl) hh
def m_walk_walker_visit_j122 (h : Heap) (K : Kt) : Prop :=
 K (.int .i64 0) h
def m_walk_walker_visit_l90 (vs : List Value) (x0_ x7_ x9_ x83_ x84_ : Value) (h : Heap) (nx91 : Nt) (K : Kt) : Prop :=
 BiP .lss (gv vs 1) x84_ fun x92 =>
 CdP x92
 (Ei 1 x83_ (gv vs 1) h fun x95 =>
 Fl 3 x0_ h fun x98 =>
 CdP x98
 (m_walk_walker_visit_j122 h K)
 (Fv 2 x9_ h fun x100 =>
 LdA 3 x7_ h fun x101 =>
 Ca f_fan_Span #[x100, (gv vs 1), x101] h fun x103 h102 =>
 ExP x103 0 fun x104 =>
 ExP x103 1 fun x105 =>
 AlP t_api_Span zt_api_Span h102 fun x107 h106 =>
 StA 3 x107 x104 h106 fun h108 =>
 Fl 1 x0_ h108 fun x111 =>
 VH Pg (Instr.lookup t_M_uint32_bool x111 x95 false) h108 fun x113 h112 =>
 CdP x113
 (K (.int .i64 12) h112)
 (Fv 0 x9_ h112 fun x115 =>
 BiP .sub x115 (.int .i64 1) fun x116 =>
 LdA 3 x107 h112 fun x117 =>
 Ca f_walk_walker_visit #[x0_, x95, x116, x117] h112 fun x119 h118 =>
 BiP .neq x119 (.int .i64 0) fun x120 =>
 CdP x120
 (K x119 h118)
 (BiP .add (gv vs 1) (.int .i64 1) fun x121 =>
 nx91 [(gv vs 0), x121] h118))))
 (m_walk_walker_visit_j122 h K)
def m_walk_walker_visit_j85 (x0_ x7_ x9_ : Value) (h : Heap) (K : Kt) : Prop :=
 Fv 1 x9_ h fun x88 =>
 LenP (some true) x88 fun x89 =>
 LoP (fun vt h nx91 => m_walk_walker_visit_l90 vt x0_ x7_ x9_ x88 x89 h nx91 K) [(.int .i64 0), (.int .i64 0)] h
def m_walk_walker_visit_j81 (x0_ x7_ x9_ x78_ : Value) (h : Heap) (K : Kt) : Prop :=
 CdP x78_
 (Fs 3 x0_ (.bool true) h fun h84 =>
 m_walk_walker_visit_j85 x0_ x7_ x9_ h84 K)
 (m_walk_walker_visit_j85 x0_ x7_ x9_ h K)
def m_walk_walker_visit_j56 (x0_ x1_ x7_ x9_ : Value) (h : Heap) (K : Kt) : Prop :=
 Fl 1 x0_ h fun x59 =>
 UH Pg (Instr.mapUpdate t_M_uint32_bool x59 x1_ (.bool true)) h fun h60 =>
 ∃ X63 : XS,
 NilP x0_ fun x64 =>
 FaP (some 2) x64 fun x65 =>
 LdX X63 x65 h60 fun x66 =>
 EqP .neq t_func_ca11b6 (.tmp 65) (.const .nilFunc) x66 .nilFunc h60 fun x68 h67 =>
 Agr X63 h60 h67 ∧ (CdP x68
 (NilP x0_ fun x69 =>
 FaP (some 2) x69 fun x70 =>
 LdX X63 x70 h60 fun x71 =>
 LaX X63 5 x9_ h60 fun x72 =>
 LaX X63 3 x7_ h60 fun x73 =>
 Ca f_node_Clone #[x72] h67 fun x75 h74 =>
 Agr X63 h60 h74 ∧ (CvH Pg x71 #[x1_, x75, x73] h74 fun x77 h76 =>
 True ∧ (UnP .not x77 fun x78 =>
 m_walk_walker_visit_j81 x0_ x7_ x9_ x78 h76 K)))
 (m_walk_walker_visit_j81 x0_ x7_ x9_ (.bool false) h67 K))
def m_walk_walker_visit_j55 (x0_ x1_ x7_ x9_ x29_ : Value) (h : Heap) (K : Kt) : Prop :=
 CdP x29_
 (K (.int .i64 12) h)
 (m_walk_walker_visit_j56 x0_ x1_ x7_ x9_ h K)
def m_walk_walker_visit (x0_ x1_ x2_ x3_ : Value) (h : Heap) (K : Kt) : Prop :=
 BxP t_api_Span x3_ h fun x2 h1 =>
 Fl 0 x0_ h1 fun x5 =>
 Ca f_shelf_Shelf_Load #[x5, x1_] h1 fun x7 h6 =>
 ExP x7 0 fun x8 =>
 ExP x7 1 fun x9 =>
 AlP t_api_Node zt_api_Node h6 fun x11 h10 =>
 StA 5 x11 x8 h10 fun h12 =>
 BiP .neq x9 (.int .i64 0) fun x14 =>
 CdP x14
 (K x9 h12)
 (∃ X16 : XS,
 NilP x0_ fun x17 =>
 FaP (some 1) x17 fun x18 =>
 LdX X16 x18 h12 fun x19 =>
 VH Pg (Instr.lookup t_M_uint32_bool x19 x1_ false) h12 fun x21 h20 =>
 Agr X16 h12 h20 ∧ (CdP x21
 (undef = undef ∧ (undef = undef ∧ (undef = undef ∧ (undef = undef ∧ (m_walk_walker_visit_j55 x0_ x1_ x2 x11 (.bool true) h20 K)))))
 (BiP .geq x2_ (.int .i64 0) fun x24 =>
 CdP x24
 (FaP (some 0) x11 fun x25 =>
 LdX X16 x25 h12 fun x26 =>
 BiP .neq x26 x2_ fun x27 =>
 CdP x27
 (m_walk_walker_visit_j55 x0_ x1_ x2 x11 (.bool true) h20 K)
 (NilP x0_ fun x31 =>
 FaP (some 0) x31 fun x32 =>
 LdX X16 x32 h12 fun x33 =>
 LaX X16 3 x2 h12 fun x34 =>
 LaX X16 5 x11 h12 fun x35 =>
 Ca f_shelf_Shelf_Config #[x33] h20 fun x37 h36 =>
 Agr X16 h12 h36 ∧ (Ca f_node_Right #[x37, x34, x35] h36 fun x39 h38 =>
 True ∧ (UnP .not x39 fun x40 =>
 m_walk_walker_visit_j55 x0_ x1_ x2 x11 x40 h38 K))))
 (NilP x0_ fun x44 =>
 FaP (some 0) x44 fun x45 =>
 LdX X16 x45 h12 fun x46 =>
 LaX X16 3 x2 h12 fun x47 =>
 LaX X16 5 x11 h12 fun x48 =>
 Ca f_shelf_Shelf_Config #[x46] h20 fun x50 h49 =>
 Agr X16 h12 h49 ∧ (Ca f_node_Right #[x50, x47, x48] h49 fun x52 h51 =>
 True ∧ (UnP .not x52 fun x53 =>
 m_walk_walker_visit_j55 x0_ x1_ x2 x11 x53 h51 K))))))
theorem m_walk_walker_visit_ok {x0_ x1_ x2_ x3_ : Value} {h : Heap} {K : Kt} (hh : m_walk_walker_visit x0_ x1_ x2_ x3_ h K) : Ca f_walk_walker_visit #[x0_, x1_, x2_, x3_] h K := cv Tryz.func271 (by kernel_rfl) hh
end Go.Sg
namespace Go.Sg
open Go Vc
def padOf (s : Str) (n : Nat) : Str := s ++ List.replicate (n - s.length) 0
def pairOf (c : Config) (key val : Str) : List UInt8 := bytesOf 1 key.length ++ bytesOf 2 val.length ++ padOf key c.key.toNat ++ padOf val c.val.toNat
def frontOf (kind level count buf : Nat) : List UInt8 := bytesOf 1 kind ++ bytesOf 1 level ++ bytesOf 2 count ++ bytesOf 2 buf ++ bytesOf 2 0
def outerOf (c : Config) (n : Node) : List UInt8 := frontOf 1 0 n.pairs.length 0 ++ n.pairs.flatMap fun p => pairOf c p.key p.val
section
variable {h : Heap} {K : Kt} {v : Value} {l : List UInt8} {c : Config}
theorem c_code_num {w x : Nat} (o : Ow 0 t_uint8 h v l) (hw : w = 1 ∨ w = 2 ∨ w = 4 ∨ w = 8) (hx : x < 2 ^ 64) (hl : l.length ≤ 2 ^ 39) (r : ∀ v' h', Ow 0 t_uint8 h' v' (l ++ bytesOf w x) → Bld h v h' v' → K v' h') :
    Ca f_code_num #[v, int w, .int .u64 x] h K := by
  refine m_code_num_ok (c_word_Put (Sl.nil No h) hw hx (by simp) fun y h1 o1 e1 => ?_)
  rw [List.nil_append] at o1
  refine bld_app (o.ext e1) (o1.sl (U := No) fun _ _ h => h) (by rw [bytesOf_length]; omega) fun v' h2 o2 b2 => ?_
  exact r v' h2 o2 ((Bld.ext e1).trans b2)
theorem c_code_text {s : Str} {n : Nat} (o : Ow 0 t_uint8 h v l) (hs : s.length ≤ n) (hn : n ≤ 2 ^ 30) (hl : l.length ≤ 2 ^ 39) (r : ∀ v' h', Ow 0 t_uint8 h' v' (l ++ padOf s n) → Bld h v h' v' → K v' h') :
    Ca f_code_text #[v, str s, int n] h K := by
  refine m_code_text_ok (bld_str o (by omega) fun v1 h1 o1 b1 => ?_)
  rw [LenP_str]
  refine sub64 (by omega) ?_
  have e : (n : Int) - (s.length : Int) = ((n - s.length : Nat) : Int) := by omega
  rw [e]
  refine bld_zer o1 (by simp; omega) fun v2 h2 o2 b2 => ?_
  rw [List.append_assoc] at o2
  exact r v2 h2 o2 (b1.trans b2)
theorem c_code_pair {key val : Str} (o : Ow 0 t_uint8 h v l) (hc : c.Sized) (hk : (key.length : Int) ≤ c.key) (hv : (val.length : Int) ≤ c.val) (hl : l.length ≤ 2 ^ 38) (r : ∀ v' h', Ow 0 t_uint8 h' v' (l ++ pairOf c key val) → Bld h v h' v' → K v' h') :
    Ca f_code_pair #[c.v, v, str key, str val] h K := by
  unfold Config.Sized at hc
  have hob : ∀ b, v.ownBlock = some b → b < h.size := fun b hb => by
    rcases o with ⟨q, _⟩ | ⟨g, cap, cur, q1, q2, q3, q4⟩
    · rw [q] at hb; cases hb
    · rw [q1] at hb; cases hb; exact (Array.getElem?_eq_some_iff.1 q3).1
  refine m_code_pair_ok (bxa (cs := c.cs) fun b h1 e1 hb k1 _ => ?_)
  have hvb : v.ownBlock ≠ some b := fun he => by have := hob b he; omega
  rw [LenP_str, CvP_int, wrapU rfl (by omega) (by show _ < (2 : Int) ^ 64; omega)]
  refine c_code_num (w := 1) (o.ext e1) (.inl rfl) (by omega) (by omega) fun v2 h2 o2 b2 => ?_
  rw [LenP_str, CvP_int, wrapU rfl (by omega) (by show _ < (2 : Int) ^ 64; omega)]
  refine c_code_num (w := 2) o2 (.inr (.inl rfl)) (by omega) (by simp [bytesOf_length]; omega) fun v3 h3 o3 b3 => ?_
  have b13 := b2.trans b3
  have k3 := b13.blk k1 hvb
  refine ⟨fun b' _ => b' = b, ?_⟩
  rw [FaP_ptr]
  refine LdX_b (v := int c.key) k3 rfl (fun _ => rfl) ?_
  rw [FaP_ptr]
  refine LdX_b (v := int c.val) k3 rfl (fun _ => rfl) ?_
  have ek : c.key = (c.key.toNat : Int) := by omega
  have ev : c.val = (c.val.toNat : Int) := by omega
  rw [ek, ev]
  refine c_code_text o3 (by omega) (by omega) (by simp [bytesOf_length]; omega) fun v4 h4 o4 b4 => ⟨?_, ?_⟩
  · have hv3 := b13.ne (b := b) (by have := k1.lt; exact this) hvb
    exact agr_b b4.ex k3.lt hv3
  refine c_code_text o4 (by omega) (by omega) (by simp [bytesOf_length, padOf]; omega) fun v5 h5 o5 b5 => ⟨trivial, ?_⟩
  refine r v5 h5 ?_ (((Bld.ext e1).trans b13).trans (b4.trans b5))
  have : l ++ bytesOf 1 key.length ++ bytesOf 2 val.length ++ padOf key c.key.toNat ++ padOf val c.val.toNat = l ++ pairOf c key val := by simp [pairOf, List.append_assoc]
  rw [this] at o5; exact o5
theorem c_code_front {a b d e : Nat} (ha : a < 256) (hb : b < 2 ^ 60) (hd : d < 2 ^ 60) (he : e < 2 ^ 60) (r : ∀ v' h', Ow 0 t_uint8 h' v' (frontOf a b d e) → Bld h (.slice none 0 0) h' v' → K v' h') :
    Ca f_code_front #[int a, int b, int d, int e] h K := by
  refine m_code_front_ok ?_
  unfold m_code_front
  rw [CvP_int, wrapU rfl (by omega) (by show _ < (2 : Int) ^ 64; omega)]
  refine c_code_num (w := 1) (Ow.nil 0 t_uint8 h) (.inl rfl) (by omega) (by simp) fun v1 h1 o1 b1 => ?_
  rw [CvP_int, wrapU rfl (by omega) (by show _ < (2 : Int) ^ 64; omega)]
  refine c_code_num (w := 1) o1 (.inl rfl) (by omega) (by simp [bytesOf_length]) fun v2 h2 o2 b2 => ?_
  rw [CvP_int, wrapU rfl (by omega) (by show _ < (2 : Int) ^ 64; omega)]
  refine c_code_num (w := 2) o2 (.inr (.inl rfl)) (by omega) (by simp [bytesOf_length]) fun v3 h3 o3 b3 => ?_
  rw [CvP_int, wrapU rfl (by omega) (by show _ < (2 : Int) ^ 64; omega)]
  refine c_code_num (w := 2) o3 (.inr (.inl rfl)) (by omega) (by simp [bytesOf_length]) fun v4 h4 o4 b4 => ?_
  refine c_code_num (w := 2) (x := 0) o4 (.inr (.inl rfl)) (by omega) (by simp [bytesOf_length]) fun v5 h5 o5 b5 => ?_
  exact r v5 h5 (by simpa [frontOf] using o5) ((((b1.trans b2).trans b3).trans b4).trans b5)
theorem pair_len (hc : c.Sized) {k v : Str} (hk : (k.length : Int) ≤ c.key) (hv : (v.length : Int) ≤ c.val) : (pairOf c k v).length = 3 + c.key.toNat + c.val.toNat := by
  unfold Config.Sized at hc
  simp [pairOf, padOf, bytesOf_length]; omega
theorem pairs_len (hc : c.Sized) : ∀ (l : List Pair), (∀ p ∈ l, (p.key.length : Int) ≤ c.key ∧ (p.val.length : Int) ≤ c.val) → (l.flatMap fun p => pairOf c p.key p.val).length = l.length * (3 + c.key.toNat + c.val.toNat)
  | [], _ => by simp
  | p :: l, h => by
    rw [List.flatMap_cons, List.length_append, pairs_len hc l (fun q hq => h q (by simp [hq])), pair_len hc (h p (by simp)).1 (h p (by simp)).2, List.length_cons, Nat.add_mul]; omega
theorem c_code_writeOuter {U : Nat → Prop} {n : Node} {x : Value} (d : Nd U h x n) (hc : c.Sized) (hl : n.pairs.length ≤ 1024) (hp : ∀ p ∈ n.pairs, (p.key.length : Int) ≤ c.key ∧ (p.val.length : Int) ≤ c.val)
    (r : ∀ v' h', Ow h.size t_uint8 h' v' (outerOf c n) → Ext h h' → K v' h') : Ca f_code_writeOuter #[c.v, x] h K := by
  obtain ⟨vk, vp, vb, vl, rfl, q1, q2, q3, q4⟩ := d.out
  have hs := hc
  unfold Config.Sized at hs
  refine m_code_writeOuter_ok (bxa (cs := c.cs) fun b1 h1 e1 hb1 k1 _ => bxa (cs := [int n.level, vk, vp, vb, vl]) fun b2 h2 e2 hb2 k2 _ => ?_)
  have k1 := k1.ext e2
  have e12 := e1.trans e2
  refine fv (by rw [k2.get]; rfl) ((q4.ext e12).len ?_)
  refine c_code_front (a := 1) (b := 0) (d := n.pairs.length) (e := 0) (by omega) (by omega) (by omega) (by omega) fun v3 h3 o3 b3 => ?_
  have e3 : Ext h2 h3 := b3.new rfl
  have k1 := k1.ext e3
  have k2 := k2.ext e3
  have e13 := e12.trans e3
  have s3 := q4.ext e13
  refine fv (by rw [k2.get]; rfl) (s3.len ?_)
  refine lop (σ := Nat × Value) (fun p => [p.2, int p.1]) (fun p h' => p.1 ≤ n.pairs.length ∧ Ow 0 t_uint8 h' p.2 (frontOf 1 0 n.pairs.length 0 ++ (n.pairs.take p.1).flatMap fun p => pairOf c p.key p.val) ∧ Bld h3 v3 h' p.2) (fun p => n.pairs.length - p.1) (0, v3) rfl ⟨Nat.zero_le _, by simpa using o3, Bld.refl _ _⟩ ?_
  rintro ⟨i, v⟩ h4 N ⟨hi, o4, b4⟩ hN
  simp only at hi o4 b4
  simp only [m_code_writeOuter_l14, gv_zero, gv_succ]
  rw [BiP_lss]
  have hv3 : ∀ b, v3.ownBlock = some b → h2.size ≤ b := fun b hb => by
    rcases b3.at_ with h | ⟨c, h, hc⟩
    · rw [h] at hb; cases hb
    · rw [h] at hb; cases hb; exact hc
  have nb : ∀ b, b < h2.size → v3.ownBlock ≠ some b := fun b hb he => by have := hv3 b he; omega
  have e34 : Ex (fun b => h2.size ≤ b) h3 h4 := b4.ex.mono fun b _ hb => hv3 b hb
  have e24 : Ext h2 h4 := e3.own e34 (Nat.le_refl _)
  refine cdp (fun hlt => ?_) (fun hge => ?_)
  · have hlt : i < n.pairs.length := by omega
    have hp1 := hp n.pairs[i] (List.getElem_mem hlt)
    have s4 := (q4.ext e12).ext e24
    refine s4.ea (x := n.pairs[i]) (by omega) (by rw [Int.toNat_natCast]; exact List.getElem?_eq_getElem hlt) ?_
    refine alst (vs := El.enc n.pairs[i]) rfl rfl rfl fun b5 h5 e5 hb5 k5 _ => ?_
    have k14 := (b4.blk k1 (nb b1 (by have := e2.le; omega))).ext e5
    refine (LdA_b k14 rfl).2 ?_
    refine fv (by rw [k5.get]; rfl) (fv (by rw [k5.get]; rfl) ?_)
    have hlen : (frontOf 1 0 n.pairs.length 0 ++ (n.pairs.take i).flatMap fun p => pairOf c p.key p.val).length ≤ 2 ^ 38 := by
      rw [List.length_append, pairs_len hc _ (fun p hp' => hp p (List.mem_of_mem_take hp')), List.length_take]
      have : min i n.pairs.length * (3 + c.key.toNat + c.val.toNat) ≤ 1024 * 323 := Nat.mul_le_mul (by omega) (by omega)
      simp [frontOf, bytesOf_length]; omega
    refine c_code_pair (o4.ext e5) hc hp1.1 hp1.2 hlen fun v6 h6 o6 b6 => ?_
    refine add64 (by omega) ?_
    have := hN (i + 1, v6) h6 ⟨by show i + 1 ≤ _; omega, ?_, (b4.trans (Bld.ext e5)).trans b6⟩ (by simp only; omega)
    · simpa using this
    · rw [List.append_assoc] at o6
      have ht : (n.pairs.take i).flatMap (fun p => pairOf c p.key p.val) ++ pairOf c n.pairs[i].key n.pairs[i].val = (n.pairs.take (i + 1)).flatMap fun p => pairOf c p.key p.val := by
        have h1 : n.pairs.take (i + 1) = n.pairs.take i ++ [n.pairs[i]] := by rw [List.take_add_one, List.getElem?_eq_getElem hlt]; rfl
        rw [h1, List.flatMap_append]; simp
      rw [ht] at o6; exact o6
  · have hin : i = n.pairs.length := by omega
    subst hin
    rw [List.take_length] at o4
    unfold m_code_writeOuter_j31
    refine r v h4 ?_ (e12.trans e24)
    refine o4.anew fun b hb => ?_
    have := e12.le
    rcases b4.at_ with h | ⟨c, h, hc⟩
    · rw [h] at hb; have := hv3 b hb; omega
    · rw [h] at hb; cases hb; have := e3.le; omega
end
end Go.Sg
