/-
  Part 13 of a proof: own texts, merged by program.
-/
import Derived.Lib.SlBytesConst
import Derived.Laws.StructEq
import Derived.LaidEql
import Derived.Test.YtfdephgpijheoaaGreatDoorP12
set_option linter.unusedVariables false
set_option linter.unusedSimpArgs false
namespace Go.Sg
open Go Vc Go.Proofs Go.RowKit Go.Maps Go.Sort Go.Shelf
abbrev rNil (v : Value) : Option (DataW Unit × List MemPlace) := some (.nil, [])
theorem mp_owns {w : World} {mb : Nat} {m : List (Nat × Nat)} (k : Mp nint w.heap mb m) (hb : ∀ p ∈ m, p.1 < 4294967296) (hl : m.length ≤ 64) :
    ∃ D, w.ownsMap Pg t_uint32 rNil mb m.length D ∧ (∀ x, Maps.has D (.int .u32 x) = true ↔ ∃ j ∈ m.map Prod.fst, x = (j : Int)) ∧ Maps.size D = m.length := by
  obtain ⟨es, clock, h1, h2, h3, h4, h5⟩ := k
  have hlen : es.size = m.length := by have := congrArg List.length h2; simpa using this
  have hkeys : es.toList.map (·.key) = m.map fun p => Value.int .u32 (p.1 : Int) := by
    have := congrArg (List.map Prod.fst) h2
    rw [List.map_map, List.map_map] at this
    exact this
  have hkey : ∀ x ∈ es.toList, ∃ p ∈ m, x.key = .int .u32 (p.1 : Int) := fun x hx => by
    have : x.key ∈ es.toList.map (·.key) := List.mem_map_of_mem hx
    rw [hkeys] at this
    obtain ⟨p, hp, he⟩ := List.mem_map.1 this
    exact ⟨p, hp, he.symm⟩
  have hrd : ∀ x ∈ es.toList, ∀ (p : Nat × Nat), p ∈ m → x.key = .int .u32 (p.1 : Int) → WideElems.rd Pg t_uint32 rNil x = some (.int .u32 (p.1 : Int), .nil) := fun x hx p hp he => by
    have hwf : (Lit.int .u32 (p.1 : Int)).wf = true := by
      have := hb p hp
      simp [Lit.wf, IntKind.min, IntKind.max, IntKind.signed, IntKind.bits]
      omega
    unfold WideElems.rd
    rw [he, keyOf_int_mk u_u32 hwf]
    rfl
  have hnd : (es.toList.map (·.key)).Nodup := by
    rw [hkeys]
    have : (m.map fun p => Value.int .u32 (p.1 : Int)) = (m.map Prod.fst).map fun k : Nat => Value.int .u32 (k : Int) := by rw [List.map_map]; rfl
    rw [this]
    refine List.pairwise_map.2 (h5.imp fun {a b} hab he => hab ?_)
    injection he with _ he
    exact Int.ofNat_inj.1 he
  refine ⟨_, ⟨es, clock, h1, ⟨by simp only [maxLen]; omega, ⟨h4, h3, hnd⟩, fun x hx => ?_⟩, by omega, rfl⟩, fun x => ?_, ?_⟩
  · obtain ⟨p, hp, he⟩ := hkey x hx
    exact ⟨_, hrd x hx p hp he⟩
  · rw [has_eq, List.any_eq_true]
    constructor
    · rintro ⟨q, hq, hs⟩
      obtain ⟨e, he, rfl⟩ := List.mem_map.1 (mem_sorted.1 hq)
      obtain ⟨p, hp, hk⟩ := hkey e he
      unfold WideElems.rg at hs
      rw [hrd e he p hp hk] at hs
      refine ⟨p.1, List.mem_map.2 ⟨p, hp, rfl⟩, ?_⟩
      simp [Lit.sameKey] at hs
      exact hs.symm
    · rintro ⟨j, hj, rfl⟩
      obtain ⟨p, hp, rfl⟩ := List.mem_map.1 hj
      have : (Value.int .u32 (p.1 : Int)) ∈ es.toList.map (·.key) := by rw [hkeys]; exact List.mem_map.2 ⟨p, hp, rfl⟩
      obtain ⟨e, he, hk⟩ := List.mem_map.1 this
      refine ⟨WideElems.rg Pg t_uint32 rNil e, mem_sorted.2 (List.mem_map_of_mem he), ?_⟩
      unfold WideElems.rg
      rw [hrd e he p hp hk]
      simp [Lit.sameKey]
  · rw [size_eq, (WideShapes.sorted_perm _).length_eq]; simp [hlen]
section
variable {h : Heap} {K : Kt}
theorem c_Keys_all {b mb : Nat} {m : List (Nat × Nat)} (kb : Blk h b [.map (some mb)]) (k : Mp nint h mb m) (hb : ∀ p ∈ m, p.1 < 4294967296) (hl : m.length ≤ 12)
    (r : ∀ v ks h', ks.Nodup → (∀ x : U32, x ∈ ks ↔ x.n ∈ m.map Prod.fst) → Ow h.size t_uint32 h' v ks → Ext h h' → K v h') :
    Ca f_slices_Sorted_uint32 #[.func (.func f_maps_Keys_map_1) #[] #[ptr b 0]] h K := by
  refine m_slices_Sorted_uint32_ok (m_slices_Collect_uint32_ok ?_)
  have seq : ∀ (K' : Kt), (∀ v ks h', ks.Nodup → (∀ x : U32, x ∈ ks ↔ x.n ∈ m.map Prod.fst) → Ow h.size t_uint32 h' v ks → Ext h h' → K' v h') → Ca f_slices_AppendSeq_uint32 #[.slice none 0 0, .func (.func f_maps_Keys_map_1) #[] #[ptr b 0]] h K' := by
    intro K' r'
    show CH Pg _ _ h K'
    intro w hw
    subst hw
    obtain ⟨D, hown, hhas, hsz⟩ := mp_owns k hb (by omega)
    have hseq : SeqGives Fence.wide 2 Pg f_maps_Keys_map_1 #[ptr b 0] encU (fun ss => ss.Nodup ∧ ∀ x, x ∈ ss ↔ Maps.has D (.int .u32 x) = true) (Maps.size D) w := fun l J W hW hJ hY h0 => by
      have hown' : W.ownsMap Pg t_uint32 rNil mb m.length D := by
        have hbl := hown.lt
        obtain ⟨es, clock, hb, Ft, hs, hD⟩ := hown
        exact ⟨es, clock, (hW.block mb hbl).trans hb, Ft, hs, hD⟩
      refine keys1U_in Fence.wide 2 trivial rfl (by omega) l b mb m.length D J hY W hJ ?_ hown' h0
      refine (hW.cell (p := ⟨b, 0, none⟩) kb.lt).trans ?_
      rw [cell_hget, kb.get]; rfl
    refine (callsIn_wide (n := 3)).1 ((appendSeqU_in Fence.wide 3 trivial rfl (by omega) f_maps_Keys_map_1 #[ptr b 0] trivial (enters_of b_maps_Keys_map_1_at (by kernel_rfl) rfl) _ (Maps.size D) (by simp only [maxLen]; omega) (by omega) w hseq).mono ?_)
    rintro e w' ⟨v, ss, rfl, ⟨hn, hm⟩, hrow, hbel⟩
    have hpos : ∀ x ∈ ss, ∃ j ∈ m.map Prod.fst, x = (j : Int) := fun x hx => (hhas x).1 ((hm x).1 hx)
    have hcast : ss.map encU = cells (ss.map fun x => (⟨x.toNat⟩ : U32)) := by
      clear hrow hm hn
      induction ss with
      | nil => rfl
      | cons a ss ih =>
        obtain ⟨j, _, hj⟩ := hpos a (by simp)
        rw [List.map_cons, List.map_cons, cells_cons, ih fun x hx => hpos x (by simp [hx])]
        subst hj
        show encU _ :: _ = Value.int .u32 _ :: _
        simp
    rw [hcast] at hrow
    refine ⟨v, rfl, ⟨hbel.os, hbel.tape, hbel.output⟩, r' v (ss.map fun x => (⟨x.toNat⟩ : U32)) w'.heap ?_ (fun x => ?_) (Ow.of hrow) ⟨hbel.size, fun b hb _ => hbel.block b hb⟩⟩
    · refine List.pairwise_map.2 (hn.imp_of_mem fun {a b} ha hb' hab he => hab ?_)
      obtain ⟨i, _, rfl⟩ := hpos a ha
      obtain ⟨j, _, rfl⟩ := hpos b hb'
      injection he with he
      simp at he; rw [he]
    · rw [List.mem_map]
      constructor
      · rintro ⟨a, ha, rfl⟩
        obtain ⟨j, hj, rfl⟩ := hpos a ha
        simpa using hj
      · intro hx
        exact ⟨(x.n : Int), (hm _).2 ((hhas _).2 ⟨x.n, hx, rfl⟩), by simp⟩
  refine seq _ fun v ks h1 hn hm o1 e1 => ?_
  have hkl : ks.length ≤ 12 := by
    have h2 : (ks.map (·.n)).length ≤ (m.map Prod.fst).length := by
      refine sub_len _ _ ?_ fun x hx => ?_
      · refine List.pairwise_map.2 (hn.imp fun {a b} hab he => hab ?_)
        cases a; cases b; simp at he; rw [he]
      · obtain ⟨a, ha, rfl⟩ := List.mem_map.1 hx
        exact (hm a).1 ha
    simp only [List.length_map] at h2; omega
  refine c_Sort_u32 o1 hkl fun L h2 hp o2 e2 => ?_
  refine r v L h2 (hp.nodup_iff.2 hn) (fun x => by rw [hp.mem_iff]; exact hm x) o2 (e1.andThen e2 fun x hx hb => ?_)
  have := o1.block x hb
  omega
end
end Go.Sg
namespace Go.Sg
open Go Vc
def dty (E : Nat → Option Ent) (j : Nat) : Bool :=
  match E j with
  | some e => e.dirty
  | none => false
theorem dty_in {E : Nat → Option Ent} {j : Nat} {e : Ent} (h : E j = some e) : dty E j = e.dirty := by unfold dty; rw [h]
section
variable {lab lab' : Nat → Nat} {h h' : Heap} {s : CSt} {nf n i f c dp : Nat} {D D' : List (List UInt8)} {rd wr rd' wr' : BitVec 64} {E : Nat → Option Ent} {K : Kt} {V : Nat → List UInt8} {P : Nat → Nat}
theorem c_cache_Dirty (k : Cok lab h s nf n D rd wr) (v : Inv lab h s nf n D E []) (hnf : nf ≤ 12)
    (r : ∀ x l h', l.Nodup → (∀ i : U32, i ∈ l ↔ dty E i.n = true) → Ow h.size t_uint32 h' x l → Ext h h' → K x h') : Ca f_cache_Cache_Dirty #[ptr s.c 0] h K := by
  have hb2 := k.dev.b2
  have hml : s.m.length ≤ nf := by have := v.ln; omega
  have hkb : ∀ p ∈ s.m, p.1 < 4294967296 := fun p hp => by
    obtain ⟨fr, e, q1, q2, q3, q4, q5, q6, q7, q8⟩ := v.fm p.1 p.2 (mem_lookup k.mp.nodup hp)
    omega
  refine m_cache_Cache_Dirty_ok (c_cache_none k ?_)
  rw [CdP_false]
  refine fl (by rw [k.blk.get]; rfl) (m_maps_Keys_map_ok ?_)
  refine bx1 rfl fun b h1 e1 hb kb _ => ?_
  have k1 := k.ext e1
  refine c_Keys_all kb k1.mp hkb (by omega) fun x ks h2 hn hm o2 e2 => ?_
  have k2 := k1.ext e2
  have s2 : Sl No h2 x ks := o2.sl fun _ _ h => h
  have e12 := e1.trans e2
  refine s2.len ?_
  have hkl : ks.length ≤ 12 := by
    have h2 : (ks.map (·.n)).length ≤ (s.m.map Prod.fst).length := by
      refine sub_len _ _ ?_ fun x hx => ?_
      · refine List.pairwise_map.2 (hn.imp fun {a b} hab he => hab ?_)
        cases a; cases b; simp at he; rw [he]
      · obtain ⟨a, ha, rfl⟩ := List.mem_map.1 hx
        exact (hm a).1 ha
    simp only [List.length_map] at h2; omega
  refine lop (σ := Value × Nat) (fun p => [p.1, int p.2]) (fun p h' => Ext h2 h' ∧ p.2 ≤ ks.length ∧ Ow h2.size t_uint32 h' p.1 ((ks.take p.2).filter fun x => dty E x.n)) (fun p => ks.length - p.2) (.slice none 0 0, 0) rfl ⟨Ex.refl _ _, Nat.zero_le _, Ow.nil _ _ _⟩ ?_
  rintro ⟨a, i⟩ h3 N ⟨e3, hi, o3⟩ hN
  simp only at hi o3
  simp only [m_cache_Cache_Dirty_l12, gv_zero, gv_succ]
  rw [BiP_lss]
  refine cdp (fun hlt => ?_) (fun hge => ?_)
  · have hlt : i < ks.length := by omega
    have hx := List.getElem?_eq_getElem hlt
    have k3 := k2.ext e3
    refine (s2.ext e3).ei (x := ks[i]) (by omega) (by rw [Int.toNat_natCast]; exact hx) rfl ?_
    refine ⟨fun b' _ => b' = s.c ∨ b' = s.fg, ?_⟩
    rw [NilP_ptr, FaP_ptr]
    refine LdX_b k3.blk rfl (fun _ => .inl rfl) ?_
    rw [NilP_ptr, FaP_ptr]
    refine LdX_b k3.blk rfl (fun _ => .inl rfl) ?_
    refine c_look k3 false ⟨fun _ _ _ => rfl, ?_⟩
    rw [if_neg (by decide)]
    have hmem := (hm ks[i]).1 (List.getElem_mem hlt)
    cases hlk : s.m.lookup ks[i].n with
    | none => exact absurd hmem (lookup_none_iff.1 hlk)
    | some f =>
      obtain ⟨fr, e, q1, q2, q3, q4, q5, q6, q7, q8⟩ := v.fm _ f hlk
      have hfl : f < nf := by have := (List.getElem?_eq_some_iff.1 q1).1; rw [k.fl] at this; exact this
      show IxP 4 _ (nint f) _
      refine ix_own hfl ?_
      rw [FaP_ptr]
      have hcell := own_cell (f := 2) (w := .bool fr.dirty) (zz := 4) rfl k3.fr q1 rfl
      refine ⟨s.fg, _, _, rfl, .inr rfl, hcell, ?_⟩
      have hd : dty E ks[i].n = fr.dirty := by rw [dty_in q2, q4]
      have htk : ks.take (i + 1) = ks.take i ++ [ks[i]] := by rw [List.take_add_one, hx]; rfl
      have fin : ∀ (a' : Value) (h4 : Heap), Ext h2 h4 → Ow h2.size t_uint32 h4 a' ((ks.take (i + 1)).filter fun x => dty E x.n) → m_cache_Cache_Dirty_j34 (ptr s.c 0) a' x (int ks.length) (int i) h4 N K := by
        intro a' h4 e4 o4
        unfold m_cache_Cache_Dirty_j34
        refine add64 (by omega) ?_
        have := hN (a', i + 1) h4 ⟨e4, by show i + 1 ≤ _; omega, o4⟩ (by simp only; omega)
        simpa using this
      refine cd (fun hdt => ?_) (fun hdf => ?_)
      · refine bs (n0 := h3.size) (e := t_uint32) (zs := #[.int .u32 0]) [ks[i]] rfl (Nat.le_refl _) rfl (by decide) (cs := #[.int .u32 ks[i].n]) (by kernel_rfl) rfl fun v6 h6 o6 e6 => ?_
        have s6 : Sl No h6 v6 [ks[i]] := o6.sl fun _ _ h => h
        have hfl2 : ((ks.take i).filter fun x => dty E x.n).length ≤ ks.length := Nat.le_trans (List.length_filter_le _ _) (by rw [List.length_take]; omega)
        refine app T_u32 (o3.ext e6) s6 (by have := e3.le; have := e6.le; omega) (by simp; omega) (by decide) fun v7 h7 o7 e7 _ => ?_
        refine fin v7 h7 ((e3.trans e6).own e7 (Nat.le_refl _)) ?_
        · rw [htk, List.filter_append]
          have : [ks[i]].filter (fun x => dty E x.n) = [ks[i]] := by simp [hd, hdt]
          rw [this]; exact o7
      · refine fin a h3 e3 ?_
        rw [htk, List.filter_append]
        have : [ks[i]].filter (fun x => dty E x.n) = [] := by simp [hd, hdf]
        rw [this, List.append_nil]; exact o3
  · have hin : i = ks.length := by omega
    subst hin
    rw [List.take_length] at o3
    unfold m_cache_Cache_Dirty_j36
    refine r a _ h3 (hn.filter _) (fun j => ?_) (o3.low e12.le) (e12.trans e3)
    rw [List.mem_filter]
    constructor
    · exact fun h => h.2
    · intro hj
      refine ⟨(hm j).2 ?_, hj⟩
      refine Classical.byContradiction fun hc => ?_
      have := (v.pm j.n).2 (lookup_none_iff.2 hc)
      unfold dty at hj; rw [this] at hj; cases hj
theorem c_cache_Flush (k : CaS lab h c dp nf n D V P rd wr) (hnf : nf ≤ 12)
    (r : ∀ lab' h' D' wr', Lat lab lab' h → D'.length = D.length → (∀ j, j < D.length → D'[j]? = some (V j)) → CaS lab' h' c dp nf n D' V P rd wr' → Ex (Lb lab 1 8) h h' → K (int 0) h') : Ca f_cache_Cache_Flush #[ptr c 0] h K := by
  obtain ⟨s, E, rfl, rfl, k, v, hV, hP, hz⟩ := k.out
  have hb2 := k.dev.b2
  refine m_cache_Cache_Flush_ok (c_cache_none k ?_)
  rw [CdP_false]
  refine c_cache_Dirty k v hnf fun x l h1 hn hm o1 e1 => ?_
  have k1 := k.ext e1
  have s1 : Sl No h1 x l := o1.sl fun _ _ h => h
  refine s1.len ?_
  have hll : l.length ≤ 12 := by
    have h2 : (l.map (·.n)).length ≤ (s.m.map Prod.fst).length := by
      refine sub_len _ _ ?_ fun x hx => ?_
      · refine List.pairwise_map.2 (hn.imp fun {a b} hab he => hab ?_)
        cases a; cases b; simp at he; rw [he]
      · obtain ⟨a, ha, rfl⟩ := List.mem_map.1 hx
        have hd := (hm a).1 ha
        refine Classical.byContradiction fun hc => ?_
        have := (v.pm a.n).2 (lookup_none_iff.2 hc)
        unfold dty at hd; rw [this] at hd; cases hd
    simp only [List.length_map] at h2
    have := v.ln; omega
  have a0 := frl_lat lab h
  have k1 := (k.lat a0).ext e1
  have v1 := v.ex (Ex.toM (M := Lb lab 1 8) e1) (by decide) a0
  have hlab : ∀ b, x.ownBlock = some b → frl lab h b = 0 := fun b hb => frl_new (o1.block b hb)
  refine lop (σ := Nat × CSt × (Nat → Option Ent) × List (List UInt8) × BitVec 64) (fun p => [int p.1])
    (fun p h' => p.1 ≤ l.length ∧ Cok (frl lab h) h' p.2.1 nf n p.2.2.2.1 rd p.2.2.2.2 ∧ Inv (frl lab h) h' p.2.1 nf n p.2.2.2.1 p.2.2.1 [] ∧ p.2.1.c = s.c ∧ p.2.1.dp = s.dp ∧ p.2.2.2.1.length = D.length ∧
      (∀ j, j < D.length → vw p.2.2.1 p.2.2.2.1 j = vw E D j) ∧ (∀ j, pn p.2.2.1 j = pn E j) ∧ (∀ j : U32, dty p.2.2.1 j.n = (dty E j.n && !decide (j ∈ l.take p.1))) ∧ p.2.2.1 0 = none ∧ Ex (Lb (frl lab h) 1 8) h1 h')
    (fun p => l.length - p.1) (0, s, E, D, wr) rfl ⟨Nat.zero_le _, k1, v1, rfl, rfl, rfl, fun _ _ => rfl, fun _ => rfl, fun j => by simp, hz, Ex.refl _ _⟩ ?_
  rintro ⟨i, s2, E2, D2, w2⟩ h2 N ⟨hi, k2, v2, hc2, hd2, hl2, hv2, hp2, hdt2, hz2, e2⟩ hN
  simp only at hi k2 v2 hc2 hd2 hl2 hv2 hp2 hdt2 hz2
  simp only [m_cache_Cache_Flush_l7, gv_zero, gv_succ]
  have s2l : Sl No h2 x l := (o1.exb e2 fun b hb => nLb (hlab b hb) (by decide)).sl fun _ _ h => h
  rw [BiP_lss]
  refine cdp (fun hlt => ?_) (fun hge => ?_)
  · have hlt : i < l.length := by omega
    have hx := List.getElem?_eq_getElem hlt
    refine s2l.ei (x := l[i]) (by omega) (by rw [Int.toNat_natCast]; exact hx) rfl ?_
    rw [← hc2]
    refine ⟨fun b' _ => b' = s2.c ∨ b' = s2.fg, ?_⟩
    rw [NilP_ptr, FaP_ptr]
    refine LdX_b k2.blk rfl (fun _ => .inl rfl) ?_
    rw [NilP_ptr, FaP_ptr]
    refine LdX_b k2.blk rfl (fun _ => .inl rfl) ?_
    refine c_look k2 false ⟨fun _ _ _ => rfl, ?_⟩
    rw [if_neg (by decide)]
    have hnot : l[i] ∉ l.take i := fun hmem => by
      obtain ⟨j, hj, he⟩ := List.mem_take_iff_getElem.1 hmem
      have := (List.getElem_inj hn).1 he
      omega
    have hdE : dty E2 l[i].n = true := by
      rw [hdt2, (hm l[i]).1 (List.getElem_mem hlt)]
      simp [hnot]
    cases hE2 : E2 l[i].n with
    | none => unfold dty at hdE; rw [hE2] at hdE; cases hdE
    | some e =>
      obtain ⟨f, fr, hlk, q1, q3, q4, q5, q6, q7, q8⟩ := v2.has hE2
      have hfl : f < nf := by have := (List.getElem?_eq_some_iff.1 q1).1; rw [k2.fl] at this; exact this
      have hed : e.dirty = true := by rw [← dty_in hE2]; exact hdE
      rw [hlk]
      show IxP 4 _ (nint f) _
      refine ix_own hfl ?_
      refine c_cache_back k2 (bs := e.bytes) q1 (fun _ => ⟨by rw [q3]; exact q8, q6, q7⟩) fun h3 D3 w3 k3 hD3 hw3 e3 => ⟨trivial, ?_⟩
      refine add64 (by omega) ?_
      rw [q4, hed, if_pos rfl, q3] at hD3
      have hn0 : l[i].n ≠ 0 := fun h0 => by rw [h0, hz2] at hE2; cases hE2
      have hD3o : ∀ j, j ≠ l[i].n → D3[j]? = D2[j]? := fun j hj => by rw [hD3, List.getElem?_set_ne (Ne.symm hj)]
      have hD3i : D3[l[i].n]? = some e.bytes := by rw [hD3, List.getElem?_set_self q8]
      have hD3l : D3.length = D2.length := by rw [hD3, List.length_set]
      have v3 := (v2.ex e3 (by decide) (Lat.refl _ h2)).turn (fr' := fr.clean) (e' := { e with dirty := false }) (D' := D3) (R' := s2.R) hlk k2.fl q3 rfl q5 (q6.lat e3 (by decide) (Lat.refl _ h2)) q7 hD3l hD3o (fun _ => hD3i) (fun g => by
        constructor
        · intro hg
          by_cases hgf : g = f
          · subst hgf
            obtain ⟨j, e', b1, b2, b3⟩ := (v2.rw g).1 hg
            have := val_inj v2.ndv b1 hlk
            subst this
            rw [hE2] at b2; cases b2
            exact .inl ⟨rfl, b3⟩
          · exact .inr ⟨hgf, hg⟩
        · rintro (⟨rfl, hp0⟩ | ⟨_, hg⟩)
          · exact (v2.rw g).2 ⟨_, e, hlk, hE2, hp0⟩
          · exact hg)
      have htk : l.take (i + 1) = l.take i ++ [l[i]] := by rw [List.take_add_one, hx]; rfl
      have := hN (i + 1, { s2 with L := s2.L.set f fr.clean }, upd E2 l[i].n (some { e with dirty := false }), D3, w3) h3 ⟨by show i + 1 ≤ _; omega, k3, v3, hc2, hd2, by rw [hD3l]; exact hl2, fun j hj => ?_, fun j => ?_, fun j => ?_, ?_, e2.trans (Lb.wide e3 (by decide) (by decide))⟩ (by simp only; omega)
      · simpa using this
      · rw [← hv2 j hj]
        by_cases hj2 : j = l[i].n
        · subst hj2; rw [vw_in upd_same, vw_in hE2]
        · show vw (upd E2 l[i].n _) D3 j = vw E2 D2 j
          unfold vw; rw [upd_ne hj2]
          cases E2 j with
          | some _ => rfl
          | none => simp only [List.getD_eq_getElem?_getD, hD3o j hj2]
      · rw [← hp2 j]
        by_cases hj2 : j = l[i].n
        · subst hj2; rw [pn_in upd_same, pn_in hE2]
        · show pn (upd E2 l[i].n _) j = pn E2 j
          unfold pn; rw [upd_ne hj2]
      · show dty (upd E2 l[i].n _) j.n = (dty E j.n && !decide (j ∈ l.take (i + 1)))
        rw [htk]
        by_cases hj2 : j = l[i]
        · have hin : j ∈ l.take i ++ [l[i]] := List.mem_append_right _ (by rw [hj2]; exact List.mem_singleton_self _)
          have hjn : j.n = l[i].n := by rw [hj2]
          have h1 : dty (upd E2 l[i].n (some { e with dirty := false })) j.n = false := by rw [hjn, dty_in upd_same]
          rw [h1, decide_eq_true hin]; cases dty E j.n <;> rfl
        · have hjn : j.n ≠ l[i].n := fun he => hj2 (by cases j; rename_i a; cases hq : l[i]; rw [hq] at he; simp at he; rw [he])
          have : dty (upd E2 l[i].n (some { e with dirty := false })) j.n = dty E2 j.n := by unfold dty; rw [upd_ne hjn]
          rw [this, hdt2]
          have hmm : (j ∈ l.take i) ↔ (j ∈ l.take i ++ [l[i]]) := ⟨fun h => List.mem_append_left _ h, fun h => (List.mem_append.1 h).elim id fun h => absurd (List.mem_singleton.1 h) hj2⟩
          exact congrArg (fun b => dty E j.n && !b) (decide_eq_decide.2 hmm)
      · exact (upd_ne (fun e => hn0 e.symm)).trans hz2
  · have hin : i = l.length := by omega
    subst hin
    unfold m_cache_Cache_Flush_j26
    have hclean : ∀ j e, E2 j = some e → e.dirty = false := fun j e hj => by
      have := hdt2 ⟨j⟩
      rw [List.take_length] at this
      rw [dty_in hj] at this
      cases hd : dty E j with
      | false => rw [this, hd]; rfl
      | true => rw [this, hd]; simp [(hm ⟨j⟩).2 hd]
    have hVj : ∀ j, j < D.length → V j = vw E2 D2 j := fun j hj => by rw [hV j hj, hv2 j hj]
    refine r (frl lab h) h2 D2 w2 a0 hl2 (fun j hj => ?_) ⟨s2, E2, hc2, hd2, k2, v2, fun j hj => hVj j (by omega), fun j => by rw [hP, hp2], hz2⟩ (a0.ex (Ex.toM e1) e2)
    rw [hVj j hj]
    cases hE : E2 j with
    | some e => rw [vw_in hE]; exact v2.cl _ _ hE (hclean j e hE)
    | none =>
      have hj2 : j < D2.length := by omega
      unfold vw; rw [hE]
      simp only [List.getD_eq_getElem?_getD, List.getElem?_eq_getElem hj2, Option.getD_some]
end
end Go.Sg
namespace Go.Sg
open Go Vc
section
variable {lab lab' : Nat → Nat} {h h' : Heap} {sp c dp nf n : Nat} {D D' : List (List UInt8)} {V : Nat → List UInt8} {P : Nat → Nat} {rd wr rd' wr' : BitVec 64} {K : Kt} {U : Nat → Prop}
theorem CaS.dv (k : CaS lab h c dp nf n D V P rd wr) : ∃ dg, Dv dg dp h n D rd wr ∧ lab dp = 6 ∧ lab dg = 7 := by
  obtain ⟨s, E, rfl, rfl, k, v, hV, hP, hz⟩ := k.out
  exact ⟨s.dg, k.dev, k.l6, k.l7⟩
theorem CaS.write0 (k : CaS lab h c dp nf n D V P rd wr) {x : Value} {b : List UInt8} (s : Sl U h x b) (hl : b.length = n)
    (r : ∀ h', CaS lab h' c dp nf n (D.set 0 b) (upd V 0 b) P rd (wr + 1) → Ex (Lb lab 6 7) h h' → K (int 0) h') : Ca f_dev_Device_Write #[ptr dp 0, .int .u32 0, x] h K := by
  obtain ⟨st, E, rfl, rfl, k, v, hV, hP, hz⟩ := k.out
  have hb1 := k.dev.b1
  refine c_dev_Write k.dev (i := 0) (by omega) s hl fun h1 d1 e1 => ?_
  have e1' : Ex (Lb lab 6 7) h h1 := two_lb e1 ⟨by rw [k.l6]; decide, by rw [k.l6]; decide⟩ ⟨by rw [k.l7]; decide, by rw [k.l7]; decide⟩
  have v1 := v.ex e1' (by decide) (Lat.refl _ h)
  refine r h1 ⟨st, E, rfl, rfl, k.set_dev d1 e1', ⟨v1.pm, fun i f hf => ?_, v1.nd, v1.lt, v1.ln, v1.rw, fun i e he hd => ?_⟩, fun i hi => ?_, hP, hz⟩ e1'
  · obtain ⟨fr, en, q1, q2, q3, q4, q5, q6, q7, q8⟩ := v1.fm i f hf
    exact ⟨fr, en, q1, q2, q3, q4, q5, q6, q7, by rw [List.length_set]; exact q8⟩
  · have hi0 : i ≠ 0 := fun h0 => by rw [h0, hz] at he; cases he
    rw [List.getElem?_set_ne (Ne.symm hi0)]
    exact v1.cl i e he hd
  · rw [List.length_set] at hi
    by_cases hi0 : i = 0
    · subst hi0
      rw [upd_same]; unfold vw; rw [hz]
      simp only [List.getD_eq_getElem?_getD, List.getElem?_set_self hi, Option.getD_some]
    · rw [upd_ne hi0, hV i hi]; unfold vw
      cases E i with
      | some _ => rfl
      | none => simp only [List.getD_eq_getElem?_getD, List.getElem?_set_ne (Ne.symm hi0)]
end
section
variable {lab lab' : Nat → Nat} {h h' : Heap} {sp cp dp dg kept n : Nat} {c : Config} {D D' : List (List UInt8)} {V : Nat → List UInt8} {S : Nat → Bool} {rd wr rd' wr' : BitVec 64} {K : Kt} {U : Nat → Prop}
theorem c_shelf_Flush (k : ShS lab h sp dp c D V S kept rd wr) (hnf : c.frames.toNat ≤ 12)
    (r : ∀ lab' h' D' wr', Lat lab lab' h → (∀ j, j < D.length → D'[j]? = some (V j)) → ShS lab' h' sp dp c D' V S kept rd wr' → Ex (Lb lab 1 8) h h' → K (int 0) h') : Ca f_shelf_Shelf_Flush #[ptr sp 0] h K := by
  obtain ⟨hr, hD, hkl, cp, o, g, p, k1, k2⟩ := k
  refine m_shelf_Shelf_Flush_ok (c_shelf_made k1 ?_)
  rw [BiP_neq]
  refine cdp (fun h => absurd rfl h) fun _ => ?_
  refine k1.get (f := 9) rfl ?_
  refine c_cache_Flush k2 hnf fun l1 h1 D1 w1 a1 hl hD1 k2 e1 => ?_
  exact r l1 h1 D1 w1 a1 hD1 ⟨hr, by omega, hkl, cp, o, g, p, k1.ex e1 (.inl (by decide)) (by decide) a1, k2⟩ e1
theorem ShS.write0 (k : ShS lab h sp dp c D V S kept rd wr) {x : Value} {b : List UInt8} (s : Sl U h x b) (hl : b.length = c.bytes.toNat)
    (r : ∀ h', ShS lab h' sp dp c (D.set 0 b) (upd V 0 b) S kept rd (wr + 1) → Ex (Lb lab 6 7) h h' → K (int 0) h') : Ca f_dev_Device_Write #[ptr dp 0, .int .u32 0, x] h K := by
  obtain ⟨hr, hD, hkl, cp, o, g, p, k1, k2⟩ := k
  refine k2.write0 s hl fun h1 k2 e1 => ?_
  exact r h1 ⟨hr, by rw [List.length_set]; exact hD, hkl, cp, o, g, p, k1.ex e1 (.inl (by decide)) (by decide) (Lat.refl _ _), k2⟩ e1
theorem ShS.dv (k : ShS lab h sp dp c D V S kept rd wr) : ∃ dg, Dv dg dp h c.bytes.toNat D rd wr ∧ lab dp = 6 ∧ lab dg = 7 := by
  obtain ⟨hr, hD, hkl, cp, o, g, p, k1, k2⟩ := k
  exact k2.dv
theorem c_shelf_New (d : Dv dg dp h n D rd wr) (hr : c.Right) (hD : D.length = c.blocks.toNat) (hn : n = c.bytes.toNat) (t : Tz h) (ht1 : gTab ≠ dp) (ht2 : gTab ≠ dg)
    (r : ∀ lab' sp h', Lat (dlab dp dg) lab' h → ShS lab' h' sp dp c D (fun i => D.getD i []) (upd (fun _ => false) 0 true) 0 rd wr → h.size ≤ sp → Ex (two dp dg) h h' → K (.tuple #[ptr sp 0, int 0]) h') :
    Ca f_shelf_New #[c.v, ptr dp 0] h K := by
  subst hn
  have hb := blocks_eq hr
  have hdl := d.lt
  refine m_shelf_New_ok (bxa (cs := c.cs) fun b h1 e1 hb1 kb _ => ?_)
  refine (LdA_b kb rfl).2 (c_conf_Check (c := c) fun h2 e2 => ?_)
  have kb := kb.ext e2
  have d2 := (d.ext e1).ext e2
  rw [if_pos hr, BiP_neq]
  refine cdp (fun h => absurd rfl h) fun _ => ?_
  refine fv (v := int c.frames) (by rw [kb.get]; rfl) ?_
  rw [hb.2.2.1]
  have e12 := e1.trans e2
  have l12 := e12.le
  have hl1 := e1.le
  refine c_cache_New d2 (by omega) (by omega) fun l3 cp h3 a3 k3 hcp e3 => ?_
  have hl3 := e3.le
  have kb := kb.ex e3 (by rintro (h | h) <;> omega)
  rw [ex20, ex21, BiP_neq]
  refine cdp (fun h => absurd rfl h) fun _ => ?_
  obtain ⟨dg', d3, q6, q7⟩ := k3.dv
  refine ⟨fun b' _ => b' = b, ?_⟩
  rw [FaP_ptr]
  refine LdX_b kb (v := int c.blocks) rfl (fun _ => rfl) ?_
  refine c_dev_Blocks d3 ⟨agr_b (Ex.refl (fun _ => False) _) kb.lt id, ?_⟩
  rw [BiP_neq]
  refine cdp (fun h => absurd (by rw [hD]; exact hb.1.symm) h) fun _ => ?_
  rw [FaP_ptr]
  refine LdX_b kb (v := int c.bytes) rfl (fun _ => rfl) ?_
  refine c_dev_Bytes d3 ⟨agr_b (Ex.refl (fun _ => False) _) kb.lt id, ?_⟩
  rw [BiP_neq]
  unfold m_shelf_New_j29
  refine cdp (fun h => absurd hb.2.1.symm (by simpa using h)) fun _ => ?_
  unfold m_shelf_New_j30
  refine fv (v := int c.blocks) (by rw [kb.get]; rfl) ?_
  rw [hb.1]
  have t3 := (t.ext e12).ex e3 (by rintro (h | h) <;> contradiction)
  refine c_pool_New hb.2.2.2.1 hb.2.2.2.2.1 t3 fun o g p h4 ho hg hp p4 e4 => ?_
  have kb := kb.ext e4
  rw [ex20, ex21, BiP_neq]
  refine cdp (fun h => absurd rfl h) fun _ => ?_
  refine (LdA_b kb rfl).2 ?_
  refine ⟨_, #[int c.blocks, int c.bytes, int c.frames, int c.fan, int c.buffer, int c.leaf, int c.key, int c.val, ptr dp 0, ptr cp 0, ptr o 0, .int .u32 0], rfl, by kernel_rfl, ?_⟩
  refine bxa (cs := [int c.blocks, int c.bytes, int c.frames, int c.fan, int c.buffer, int c.leaf, int c.key, int c.val, ptr dp 0, ptr cp 0, ptr o 0, .int .u32 0]) fun sp h5 e5 hsp k5 _ => ?_
  have hl4 := e4.le
  have hl5 := e5.le
  have e45 := e4.trans e5
  have hol := p4.blk.lt
  have hrl := p4.row.lt
  have htl := t.lt
  let lab : Nat → Nat := upd (upd (upd (upd (frl l3 h3) sp 9) o 10) p 11) g 12
  have hne := p4.row.ne
  have ho1 := p4.o1
  have ho2 := p4.o2
  have a5 : Lat l3 lab h3 := fun b hb => by
    show upd (upd (upd (upd (frl l3 h3) sp 9) o 10) p 11) g 12 b = l3 b
    rw [upd_ne (by omega), upd_ne (by omega), upd_ne (by omega), upd_ne (by omega)]
    exact frl_lat l3 h3 b hb
  have k5' := (k3.lat a5).ext e45
  have g0 : lab gTab = 0 := by
    rw [a5 _ (by omega), a3 _ (by omega)]
    unfold dlab
    rw [if_neg ht1, if_neg ht2]
  refine r lab sp h5 (fun x hx => (a5 x (by omega)).trans (a3 x (by omega))) ⟨hr, hD, by omega, cp, o, g, p, ⟨k5, p4.ext e5, ?_, ?_, ?_, ?_, g0⟩, k5'.pin fun j => ?_⟩ (by omega) ?_
  · show upd (upd (upd (upd (frl l3 h3) sp 9) o 10) p 11) g 12 sp = 9
    rw [upd_ne (by omega), upd_ne (by omega), upd_ne (by omega), upd_same]
  · show upd (upd (upd (upd (frl l3 h3) sp 9) o 10) p 11) g 12 o = 10
    rw [upd_ne (by omega), upd_ne (by omega), upd_same]
  · show upd (upd (upd (upd (frl l3 h3) sp 9) o 10) p 11) g 12 p = 11
    rw [upd_ne (by omega), upd_same]
  · exact upd_same
  · unfold kpin; rw [if_neg (by omega)]
  · exact ((Ex.toM e12).trans (e3.mono fun x _ h => h)).trans (Ex.toM e45)
end
end Go.Sg
namespace Go.Sg
open Go Vc
section
variable {h : Heap} {K : Kt} {c : Config} {root ht : Nat}
theorem sl_arr {b : Nat} (r : K (.slice (some ⟨b, 0, none⟩) 8 9) h) : VH Pg (Instr.sliceAt t_A9_P_int (ptr b 0) none (some (int 8)) none) h K := by
  have hu : Pg.underlying t_A9_P_int = some (.array 9 t_P_int) := by kernel_rfl
  have hi : (Pg.info? t_P_int).map (·.size) = some 1 := by kernel_rfl
  refine vh_pure (v := .slice (some ⟨b, 0, none⟩) 8 9) (fun w _ => ?_) r
  cases hq : Pg.info? t_P_int with
  | none => rw [hq] at hi; cases hi
  | some inf =>
    rw [hq] at hi
    have hs : inf.size = 1 := by simpa using hi
    have b2 := bnd_ok (P := Pg) (v := int (8 : Nat)) (y := 9) (l := 8) (code := .sliceAlen) (d := 0) bnd_nat (by decide) w
    have b3 : (Instr.sliceBound (int 8) 9 .sliceAlen).run Pg w = .ok 8 w := b2
    simp [Instr.sliceAt, run_underlying hu, Instr.sureAddr, Instr.sliceBounds, b3, sizeOf, typeInfo, hq, hs, Addr.add_lit]
theorem lit_bytes {n : Nat} {parts} {cs : Array Value} (l : List UInt8) (hl : l.length = n) (hn : n ≤ 2 ^ 24) (h0 : l ≠ [])
    (hf : Instr.fill (fun i => some (i * 1, 1)) ((Array.range (n * 1)).map ((if n * 1 = 0 then #[] else #[Value.int .u8 0])[· % (if n * 1 = 0 then #[] else #[Value.int .u8 0]).size]!)) parts = some cs) (hc : cs.toList = cells l)
    (r : ∀ v h', Sl No h' v l → Ext h h' → K v h') : BsP st_S_uint8 n parts h fun x h7 => VH Pg (convert t_S_uint8 t_S_uint8 x) h7 K := by
  refine ⟨_, _, _, cs, rfl, by omega, hf, ?_⟩
  intro w hw
  have hz : El.z UInt8 = 1 := rfl
  have hcs : cs.size = n := by
    have := congrArg List.length hc
    rw [cells_length, hl, hz, Nat.mul_one] at this
    simpa using this
  let w0 : World := { w with heap := h }
  have hw0 : w = w0.alloc (.cells cs t_uint8) := by
    cases w; simp only at hw; subst hw; rfl
  rw [hw0]
  refine ⟨_, _, Lib.run_convert_bytes_const w0 t_S_uint8 t_uint8 cs n n T_byte.und (by kernel_rfl), ⟨rfl, rfl, rfl⟩, r _ _ ⟨some ⟨h.size, 0, none⟩, n, by rw [hl], by omega, (fun e => by cases e), fun x hx => ?_⟩ (push_ext _ _)⟩
  cases hx
  refine ⟨rfl, fun _ => ⟨?_, id, fun j v hj => ?_⟩⟩
  · show h.size < (h.push _).size
    simp
  · show hget (h.push (.cells cs t_uint8 (cs.size, cs.size + 1))) h.size (0 + j) = some v
    rw [← hc] at hj
    simp [hget]
    simpa using hj
def hdv (c : Config) (root ht : Nat) : List Value := c.cs ++ [.int .u32 root, int ht]
def hok (c : Config) (root ht : Nat) : Prop := c.Right ∧ 1 ≤ root ∧ (root : Int) < c.blocks ∧ 1 ≤ ht ∧ ht ≤ 41
theorem c_head_Right (hr : hok c root ht) (r : ∀ h', Ext h h' → K (.bool true) h') : Ca f_head_Right #[.agg (hdv c root ht).toArray] h K := by
  obtain ⟨q1, q2, q3, q4, q5⟩ := hr
  have hb := blocks_eq q1
  refine m_head_Right_ok (bxa (cs := hdv c root ht) fun b h1 e1 hb1 kb _ => ?_)
  unfold Fva
  rw [FaP_ptr]
  refine LdA_at (cs := c.cs) (fun j v hj => ?_) rfl ?_
  · have hlt := (List.getElem?_eq_some_iff.1 hj).1
    rw [kb.get]; unfold hdv
    rw [Nat.zero_add, List.getElem?_append_left hlt]; exact hj
  refine c_conf_Check (c := c) fun h2 e2 => ?_
  have kb := kb.ext e2
  rw [if_pos q1, BiP_eql]
  refine cdp (fun _ => ?_) fun h => absurd rfl h
  refine fv (v := .int .u32 root) (by rw [kb.get]; rfl) ?_
  rw [BiP_geq]
  refine cdp (fun _ => ?_) fun h => absurd (by omega) h
  refine fv (v := .int .u32 root) (by rw [kb.get]; rfl) ?_
  rw [CvP_int, wrap64 (by omega) (by omega), FaP_ptr]
  refine fv (v := int c.blocks) (by rw [kb.get]; rfl) ?_
  rw [BiP_lss]
  refine cdp (fun _ => ?_) fun h => absurd (by omega) h
  refine fv (v := int ht) (by rw [kb.get]; rfl) ?_
  rw [BiP_geq]
  refine cdp (fun _ => ?_) fun h => absurd (by omega) h
  refine fv (v := int ht) (by rw [kb.get]; rfl) ?_
  rw [BiP_leq, decide_eq_true (by omega)]
  exact r h2 (e1.trans e2)
def nums (b : Nat) : List Value := [ptr b 0, ptr b 1, ptr b 2, ptr b 3, ptr b 4, ptr b 5, ptr b 6, ptr b 7, ptr b 9]
theorem c_head_numbers {b : Nat} (r : ∀ h', Ext h h' → K (.agg (nums b).toArray) h') : Ca f_head_numbers #[ptr b 0] h K := by
  refine m_head_numbers_ok (ala (cs := [.pointer none, .pointer none, .pointer none, .pointer none, .pointer none, .pointer none, .pointer none, .pointer none, .pointer none]) fun b1 h1 e1 hb1 k1 _ => ?_)
  simp only [NilP_ptr, FaP_ptr, Nat.zero_add]
  refine ⟨_, (nums b).toArray, rfl, by kernel_rfl, ?_⟩
  refine StA_b k1 rfl rfl rfl fun h2 hs2 e2 k2 => ⟨trivial, ?_⟩
  refine (LdA_b k2 rfl).2 (r h2 ?_)
  exact ⟨Nat.le_trans e1.le e2.le, fun x hx _ => (e2.eq x (Nat.lt_of_lt_of_le hx e1.le) (by omega)).trans (e1.eq x hx id)⟩
def magic : List UInt8 := [83, 76, 85, 73, 67, 69, 48, 49]
def hnums (c : Config) : List Int := [c.blocks, c.bytes, c.frames, c.fan, c.buffer, c.leaf, c.key, c.val]
def hbody (c : Config) (root ht : Nat) : List UInt8 := magic ++ (hnums c).flatMap (fun n => bytesOf 4 n.toNat) ++ bytesOf 4 root ++ bytesOf 4 ht ++ List.replicate 12 0
def headOf (c : Config) (root ht : Nat) : List UInt8 := hbody c root ht ++ bytesOf 4 (sumMore 1 (hbody c root ht)) ++ List.replicate (c.bytes.toNat - 64) 0
theorem hnums_len (c : Config) : ((hnums c).flatMap (fun n => bytesOf 4 n.toNat)).length = 32 := by
  simp [hnums, bytesOf_length]
theorem hbody_len (c : Config) : (hbody c root ht).length = 60 := by
  simp [hbody, bytesOf_length, magic, hnums]
theorem bytes64 (hr : c.Right) : 64 ≤ c.bytes := by
  have := hr.2.2.2.2.2.2
  unfold Config.leastBytes at this
  omega
theorem head_len (hr : c.Right) : (headOf c root ht).length = c.bytes.toNat := by
  have := bytes64 hr
  simp only [headOf, List.length_append, hbody_len, bytesOf_length, List.length_replicate]
  omega
theorem hnums_in (hr : c.Right) : ∀ n ∈ hnums c, 0 ≤ n ∧ n ≤ 65536 := by
  obtain ⟨⟨a1, a2, a3, a4, a5, a6, a7, a8, a9, a10⟩, b1, b2, b3, b4, b5, b6⟩ := hr
  have := bytes64 ⟨⟨a1, a2, a3, a4, a5, a6, a7, a8, a9, a10⟩, b1, b2, b3, b4, b5, b6⟩
  intro n hn
  simp only [hnums, List.mem_cons, List.not_mem_nil, or_false] at hn
  rcases hn with rfl | rfl | rfl | rfl | rfl | rfl | rfl | rfl <;> omega
theorem c_head_Encode (hr : hok c root ht) (r : ∀ y h', Ow h.size t_uint8 h' y (headOf c root ht) → Ext h h' → K (.tuple #[y, int 0]) h') : Ca f_head_Encode #[.agg (hdv c root ht).toArray] h K := by
  have hrr := hr
  obtain ⟨q1, q2, q3, q4, q5⟩ := hr
  have hb := blocks_eq q1
  have h64 := bytes64 q1
  have h65 := q1.2.2.2.2.2.1
  have hin := hnums_in q1
  refine m_head_Encode_ok (bxa (cs := hdv c root ht) fun b h1 e1 hb1 kb _ => ?_)
  refine (LdA_b kb rfl).2 (c_head_Right hrr fun h2 e2 => ?_)
  rw [UnP_not]
  refine cd (fun h => absurd h (by decide)) fun _ => ?_
  refine lit_bytes magic rfl (by decide) (by decide) (by kernel_rfl) rfl fun x3 h3 s3 e3 => ?_
  refine c_head_numbers fun h4 e4 => ?_
  refine alst (vs := nums b) rfl rfl rfl fun b5 h5 e5 hb5 k5 _ => ?_
  have e15 := ((e2.trans e3).trans e4).trans e5
  have kb := kb.ext e15
  refine sl_arr ?_
  refine ⟨_, _, _, rfl, ?_⟩
  have s5 : Sl No h5 x3 magic := (s3.ext e4).ext e5
  have l15 := e15.le
  have hl1 := e1.le
  refine lop (σ := Nat × Value) (fun p => [p.2, int p.1]) (fun p h' => Ext h5 h' ∧ p.1 ≤ 8 ∧ Sl No h' p.2 (magic ++ ((hnums c).take p.1).flatMap (fun n => bytesOf 4 n.toNat)))
    (fun p => 8 - p.1) (0, x3) rfl ⟨Ex.refl _ _, Nat.zero_le _, by simpa using s5⟩ ?_
  rintro ⟨i, v⟩ h6 N ⟨e6, hi, s6⟩ hN
  simp only at hi s6
  simp only [m_head_Encode_l20, gv_zero, gv_succ]
  have kb := kb.ext e6
  have k5 := k5.ext e6
  rw [BiP_lss]
  refine cdp (fun hlt => ?_) (fun hge => ?_)
  · have hlt : i < 8 := by omega
    have hnx : (hnums c)[i]? = some ((hnums c)[i]'hlt) := List.getElem?_eq_getElem hlt
    obtain ⟨n0, n1⟩ := hin _ (List.getElem_mem hlt)
    refine ix_own hlt ?_
    refine ld (v := ptr b i) (by
      rw [k5.get]
      have : i = 0 ∨ i = 1 ∨ i = 2 ∨ i = 3 ∨ i = 4 ∨ i = 5 ∨ i = 6 ∨ i = 7 := by omega
      rcases this with rfl | rfl | rfl | rfl | rfl | rfl | rfl | rfl <;> rfl) ?_
    rw [NilP_ptr]
    refine ld (v := int ((hnums c)[i]'hlt)) (by
      rw [kb.get]
      have : i = 0 ∨ i = 1 ∨ i = 2 ∨ i = 3 ∨ i = 4 ∨ i = 5 ∨ i = 6 ∨ i = 7 := by omega
      rcases this with rfl | rfl | rfl | rfl | rfl | rfl | rfl | rfl <;> rfl) ?_
    rw [CvP_int, wrapU rfl (by omega) (by show _ < (2 : Int) ^ 64; omega)]
    have hnn : (hnums c)[i]'hlt = (((hnums c)[i]'hlt).toNat : Int) := by omega
    have hlm : (magic ++ ((hnums c).take i).flatMap (fun n => bytesOf 4 n.toNat)).length ≤ 40 := by
      have : (((hnums c).take i).flatMap (fun n => bytesOf 4 n.toNat)).length = 4 * i := by
        have h4 : ∀ l : List Int, (l.flatMap (fun n => bytesOf 4 n.toNat)).length = 4 * l.length := fun l => by
          induction l with
          | nil => rfl
          | cons a t ih => simp [bytesOf_length, ih]; omega
        rw [h4, List.length_take]
        show 4 * min i 8 = 4 * i
        omega
      simp only [List.length_append, this]
      show 8 + 4 * i ≤ 40
      omega
    rw [hnn]
    refine c_word_Put (w := 4) s6 (.inr (.inr (.inl rfl))) (by omega) (by omega) fun y h7 o7 e7 => ?_
    refine add64 (by omega) ?_
    have := hN (i + 1, y) h7 ⟨e6.trans e7, by show i + 1 ≤ 8; omega, ?_⟩ (by simp only; omega)
    · simpa using this
    · have hti : (hnums c).take (i + 1) = (hnums c).take i ++ [(hnums c)[i]'hlt] := by rw [List.take_add_one, hnx]; rfl
      show Sl No h7 y (magic ++ ((hnums c).take (i + 1)).flatMap (fun n => bytesOf 4 n.toNat))
      rw [hti, List.flatMap_append, ← List.append_assoc]
      simp only [List.flatMap_cons, List.flatMap_nil, List.append_nil]
      exact o7.sl fun _ _ h => h
  · have hi8 : i = 8 := by omega
    subst hi8
    have ht8 : (hnums c).take 8 = hnums c := rfl
    rw [ht8] at s6
    unfold m_head_Encode_j32
    refine fv (v := .int .u32 root) (by rw [kb.get]; rfl) ?_
    rw [CvP_int, wrapU rfl (by omega) (by show _ < (2 : Int) ^ 64; omega)]
    have hl0 : (magic ++ (hnums c).flatMap (fun n => bytesOf 4 n.toNat)).length = 40 := by rw [List.length_append, hnums_len]; rfl
    refine c_word_Put (w := 4) s6 (.inr (.inr (.inl rfl))) (by omega) (by omega) fun v7 h7 o7 e7 => ?_
    have kb := kb.ext e7
    refine fv (v := int ht) (by rw [kb.get]; rfl) ?_
    rw [CvP_int, wrapU rfl (by omega) (by show _ < (2 : Int) ^ 64; omega)]
    refine c_word_Put (w := 4) (o7.sl (U := No) fun _ _ h => h) (.inr (.inr (.inl rfl))) (by omega) (by rw [List.length_append, bytesOf_length]; omega) fun v8 h8 o8 e8 => ?_
    have kb := kb.ext e8
    refine bld_zer (n := 12) (o8.low (Nat.zero_le _)) (by rw [List.length_append, List.length_append, hl0, bytesOf_length, bytesOf_length]; decide) fun v9 h9 o9 b9 => ?_
    have hv8 := o8.block
    have e68 : Ext h6 h8 := e7.trans e8
    have e16 : Ext h1 h6 := e15.trans e6
    have e08 : Ext h h8 := e1.trans (e16.trans e68)
    have l68 := e68.le
    have l16 := e16.le
    have hl8 : h6.size ≤ h7.size := e7.le
    have hx8 : ∀ x, x < h7.size → v8.ownBlock ≠ some x := fun x hx he => by have := hv8 x he; omega
    have kb := b9.blk kb (hx8 _ (by omega))
    have e09 : Ext h h9 := e08.andThen b9.ex fun x hx he => hx8 x (by omega) he
    have hb9 : ∀ x, v9.ownBlock = some x → h.size ≤ x := fun x hx => by
      rcases b9.at_ with h | ⟨c, h, hc⟩
      · rw [h] at hx; have := hv8 x hx; omega
      · rw [h] at hx; cases hx; have := e08.le; omega
    have hbd : magic ++ (hnums c).flatMap (fun n => bytesOf 4 n.toNat) ++ bytesOf 4 root ++ bytesOf 4 ht ++ List.replicate 12 0 = hbody c root ht := rfl
    rw [hbd] at o9
    obtain ⟨a9, m9, c9, rfl⟩ := o9.form
    have hone : (Value.slice a9 m9 c9).oneCell' = true := rfl
    refine bs (n0 := h9.size) (e := t_S_uint8) (zs := #[.slice none 0 0]) [(⟨.slice a9 m9 c9, hone⟩ : Cl)] rfl (Nat.le_refl _) rfl (by decide) (cs := #[.slice a9 m9 c9]) (by kernel_rfl) rfl fun v10 h10 o10 e10 => ?_
    have s10 : Sl No h10 v10 [(⟨.slice a9 m9 c9, hone⟩ : Cl)] := o10.sl fun _ _ h => h
    have o9 := o9.ext e10
    have kb := kb.ext e10
    refine c_check_Sum s10 (o9.sl (U := No) fun _ _ h => h) (by rw [hbody_len]; decide) ?_
    rw [CvP_int, wrapU rfl (by omega) (by have := sumMore_lt 1 (hbody c root ht); show _ < (2 : Int) ^ 64; omega)]
    refine c_word_Put (w := 4) (o9.sl (U := No) fun _ _ h => h) (.inr (.inr (.inl rfl))) (by have := sumMore_lt 1 (hbody c root ht); omega) (by rw [hbody_len]; decide) fun v11 h11 o11 e11 => ?_
    have kb := kb.ext e11
    rw [FaP_ptr]
    refine fv (v := int c.bytes) (by rw [kb.get]; rfl) ?_
    have s11 : Sl No h11 v11 _ := o11.sl fun _ _ h => h
    refine s11.len ?_
    have hl11 : (hbody c root ht ++ bytesOf 4 (sumMore 1 (hbody c root ht))).length = 64 := by rw [List.length_append, hbody_len, bytesOf_length]
    rw [hl11]
    refine sub64 (by omega) ?_
    have hsub : c.bytes - ((64 : Nat) : Int) = ((c.bytes.toNat - 64 : Nat) : Int) := by omega
    rw [hsub]
    refine bld_zer (n := c.bytes.toNat - 64) (o11.low (Nat.zero_le _)) (by rw [hl11]; have := q1.2.2.2.2.2.1; omega) fun v12 h12 o12 b12 => ?_
    have e911 : Ext h9 h11 := e10.trans e11
    have hv11 := o11.block
    have hl10 := e10.le
    have hl09 := e09.le
    have e012 : Ext h h12 := (e09.trans e911).andThen b12.ex fun x hx he => by have := hv11 x he; omega
    refine r v12 h12 (o12.anew fun x hx => ?_) e012
    rcases b12.at_ with h | ⟨c, h, hc⟩
    · rw [h] at hx; have := hv11 x hx; omega
    · rw [h] at hx; cases hx; have := e911.le; omega
end
end Go.Sg
namespace Go.Sg
open Go Vc
section
variable {lab lab' : Nat → Nat} {h h' : Heap} {mp tp sp cp dp dg kept root : Nat} {c : Config} {D D' : List (List UInt8)} {V V' : Nat → List UInt8} {S : Nat → Bool} {rd wr rd' wr' : BitVec 64} {K : Kt} {U : Nat → Prop} {ps : List Pair}
theorem TrS.ext (k : TrS lab h tp sp dp c D V S root ps rd wr) (e : Ext h h') : TrS lab h' tp sp dp c D V S root ps rd wr := by
  obtain ⟨⟨u, k1⟩, k2, k3, k4, k5, k6⟩ := k
  exact ⟨⟨u, k1.ext e⟩, k2.ext e, k3, k4, k5, k6⟩
theorem TrS.lat (k : TrS lab h tp sp dp c D V S root ps rd wr) (a : Lat lab lab' h) : TrS lab' h tp sp dp c D V S root ps rd wr := by
  obtain ⟨⟨u, k1⟩, k2, k3, k4, k5, k6⟩ := k
  exact ⟨⟨u, k1⟩, k2.lat a, (a _ k1.lt).trans k3, k4, k5, k6⟩
theorem TrS.lt (k : TrS lab h tp sp dp c D V S root ps rd wr) : tp < h.size := by
  obtain ⟨⟨u, k1⟩, k2, k3, k4, k5, k6⟩ := k
  exact k1.lt
theorem TrS.ex14 {lo hi : Nat} (k : TrS lab h tp sp dp c D V S root ps rd wr) (e : Ex (Lb lab lo hi) h h') (hl : 14 ≤ lo) : TrS lab h' tp sp dp c D V S root ps rd wr := by
  obtain ⟨⟨u, k1⟩, k2, k3, k4, k5, k6⟩ := k
  exact ⟨⟨u, k1.ex e (nLb k3 (by omega))⟩, k2.ex13 e (by omega), k3, k4, k5, k6⟩
theorem c_tree_Shelf (k : TrS lab h tp sp dp c D V S root ps rd wr) (r : K (ptr sp 0) h) : Ca f_tree_Tree_Shelf #[ptr tp 0] h K := by
  obtain ⟨⟨u, k1⟩, k2, k3, k4, k5, k6⟩ := k
  refine m_tree_Tree_Shelf_ok (c_tree_none k1 ?_)
  rw [CdP_false]
  exact fl (by rw [k1.get]; rfl) r
theorem c_tree_Root (k : TrS lab h tp sp dp c D V S root ps rd wr) (r : K (.int .u32 root) h) : Ca f_tree_Tree_Root #[ptr tp 0] h K := by
  obtain ⟨⟨u, k1⟩, k2, k3, k4, k5, k6⟩ := k
  refine m_tree_Tree_Root_ok (c_tree_none k1 ?_)
  rw [CdP_false]
  exact fl (by rw [k1.get]; rfl) r
theorem c_tree_Height (k : TrS lab h tp sp dp c D V S root ps rd wr) (r : K (int 1) h) : Ca f_tree_Tree_Height #[ptr tp 0] h K := by
  obtain ⟨⟨u, k1⟩, k2, k3, k4, k5, k6⟩ := k
  refine m_tree_Tree_Height_ok (c_tree_none k1 ?_)
  rw [CdP_false]
  refine fl (v := int 0) (by rw [k1.get]; rfl) ?_
  exact add64 (by decide) r
structure MtS (lab : Nat → Nat) (h : Heap) (mp tp sp dp : Nat) (c : Config) (D : List (List UInt8)) (V : Nat → List UInt8) (S : Nat → Bool) (root : Nat) (ps : List Pair) (rd wr : BitVec 64) : Prop where
  blk : Blk h mp [ptr dp 0, ptr tp 0]
  tr : TrS lab h tp sp dp c D V S root ps rd wr
  l14 : lab mp = 14
theorem MtS.ext (k : MtS lab h mp tp sp dp c D V S root ps rd wr) (e : Ext h h') : MtS lab h' mp tp sp dp c D V S root ps rd wr :=
  ⟨k.blk.ext e, k.tr.ext e, k.l14⟩
theorem MtS.lat (k : MtS lab h mp tp sp dp c D V S root ps rd wr) (a : Lat lab lab' h) : MtS lab' h mp tp sp dp c D V S root ps rd wr :=
  ⟨k.blk, k.tr.lat a, (a _ k.blk.lt).trans k.l14⟩
theorem MtS.ex15 {lo hi : Nat} (k : MtS lab h mp tp sp dp c D V S root ps rd wr) (e : Ex (Lb lab lo hi) h h') (hl : 15 ≤ lo) : MtS lab h' mp tp sp dp c D V S root ps rd wr :=
  ⟨k.blk.ex e (nLb k.l14 (by omega)), k.tr.ex14 e (by omega), k.l14⟩
theorem c_mount_none {cs : List Value} {d : Value} (k : Blk h mp (d :: ptr tp 0 :: cs)) (r : K (.bool false) h) : Ca f_mount_Mount_none #[ptr mp 0] h K := by
  refine m_mount_Mount_none_ok (eq_ptr_nil (by kernel_rfl) (fl (by rw [k.get]; rfl) ?_))
  unfold m_mount_Mount_none_j11
  exact eq_ptr_nil (by kernel_rfl) r
theorem c_mount_Head (k : MtS lab h mp tp sp dp c D V S root ps rd wr) (r : ∀ h', Ext h h' → K (.agg (hdv c root 1).toArray) h') : Ca f_mount_Mount_Head #[ptr mp 0] h K := by
  refine m_mount_Mount_Head_ok (ala (cs := [int 0, int 0, int 0, int 0, int 0, int 0, int 0, int 0, .int .u32 0, int 0]) fun b h1 e1 hb kb _ => ?_)
  have k1 := k.ext e1
  refine c_mount_none k1.blk ?_
  rw [CdP_false]
  refine ⟨fun b' _ => b' = mp, ?_⟩
  simp only [NilP_ptr, FaP_ptr]
  refine LdX_b k1.blk (v := ptr tp 0) rfl (fun _ => rfl) ?_
  refine LdX_b k1.blk (v := ptr tp 0) rfl (fun _ => rfl) ?_
  refine LdX_b k1.blk (v := ptr tp 0) rfl (fun _ => rfl) ?_
  refine c_tree_Shelf k1.tr ⟨agr_b (Ex.refl (fun _ => False) _) k1.blk.lt id, ?_⟩
  refine c_shelf_Config k1.tr.sh fun h2 e2 => ⟨agr_b e2 k1.blk.lt id, ?_⟩
  have k2 := k1.ext e2
  refine c_tree_Root k2.tr ⟨agr_b e2 k1.blk.lt id, ?_⟩
  refine c_tree_Height k2.tr ⟨trivial, ?_⟩
  refine ⟨_, (hdv c root 1).toArray, rfl, by kernel_rfl, ?_⟩
  refine StA_b (kb.ext e2) rfl rfl rfl fun h3 hs3 e3 k3 => ⟨trivial, ?_⟩
  refine (LdA_b k3 rfl).2 (r h3 ?_)
  have e12 := e1.trans e2
  exact e12.andThen e3 fun x hx he => by omega
structure ImgD (c : Config) (root : Nat) (ps : List Pair) (D : List (List UInt8)) : Prop where
  hd : D[0]? = some (headOf c root 1)
  lf : D[root]? = some (leafOf c (nl ps))
theorem c_mount_Sync (k : MtS lab h mp tp sp dp c D V S root ps rd wr) (hnf : c.frames.toNat ≤ 12)
    (r : ∀ lab' h' D' V' wr', Lat lab lab' h → MtS lab' h' mp tp sp dp c D' V' S root ps rd wr' → ImgD c root ps D' → Ex (Lb lab 1 12) h h' → K (int 0) h') : Ca f_mount_Mount_Sync #[ptr mp 0] h K := by
  have hr := k.tr.sh.right
  have hb := blocks_eq hr
  have hrl := k.tr.sh.kl
  have hr0 := k.tr.r0
  refine m_mount_Mount_Sync_ok (c_mount_none k.blk ?_)
  rw [CdP_false]
  refine c_mount_Head k fun h1 e1 => ?_
  refine c_head_Encode ⟨hr, by omega, by omega, by decide, by decide⟩ fun y h2 o2 e2 => ?_
  have e12 := e1.trans e2
  rw [ex20, ex21, BiP_neq]
  refine cdp (fun h => absurd rfl h) fun _ => ?_
  have a2 := frl_lat lab h
  have k2 := (k.lat a2).ext e12
  have sy : Sl (Use (frl lab h)) h2 y (headOf c root 1) := Sl.l0 o2 fun b hb => frl_new (by have := e1.le; omega)
  refine fl (by rw [k2.blk.get]; rfl) (c_tree_Shelf k2.tr ?_)
  obtain ⟨kb, ⟨⟨u, t1⟩, t2, t3, t4, t5, t6⟩, l14⟩ := k2
  refine c_shelf_Flush t2 hnf fun l3 h3 D3 w3 a3 hD3 t2' e3 => ?_
  rw [BiP_neq]
  refine cdp (fun h => absurd rfl h) fun _ => ?_
  have kb3 := kb.ex e3 (nLb l14 (by decide))
  refine fl (by rw [kb3.get]; rfl) ?_
  refine t2'.write0 (sy.lat e3 (by decide) a3) (head_len hr) fun h4 t2'' e4 => ?_
  have l14' : l3 mp = 14 := (a3 _ kb.lt).trans l14
  have l13' : l3 tp = 13 := (a3 _ t1.lt).trans t3
  have kb4 := kb3.ex e4 (nLb l14' (by decide))
  have t14 := (t1.ex e3 (nLb t3 (by decide))).ex e4 (nLb l13' (by decide))
  refine r l3 h4 _ _ _ (a2.trans a3 e12.le) ⟨kb4, ⟨⟨u, t14⟩, t2'', l13', hr0, ?_, t6⟩, l14'⟩ ⟨?_, ?_⟩ ?_
  · rw [upd_ne (by omega)]; exact t5
  · rw [List.getElem?_set_self (by have := t2'.dl; omega)]
  · rw [List.getElem?_set_ne (by omega), hD3 root (by have := t2.dl; omega), t5]
  · have e34 : Ex (Lb (frl lab h) 1 12) h2 h4 := a3.ex (Lb.wide e3 (by decide) (by decide)) (Lb.wide e4 (by decide) (by decide))
    exact a2.ex (Ex.toM e12) e34
theorem c_mount_Tree (k : MtS lab h mp tp sp dp c D V S root ps rd wr) (r : K (ptr tp 0) h) : Ca f_mount_Mount_Tree #[ptr mp 0] h K := by
  refine m_mount_Mount_Tree_ok (c_mount_none k.blk ?_)
  rw [CdP_false]
  exact fl (by rw [k.blk.get]; rfl) r
end
end Go.Sg
namespace Go.Sg
open Go Vc
section
variable {lab lab' : Nat → Nat} {h h' : Heap} {c : Config} {K : Kt}
theorem cnt_one {n : Nat} (hn : 2 ≤ n) : cnt n (upd (fun _ => false) 0 true) < n := by
  rcases Nat.lt_or_ge (cnt n (upd (fun _ => false) 0 true)) n with h | h
  · exact h
  · have h2 : cnt n (upd (fun _ => false) 0 true) = n := Nat.le_antisymm cnt_le h
    have := List.countP_eq_length.1 (h2.trans (List.length_range (n := n)).symm) 1 (List.mem_range.2 (by omega))
    rw [upd_ne (by decide)] at this
    cases this
theorem Ex.lab0 {M : Nat → Nat} {h0 h h' : Heap} {lo hi : Nat} (a : Ext h0 h) (e : Ex (Lb M lo hi) h h') (h1 : 0 < lo) (hz : ∀ b, b < h0.size → M b = 0) : Ext h0 h' :=
  a.andThen e fun x hx hm => by
    have := hz x hx
    obtain ⟨q1, q2⟩ := hm
    omega
theorem c_mount_Format (hr : c.Right) (ho : lok c []) (hnf : c.frames.toNat ≤ 12) (h24 : c.blocks.toNat * c.bytes.toNat ≤ 2 ^ 24) (t : Tz h)
    (r : ∀ lab' h' mp tp sp dp D V S root rd wr, MtS lab' h' mp tp sp dp c D V S root [] rd wr → (∀ b, b < h.size → lab' b = 0) → Ext h h' → h.size ≤ dp → K (.tuple #[ptr mp 0, int 0]) h') : Ca f_mount_Format #[c.v] h K := by
  have hb := blocks_eq hr
  have h64 := bytes64 hr
  have h65 := hr.2.2.2.2.2.1
  refine m_mount_Format_ok (bxa (cs := c.cs) fun b h1 e1 hb1 kb _ => ?_)
  refine (LdA_b kb rfl).2 (c_conf_Check (c := c) fun h2 e2 => ?_)
  have kb := kb.ext e2
  rw [if_pos hr, BiP_neq]
  refine cdp (fun h => absurd rfl h) fun _ => ?_
  refine fv (v := int c.blocks) (by rw [kb.get]; rfl) ?_
  refine fv (v := int c.bytes) (by rw [kb.get]; rfl) ?_
  rw [hb.1, hb.2.1]
  refine c_dev_New hb.2.2.2.1 hb.2.2.2.2.1 (by omega) (by omega) h24 fun dg dp h3 hdg hdp d3 e3 => ?_
  have kb := kb.ext e3
  rw [ex20, ex21, BiP_neq]
  refine cdp (fun h => absurd rfl h) fun _ => ?_
  refine (LdA_b kb rfl).2 ?_
  have e03 : Ext h h3 := (e1.trans e2).trans e3
  have t3 := t.ext e03
  have tl := t.lt
  have l02 : h.size ≤ h2.size := (e1.trans e2).le
  refine c_shelf_New d3 hr (by rw [List.length_replicate]) rfl t3 (by omega) (by omega) fun l4 sp h4 a4 k4 hsp e4 => ?_
  rw [ex20, ex21, BiP_neq]
  refine cdp (fun h => absurd rfl h) fun _ => ?_
  have hz : ∀ x, x < h.size → l4 x = 0 := fun x hx => by
    rw [a4 x (Nat.lt_of_lt_of_le hx e03.le)]
    unfold dlab
    rw [if_neg (by omega), if_neg (by omega)]
  have e04 : Ext h h4 := e03.andThen e4 fun x hx hm => by rcases hm with h | h <;> omega
  refine c_tree_New k4 (cnt_one (by omega)) upd_same ho fun tp root l5 h5 D5 V5 rd5 wr5 a5 htp hroot hS k5 e5 => ?_
  have e05 : Ext h h5 := Ex.lab0 e04 e5 (by decide) hz
  rw [ex20, ex21, BiP_neq]
  refine cdp (fun h => absurd rfl h) fun _ => ?_
  refine ⟨_, #[ptr dp 0, ptr tp 0], rfl, rfl, ?_⟩
  refine bxa (cs := [ptr dp 0, ptr tp 0]) fun mp h6 e6 hmp k6 _ => ?_
  let l6 := upd (frl l5 h5) mp 14
  have a6 : Lat l5 l6 h5 := fun x hx => (upd_ne (by omega)).trans (frl_lat l5 h5 x hx)
  have m6 : MtS l6 h6 mp tp sp dp c D5 V5 _ root [] rd5 wr5 := ⟨k6, (k5.lat a6).ext e6, upd_same⟩
  have e06 := e05.trans e6
  have hz6 : ∀ x, x < h.size → l6 x = 0 := fun x hx => by
    have h1 := e04.le
    have h2 := e05.le
    rw [a6 x (by omega), a5 x (by omega), hz x hx]
  refine c_mount_Sync m6 hnf fun l7 h7 D7 V7 wr7 a7 m7 _ e7 => ?_
  rw [BiP_neq]
  refine cdp (fun h => absurd rfl h) fun _ => ?_
  refine r l7 h7 mp tp sp dp D7 V7 _ root rd5 wr7 m7 (fun x hx => ?_) (Ex.lab0 e06 e7 (by decide) hz6) (by omega)
  have := e06.le
  rw [a7 x (by omega), hz6 x hx]
end
end Go.Sg
namespace Go.Sg
open Go Vc
section
variable {t : TypeId} {xo yo : Operand} {h : Heap} {K : Kt} {k : IntKind} {xs ys : List Int}
theorem neq_ptr_same {b o n : Nat} (ht : Pg.underlying t = some (.pointer (Pg.pointee t))) (hn : (Pg.info? (Pg.pointee t)).map (·.size) = some (n + 1)) (r : K (.bool false) h) : EqP .neq t xo yo (ptr b o) (ptr b o) h K := by
  refine eqp (v := .bool false) (fun w => by simp [eqGuard]) (fun w => ?_) r
  cases hq : Pg.info? (Pg.pointee t) with
  | none => rw [hq] at hn; cases hn
  | some inf =>
    rw [hq] at hn
    have hs : inf.size = n + 1 := by simpa using hn
    have he : ∀ d, (Op.equalIn (d + 1) t (ptr b o) (ptr b o)).run Pg w = .ok true w := fun d => by
      simp [Op.equalIn, run_underlying ht, sizeOf, typeInfo, hq, hs, run_sameAddr_same]
    have he : (Op.equal t (ptr b o) (ptr b o)).run Pg w = .ok true w := he 9999
    simp only [binOp]
    simp [he]
end
end Go.Sg
set_option maxRecDepth 100000
namespace Go.Sg
open Go Vc Go.Proofs
def m_kv_Store_Close (x0_ : Value) (h : Heap) (K : Kt) : Prop :=
 BxP t_P_kv_Store x0_ h fun x2 h1 =>
 AlP t_S_uint8 zt_S_uint8 h1 fun x4 h3 =>
 LdP x2 h3 fun x5 =>
 Ca f_kv_Store_count #[x5, (.func (.func f_kv_Store_Close_1) #[] #[x2, x4])] h3 fun x7 h6 =>
 LdP x4 h6 fun x8 =>
 K (.tuple #[x8, x7]) h6
theorem m_kv_Store_Close_ok {x0_ : Value} {h : Heap} {K : Kt} (hh : m_kv_Store_Close x0_ h K) : Ca f_kv_Store_Close #[x0_] h K := cv Tryz.func12 (by kernel_rfl) hh
def m_kv_Store_Range (x0_ x1_ x2_ x3_ : Value) (h : Heap) (K : Kt) : Prop :=
 BxP t_P_kv_Store x0_ h fun x2 h1 =>
 BxP t_string x1_ h1 fun x4 h3 =>
 BxP t_string x2_ h3 fun x6 h5 =>
 BxP t_int x3_ h5 fun x8 h7 =>
 AlP t_S_api_Pair zt_S_api_Pair h7 fun x10 h9 =>
 LdP x2 h9 fun x11 =>
 Ca f_kv_Store_count #[x11, (.func (.func f_kv_Store_Range_1) #[] #[x4, x6, x2, x8, x10])] h9 fun x13 h12 =>
 LdP x10 h12 fun x14 =>
 K (.tuple #[x14, x13]) h12
theorem m_kv_Store_Range_ok {x0_ x1_ x2_ x3_ : Value} {h : Heap} {K : Kt} (hh : m_kv_Store_Range x0_ x1_ x2_ x3_ h K) : Ca f_kv_Store_Range #[x0_, x1_, x2_, x3_] h K := cv Tryz.func30 (by kernel_rfl) hh
def m_kv_New (x0_ : Value) (h : Heap) (K : Kt) : Prop :=
 BxP t_api_Config x0_ h fun x2 h1 =>
 LdA 8 x2 h1 fun x3 =>
 Ca f_mount_Format #[x3] h1 fun x5 h4 =>
 ExP x5 0 fun x6 =>
 ExP x5 1 fun x7 =>
 BiP .neq x7 (.int .i64 0) fun x8 =>
 CdP x8
 (K (.tuple #[(.pointer none), x7]) h4)
 (Ca f_kv_begin #[x6] h4 fun x10 h9 =>
 K (.tuple #[x10, (.int .i64 0)]) h9)
theorem m_kv_New_ok {x0_ : Value} {h : Heap} {K : Kt} (hh : m_kv_New x0_ h K) : Ca f_kv_New #[x0_] h K := cv Tryz.func33 (by kernel_rfl) hh
def m_kv_Store_count_j11 (x5_ : Value) (h : Heap) (K : Kt) : Prop :=
 K x5_ h
def m_kv_Store_count_j67 (x0_ x8_ : Value) (h : Heap) (K : Kt) : Prop :=
 Fla 12 2 x0_ h fun x71 =>
 Fla 10 2 x0_ h fun x74 =>
 Ca f_kv_plus #[x71, x74] h fun x76 h75 =>
 True ∧ (NilP x0_ fun x77 =>
 FaP (some 12) x77 fun x78 =>
 StA 2 x78 x76 h75 fun h79 =>
 True ∧ (K x8_ h79))
def m_kv_Store_count_j50 (x0_ x8_ x49_ : Value) (h : Heap) (K : Kt) : Prop :=
 CdP x49_
 (∃ X51 : XS,
 NilP x0_ fun x52 =>
 FaP (some 10) x52 fun x53 =>
 LaX X51 2 x53 h fun x54 =>
 NilP x0_ fun x55 =>
 FaP (some 8) x55 fun x56 =>
 LdX X51 x56 h fun x57 =>
 Ca f_mount_Mount_Device #[x57] h fun x59 h58 =>
 Agr X51 h h58 ∧ (Ca f_dev_Device_Stats #[x59] h58 fun x61 h60 =>
 Agr X51 h h60 ∧ (Ca f_kv_plus #[x54, x61] h60 fun x63 h62 =>
 True ∧ (NilP x0_ fun x64 =>
 FaP (some 10) x64 fun x65 =>
 StA 2 x65 x63 h62 fun h66 =>
 True ∧ (m_kv_Store_count_j67 x0_ x8_ h66 K)))))
 (m_kv_Store_count_j67 x0_ x8_ h K)
def m_kv_Store_count (x0_ x1_ : Value) (h : Heap) (K : Kt) : Prop :=
 Ca f_kv_Store_open #[x0_] h fun x2 h1 =>
 BiP .neq x2 (.int .i64 0) fun x3 =>
 CdP x3
 (EqP .neq t_P_kv_Store (.tmp 13) (.const (.pointer none)) x0_ (.pointer none) h1 fun x6 h5 =>
 CdP x6
 (BlP bt_api_Stats [] fun x7 =>
 NilP x0_ fun x8 =>
 FaP (some 10) x8 fun x9 =>
 StA 2 x9 x7 h5 fun h10 =>
 m_kv_Store_count_j11 x2 h10 K)
 (m_kv_Store_count_j11 x2 h5 K))
 (Fl 8 x0_ h1 fun x14 =>
 Ca f_mount_Mount_Device #[x14] h1 fun x16 h15 =>
 Ca f_dev_Device_Stats #[x16] h15 fun x18 h17 =>
 AlP t_api_Stats zt_api_Stats h17 fun x20 h19 =>
 StA 2 x20 x18 h19 fun h21 =>
 CvH Pg x1_ #[] h21 fun x23 h22 =>
 ∃ X25 : XS,
 LaX X25 2 x20 h22 fun x26 =>
 Ca f_dev_Device_Stats #[x16] h22 fun x28 h27 =>
 Agr X25 h22 h27 ∧ (Ca f_kv_minus #[x28, x26] h27 fun x30 h29 =>
 True ∧ (NilP x0_ fun x31 =>
 FaP (some 10) x31 fun x32 =>
 StA 2 x32 x30 h29 fun h33 =>
 True ∧ (Fl 8 x0_ h33 fun x38 =>
 EqP .neq t_P_mount_Mount (.tmp 39) (.const (.pointer none)) x38 (.pointer none) h33 fun x40 h39 =>
 CdP x40
 (Fl 8 x0_ h39 fun x43 =>
 Ca f_mount_Mount_Device #[x43] h39 fun x45 h44 =>
 EqP .neq t_P_dev_Device (.tmp 46) (.tmp 47) x45 x16 h44 fun x47 h46 =>
 m_kv_Store_count_j50 x0_ x23 x47 h46 K)
 (m_kv_Store_count_j50 x0_ x23 (.bool false) h39 K)))))
theorem m_kv_Store_count_ok {x0_ x1_ : Value} {h : Heap} {K : Kt} (hh : m_kv_Store_count x0_ x1_ h K) : Ca f_kv_Store_count #[x0_, x1_] h K := cv Tryz.func37 (by kernel_rfl) hh
def m_kv_Store_Close_1 (x0_ x1_ : Value) (h : Heap) (K : Kt) : Prop :=
 LdP x0_ h fun x1 =>
 Fl 8 x1 h fun x4 =>
 Ca f_mount_Mount_Sync #[x4] h fun x6 h5 =>
 BiP .neq x6 (.int .i64 0) fun x7 =>
 CdP x7
 (K x6 h5)
 (LdP x0_ h5 fun x8 =>
 Fl 8 x8 h5 fun x11 =>
 Ca f_mount_Mount_Device #[x11] h5 fun x13 h12 =>
 Ca f_dev_Device_Image #[x13] h12 fun x15 h14 =>
 StP x1_ x15 h14 fun h16 =>
 LdP x0_ h16 fun x17 =>
 Fs 8 x17 (.pointer none) h16 fun h20 =>
 K (.int .i64 0) h20)
theorem m_kv_Store_Close_1_ok {x0_ x1_ : Value} {h : Heap} {K : Kt} (hh : m_kv_Store_Close_1 x0_ x1_ h K) : Ca f_kv_Store_Close_1 #[x0_, x1_] h K := cv Tryz.func38 (by kernel_rfl) hh
def m_kv_Store_Config (x0_ : Value) (h : Heap) (K : Kt) : Prop :=
 AlP t_api_Config zt_api_Config h fun x2 h1 =>
 EqP .eql t_P_kv_Store (.tmp 3) (.const (.pointer none)) x0_ (.pointer none) h1 fun x4 h3 =>
 CdP x4
 (BlP bt_api_Config [] fun x5 =>
 StA 8 x2 x5 h3 fun h6 =>
 LdA 8 x2 h6 fun x7 =>
 K x7 h6)
 (Fla 0 8 x0_ h3 fun x10 =>
 StA 8 x2 x10 h3 fun h11 =>
 LdA 8 x2 h11 fun x12 =>
 K x12 h11)
theorem m_kv_Store_Config_ok {x0_ : Value} {h : Heap} {K : Kt} (hh : m_kv_Store_Config x0_ h K) : Ca f_kv_Store_Config #[x0_] h K := cv Tryz.func48 (by kernel_rfl) hh
def m_kv_Open (x0_ x1_ : Value) (h : Heap) (K : Kt) : Prop :=
 Ca f_dev_From #[x0_, x1_] h fun x2 h1 =>
 ExP x2 0 fun x3 =>
 ExP x2 1 fun x4 =>
 BiP .neq x4 (.int .i64 0) fun x5 =>
 CdP x5
 (K (.tuple #[(.pointer none), x4]) h1)
 (Ca f_mount_Open #[x3] h1 fun x7 h6 =>
 ExP x7 0 fun x8 =>
 ExP x7 1 fun x9 =>
 BiP .neq x9 (.int .i64 0) fun x10 =>
 CdP x10
 (K (.tuple #[(.pointer none), x9]) h6)
 (Ca f_kv_begin #[x8] h6 fun x12 h11 =>
 K (.tuple #[x12, (.int .i64 0)]) h11))
theorem m_kv_Open_ok {x0_ x1_ : Value} {h : Heap} {K : Kt} (hh : m_kv_Open x0_ x1_ h K) : Ca f_kv_Open #[x0_, x1_] h K := cv Tryz.func49 (by kernel_rfl) hh
def m_kv_Store_Range_1_j33 (x6_ : Value) (h : Heap) (K : Kt) : Prop :=
 K x6_ h
def m_kv_Store_Range_1 (x0_ x1_ x2_ x3_ x4_ : Value) (h : Heap) (K : Kt) : Prop :=
 LdP x0_ h fun x2 =>
 LdP x1_ h fun x3 =>
 Ca f_lex_Compare #[x2, x3] h fun x5 h4 =>
 BiP .lss x5 (.int .i64 0) fun x6 =>
 CdP x6
 (∃ X7 : XS,
 LdX X7 x2_ h4 fun x8 =>
 NilP x8 fun x9 =>
 FaP (some 8) x9 fun x10 =>
 LdX X7 x10 h4 fun x11 =>
 LdX X7 x2_ h4 fun x12 =>
 NilP x12 fun x13 =>
 FaP (some 8) x13 fun x14 =>
 LdX X7 x14 h4 fun x15 =>
 LdX X7 x0_ h4 fun x16 =>
 LdX X7 x1_ h4 fun x17 =>
 BlP bt_api_Span [(0, x16), (1, x17)] fun x18 =>
 LdX X7 x3_ h4 fun x19 =>
 Ca f_mount_Mount_Tree #[x11] h4 fun x21 h20 =>
 Agr X7 h4 h20 ∧ (Ca f_tree_Tree_Shelf #[x21] h20 fun x23 h22 =>
 Agr X7 h4 h22 ∧ (Ca f_mount_Mount_Tree #[x15] h22 fun x25 h24 =>
 Agr X7 h4 h24 ∧ (Ca f_tree_Tree_Root #[x25] h24 fun x27 h26 =>
 Agr X7 h4 h26 ∧ (Ca f_scan_Range #[x23, x27, x18, x19] h26 fun x29 h28 =>
 True ∧ (ExP x29 0 fun x30 =>
 ExP x29 1 fun x31 =>
 StP x4_ x30 h28 fun h32 =>
 True ∧ (m_kv_Store_Range_1_j33 x31 h32 K)))))))
 (m_kv_Store_Range_1_j33 (.int .i64 0) h4 K)
theorem m_kv_Store_Range_1_ok {x0_ x1_ x2_ x3_ x4_ : Value} {h : Heap} {K : Kt} (hh : m_kv_Store_Range_1 x0_ x1_ x2_ x3_ x4_ h K) : Ca f_kv_Store_Range_1 #[x0_, x1_, x2_, x3_, x4_] h K := cv Tryz.func57 (by kernel_rfl) hh
def m_kv_begin (x0_ : Value) (h : Heap) (K : Kt) : Prop :=
 Ca f_mount_Mount_Head #[x0_] h fun x2 h1 =>
 FdT (some 0) (.agg 8) x2 fun x3 =>
 BlP bt_kv_Store [(0, x3), (1, x0_), (2, (.bool true))] fun x4 =>
 BxP t_kv_Store x4 h1 fun x6 h5 =>
 K x6 h5
theorem m_kv_begin_ok {x0_ : Value} {h : Heap} {K : Kt} (hh : m_kv_begin x0_ h K) : Ca f_kv_begin #[x0_] h K := cv Tryz.func65 (by kernel_rfl) hh
def m_kv_Store_Put (x0_ x1_ x2_ : Value) (h : Heap) (K : Kt) : Prop :=
 BlP bt_api_Msg [(0, x1_), (2, x2_)] fun x1 =>
 Ca f_kv_Store_put #[x0_, x1] h fun x3 h2 =>
 K x3 h2
theorem m_kv_Store_Put_ok {x0_ x1_ x2_ : Value} {h : Heap} {K : Kt} (hh : m_kv_Store_Put x0_ x1_ x2_ h K) : Ca f_kv_Store_Put #[x0_, x1_, x2_] h K := cv Tryz.func66 (by kernel_rfl) hh
def m_kv_Store_Delete (x0_ x1_ : Value) (h : Heap) (K : Kt) : Prop :=
 BlP bt_api_Msg [(0, x1_), (1, (.bool true))] fun x1 =>
 Ca f_kv_Store_put #[x0_, x1] h fun x3 h2 =>
 K x3 h2
theorem m_kv_Store_Delete_ok {x0_ x1_ : Value} {h : Heap} {K : Kt} (hh : m_kv_Store_Delete x0_ x1_ h K) : Ca f_kv_Store_Delete #[x0_, x1_] h K := cv Tryz.func67 (by kernel_rfl) hh
def m_kv_Store_open_j17 (h : Heap) (K : Kt) : Prop :=
 K (.int .i64 0) h
def m_kv_Store_open_j11 (x0_ x3_ : Value) (h : Heap) (K : Kt) : Prop :=
 CdP x3_
 (K (.int .i64 1) h)
 (Fl 8 x0_ h fun x14 =>
 EqP .eql t_P_mount_Mount (.tmp 17) (.const (.pointer none)) x14 (.pointer none) h fun x16 h15 =>
 CdP x16
 (K (.int .i64 13) h15)
 (m_kv_Store_open_j17 h15 K))
def m_kv_Store_open (x0_ : Value) (h : Heap) (K : Kt) : Prop :=
 EqP .eql t_P_kv_Store (.tmp 4) (.const (.pointer none)) x0_ (.pointer none) h fun x4 h3 =>
 CdP x4
 (m_kv_Store_open_j11 x0_ (.bool true) h3 K)
 (Fl 9 x0_ h3 fun x8 =>
 UnP .not x8 fun x9 =>
 m_kv_Store_open_j11 x0_ x9 h3 K)
theorem m_kv_Store_open_ok {x0_ : Value} {h : Heap} {K : Kt} (hh : m_kv_Store_open x0_ h K) : Ca f_kv_Store_open #[x0_] h K := cv Tryz.func76 (by kernel_rfl) hh
def m_kv_minus (x0_ x1_ : Value) (h : Heap) (K : Kt) : Prop :=
 BxP t_api_Stats x0_ h fun x2 h1 =>
 BxP t_api_Stats x1_ h1 fun x4 h3 =>
 AlP t_api_Stats zt_api_Stats h3 fun x6 h5 =>
 Fv 0 x2 h5 fun x8 =>
 Fv 0 x4 h5 fun x10 =>
 BiP .sub x8 x10 fun x11 =>
 Fv 1 x2 h5 fun x13 =>
 Fv 1 x4 h5 fun x15 =>
 BiP .sub x13 x15 fun x16 =>
 BlP bt_api_Stats [(0, x11), (1, x16)] fun x17 =>
 StA 2 x6 x17 h5 fun h18 =>
 LdA 2 x6 h18 fun x19 =>
 K x19 h18
theorem m_kv_minus_ok {x0_ x1_ : Value} {h : Heap} {K : Kt} (hh : m_kv_minus x0_ x1_ h K) : Ca f_kv_minus #[x0_, x1_] h K := cv Tryz.func78 (by kernel_rfl) hh
def m_kv_plus (x0_ x1_ : Value) (h : Heap) (K : Kt) : Prop :=
 BxP t_api_Stats x0_ h fun x2 h1 =>
 BxP t_api_Stats x1_ h1 fun x4 h3 =>
 AlP t_api_Stats zt_api_Stats h3 fun x6 h5 =>
 Fv 0 x2 h5 fun x8 =>
 Fv 0 x4 h5 fun x10 =>
 BiP .add x8 x10 fun x11 =>
 Fv 1 x2 h5 fun x13 =>
 Fv 1 x4 h5 fun x15 =>
 BiP .add x13 x15 fun x16 =>
 BlP bt_api_Stats [(0, x11), (1, x16)] fun x17 =>
 StA 2 x6 x17 h5 fun h18 =>
 LdA 2 x6 h18 fun x19 =>
 K x19 h18
theorem m_kv_plus_ok {x0_ x1_ : Value} {h : Heap} {K : Kt} (hh : m_kv_plus x0_ x1_ h K) : Ca f_kv_plus #[x0_, x1_] h K := cv Tryz.func79 (by kernel_rfl) hh
def m_kv_Store_put (x0_ x1_ : Value) (h : Heap) (K : Kt) : Prop :=
 BxP t_P_kv_Store x0_ h fun x2 h1 =>
 BxP t_api_Msg x1_ h1 fun x4 h3 =>
 LdP x2 h3 fun x5 =>
 Ca f_kv_Store_count #[x5, (.func (.func f_kv_Store_put_1) #[] #[x2, x4])] h3 fun x7 h6 =>
 K x7 h6
theorem m_kv_Store_put_ok {x0_ x1_ : Value} {h : Heap} {K : Kt} (hh : m_kv_Store_put x0_ x1_ h K) : Ca f_kv_Store_put #[x0_, x1_] h K := cv Tryz.func115 (by kernel_rfl) hh
def m_kv_Store_put_1_j24 (x0_ x1_ : Value) (h : Heap) (K : Kt) : Prop :=
 ∃ X26 : XS,
 LdX X26 x0_ h fun x27 =>
 NilP x27 fun x28 =>
 FaP (some 8) x28 fun x29 =>
 LdX X26 x29 h fun x30 =>
 LaX X26 3 x1_ h fun x31 =>
 Ca f_mount_Mount_Tree #[x30] h fun x33 h32 =>
 Agr X26 h h32 ∧ (Ca f_tree_Tree_Put #[x33, x31] h32 fun x35 h34 =>
 True ∧ (K x35 h34))
def m_kv_Store_put_1_j23 (x0_ x1_ x21_ : Value) (h : Heap) (K : Kt) : Prop :=
 CdP x21_
 (K (.int .i64 2) h)
 (m_kv_Store_put_1_j24 x0_ x1_ h K)
def m_kv_Store_put_1 (x0_ x1_ : Value) (h : Heap) (K : Kt) : Prop :=
 LdP x0_ h fun x3 =>
 Fla 0 8 x3 h fun x6 =>
 Fv 0 x1_ h fun x8 =>
 Ca f_node_Key #[x6, x8] h fun x10 h9 =>
 True ∧ (UnP .not x10 fun x11 =>
 CdP x11
 (m_kv_Store_put_1_j23 x0_ x1_ (.bool true) h9 K)
 (Fv 2 x1_ h9 fun x14 =>
 LenP (some false) x14 fun x15 =>
 LdP x0_ h9 fun x16 =>
 NilP x16 fun x17 =>
 FaP (some 0) x17 fun x18 =>
 Fv 7 x18 h9 fun x20 =>
 BiP .gtr x15 x20 fun x21 =>
 m_kv_Store_put_1_j23 x0_ x1_ x21 h9 K))
theorem m_kv_Store_put_1_ok {x0_ x1_ : Value} {h : Heap} {K : Kt} (hh : m_kv_Store_put_1 x0_ x1_ h K) : Ca f_kv_Store_put_1 #[x0_, x1_] h K := cv Tryz.func165 (by kernel_rfl) hh
end Go.Sg
namespace Go.Sg
open Go Vc
def kvc (c : Config) (m : Value) (made : Bool) (a b d e : BitVec 64) : List Value := c.cs ++ [m, .bool made, w64 a, w64 b, w64 d, w64 e]
def Config.zero : Config := ⟨0, 0, 0, 0, 0, 0, 0, 0⟩
def kz : List Value := kvc .zero (.pointer none) false 0 0 0 0
def Nob (h : Heap) (s : Value) : Prop := s = .pointer none ∨ ∃ b, s = ptr b 0 ∧ Blk h b kz
def own1 (s : Value) : Nat → Prop := fun x => s = ptr x 0
section
variable {h h' : Heap} {K : Kt} {s : Value} {H : Heap → Prop}
theorem StA_at {b o n} {vs cs ds : List Value} (k : Blk h b cs) (ho : o + n ≤ cs.length) (hl : vs.length = n) (hv : vs.all one' = true) (hd : over cs o vs = ds) (r : ∀ h', h'.size = h.size → Ex (fun x => x = b) h h' → Blk h' b ds → H h') : StA n (ptr b o) (.agg vs.toArray) h H :=
  StA_blk k ho hl hv (r _ (size_hsets _ _ _ _) (hsets_ex rfl) (by have := hsets_blk vs o k; rwa [hd] at this))
theorem Nob.ext (n : Nob h s) (e : Ext h h') : Nob h' s := n.imp id fun ⟨b, h1, h2⟩ => ⟨b, h1, h2.ext e⟩
theorem Nob.ptr (n : Nob h s) : one' s = true := by rcases n with rfl | ⟨b, rfl, _⟩ <;> rfl
theorem Nob.lt (n : Nob h s) {x : Nat} (hx : own1 s x) : x < h.size := by
  rcases n with rfl | ⟨b, rfl, k⟩
  · cases hx
  · cases hx; exact k.lt
theorem own1_new {b : Nat} (n : Nob h s) (hb : h.size ≤ b) : ¬ own1 s b := fun hx => by have := n.lt hx; omega
theorem c_kv_open_nob (n : Nob h s) (r : K (int 1) h) : Ca f_kv_Store_open #[s] h K := by
  rcases n with rfl | ⟨b, rfl, k⟩
  · refine m_kv_Store_open_ok (eq_ptr_nil (by kernel_rfl) ?_)
    exact r
  · refine m_kv_Store_open_ok (eq_ptr_nil (by kernel_rfl) (fl (v := .bool false) (by rw [k.get]; rfl) ?_))
    rw [UnP_not]
    exact r
theorem c_kv_count_nob {f : Value} (n : Nob h s) (r : ∀ h', Nob h' s → Ex (own1 s) h h' → K (int 1) h') : Ca f_kv_Store_count #[s, f] h K := by
  refine m_kv_Store_count_ok (c_kv_open_nob n ?_)
  rw [BiP_neq]
  refine cdp (fun _ => ?_) fun h => absurd (by decide) h
  rcases n with rfl | ⟨b, rfl, k⟩
  · refine neq_ptr_nil (by kernel_rfl) ?_
    exact r h (.inl rfl) (Ex.refl _ _)
  · refine neq_ptr_nil (by kernel_rfl) ?_
    refine ⟨_, #[w64 0, w64 0], rfl, rfl, ?_⟩
    show NilP (ptr b 0) _
    rw [NilP_ptr, FaP_ptr]
    refine StA_at (vs := [w64 0, w64 0]) k (by decide) rfl rfl (ds := kz) rfl fun h1 hs1 e1 k1 => ?_
    exact r h1 (.inr ⟨b, rfl, k1⟩) (e1.mono fun x _ hx => by subst hx; rfl)
theorem Nob.cells (n : Nob h s) : s.cells.toList = [s] := by rcases n with rfl | ⟨b, rfl, k⟩ <;> rfl
theorem c_kv_Range_nob {lo hi : Str} {m : Int} (n : Nob h s) (r : ∀ h', Nob h' s → Ex (own1 s) h h' → K (.tuple #[.slice none 0 0, int 1]) h') : Ca f_kv_Store_Range #[s, str lo, str hi, int m] h K := by
  refine m_kv_Store_Range_ok (bx (fun b1 h1 e1 hb1 k1 _ => bx fun b2 h2 e2 hb2 k2 _ => bx fun b3 h3 e3 hb3 k3 _ => bx fun b4 h4 e4 hb4 k4 _ => al fun b5 h5 e5 hb5 k5 _ => ?_))
  rw [n.cells] at k1
  have e15 : Ext h1 h5 := ((e2.trans e3).trans e4).trans e5
  have k1 := k1.ext e15
  have hl := (((e1.trans e2).trans e3).trans e4).le
  refine ld (v := s) (by rw [k1.get]; rfl) ?_
  refine c_kv_count_nob ((n.ext e1).ext e15) fun h6 n6 e6 => ?_
  have k5 := k5.ex e6 (own1_new n (by omega))
  refine ld (v := .slice none 0 0) (by rw [k5.get]; rfl) ?_
  exact r h6 n6 ((Ex.toM (e1.trans e15)).trans e6)
end
end Go.Sg
