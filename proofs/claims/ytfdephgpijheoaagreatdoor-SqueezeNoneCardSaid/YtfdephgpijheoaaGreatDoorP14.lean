/-
  Part 14 of a proof: own texts, merged by program.
-/
import Derived.Test.YtfdephgpijheoaaGreatDoorP13
set_option linter.unusedVariables false
set_option linter.unusedSimpArgs false
namespace Go.Sg
open Go Vc
def rangeK (ps : List Pair) (lo hi : Str) (n : Int) : List Pair := if lo < hi then rangeOf ps ⟨lo, hi, false⟩ n else []
section
variable {lab lab' : Nat → Nat} {h h' : Heap} {K : Kt} {s : Nat} {c : Config} {ps : List Pair} {lo hi : Str} {n : Int}
theorem c_kv_Range (k : KvS lab h s c ps) (hn : n < 9223372036854775808)
    (r : ∀ lab' h' v, Lat lab lab' h → KvS lab' h' s c ps → Ow h.size t_api_Pair h' v (rangeK ps lo hi n) → (∀ b, v.ownBlock = some b → lab' b = 0) → Ex (Lb lab 1 15) h h' → K (.tuple #[v, int 0]) h') : Ca f_kv_Store_Range #[ptr s 0, str lo, str hi, int n] h K := by
  refine m_kv_Store_Range_ok (bx (v := ptr s 0) (fun b1 h1 e1 hb1 k1 _ => bx (v := str lo) fun b2 h2 e2 hb2 k2 _ => bx (v := str hi) fun b3 h3 e3 hb3 k3 _ => bx (v := int n) fun b4 h4 e4 hb4 k4 _ => al fun b5 h5 e5 hb5 k5 _ => ?_))
  have hl1 := e1.le
  have hl2 := e2.le
  have hl3 := e3.le
  have hl4 := e4.le
  have e25 : Ext h2 h5 := (e3.trans e4).trans e5
  have e15 := e2.trans e25
  have k1 := k1.ext e15
  have k2 := k2.ext e25
  have k3 := k3.ext (e4.trans e5)
  have k4 := k4.ext e5
  have e05 := e1.trans e15
  refine ld (v := ptr s 0) (by rw [k1.get]; rfl) ?_
  let lab0 := loc lab h b5
  have a0 : Lat lab lab0 h := loc_lat lab (by omega)
  have q5 : lab0 b5 = 99 := loc_at
  have q1 : lab0 b1 = 0 := (upd_ne (by omega)).trans (frl_new (by omega))
  have kk := (k.lat a0).ext e05
  obtain ⟨mp, tp, sp, dp, D, V, S, root, rd, wr, a, b, d, e, ks, km, l15⟩ := kk
  obtain ⟨dg, kd, _, _⟩ := km.ds l15
  refine c_kv_count ks km.blk kd (km.ne l15) l15 fun h6 Q e6 hQ => cvhc (by kernel_rfl) ?_
  show Ca f_kv_Store_Range_1 #[ptr b2 0, ptr b3 0, ptr b1 0, ptr b4 0, ptr b5 0] h6 Q
  let l6 := frl lab0 h5
  have a6 : Lat lab0 l6 h5 := frl_lat _ _
  have km6 := (km.lat a6).ext e6
  have ks6 := ks.ext e6
  have k16 := k1.ext e6
  have k26 := k2.ext e6
  have k36 := k3.ext e6
  have k46 := k4.ext e6
  have k56 := k5.ext e6
  have l15' : l6 s = 15 := (a6 _ ks.lt).trans l15
  have l14' : l6 mp = 14 := km6.l14
  have q5' : l6 b5 = 99 := (a6 _ k5.lt).trans q5
  have hbs : b5 ≠ s := fun h => by rw [h, l15] at q5; omega
  have a06 : Lat lab l6 h := a0.trans a6 e05.le
  have e06 : Ext h h6 := e05.trans e6
  have hl06 := e06.le
  have hl05 : h.size ≤ h5.size := e05.le
  have fin : ∀ (l8 : Nat → Nat) (h8 h9 : Heap) D8 rd8 wr8 (v : Value), Lat l6 l8 h6 → MtS l8 h8 mp tp sp dp c D8 V S root ps rd8 wr8 → Blk h8 s (kvc c (ptr mp 0) true a b d e) → Ow h6.size t_api_Pair h8 v (rangeK ps lo hi n) → (∀ x, v.ownBlock = some x → l8 x = 0) → Ex (Lb l6 1 12) h6 h8 → Ex (fun x => x = b5) h8 h9 → Blk h9 b5 [v] → Q (int 0) h9 := fun l8 h8 h9 D8 rd8 wr8 v a8 km8 ks8 o8 z8 e8 e9 k59 => by
    have l158 : l8 s = 15 := (a8 _ ks6.lt).trans l15'
    have q58 : l8 b5 = 99 := (a8 _ k56.lt).trans q5'
    have e9' : Ex (Lb l8 99 99) h8 h9 := one_lb e9 ⟨by rw [q58]; decide, by rw [q58]; decide⟩
    have km9 := km8.ex15 e9' (by decide)
    have ks9 := ks8.ex e9' (nLb l158 (by decide))
    obtain ⟨dg9, kd9, n1, n2⟩ := km9.ds l158
    have e69 : Ex (Lb l6 1 99) h6 h9 := a8.ex (Lb.wide e8 (by decide) (by decide)) (Lb.wide e9' (by decide) (by decide))
    refine hQ (int 0) h9 (ptr mp 0) dg9 _ _ _ _ ks9 (.inr ⟨rfl, km9.blk⟩) kd9 ⟨n1, n2⟩ e69 fun hz a' b' d' e' ez ksz => ?_
    have ez' : Ex (Lb l8 15 15) h9 hz := one_lb ez ⟨by rw [l158]; decide, by rw [l158]; decide⟩
    have k5z := k59.ex ez hbs
    refine ld (v := v) (by rw [k5z.get]; rfl) ?_
    have hb5l : b5 < h6.size := k56.lt
    have hsl : s < h6.size := ks6.lt
    have ob : ∀ x, v.ownBlock = some x → h6.size ≤ x := o8.block
    have oz : Ow h6.size t_api_Pair hz v (rangeK ps lo hi n) := (o8.exb e9 fun x hx he => by have := ob x hx; omega).exb ez fun x hx he => by have := ob x hx; omega
    refine r l8 hz v (a06.trans a8 hl06) ⟨mp, tp, sp, dp, D8, V, S, root, rd8, wr8, a', b', d', e', ksz, km9.ex15 ez' (by decide), l158⟩ (oz.low hl06) z8 ?_
    have e08 : Ex (Lb lab 1 15) h h8 := a06.ex (Ex.toM e06) (Lb.wide e8 (by decide) (by decide))
    have e09 : Ex (Lb lab 1 15) h h9 := e08.fresh e9 fun y hy he => by omega
    exact (a06.trans a8 hl06).ex e09 (Lb.wide ez' (by decide) (by decide))
  refine m_kv_Store_Range_1_ok (ld (v := str lo) (by rw [k26.get]; rfl) (ld (v := str hi) (by rw [k36.get]; rfl) (c_lex_Compare ?_)))
  rw [BiP_lss]
  refine cdp (fun hlt => ?_) (fun hge => ?_)
  · have hlt : lo < hi := cmp_lt.1 hlt
    refine ⟨fun b' _ => b' = b1 ∨ b' = b2 ∨ b' = b3 ∨ b' = b4 ∨ b' = s, ?_⟩
    refine LdX_b k16 (v := ptr s 0) rfl (fun _ => .inl rfl) ?_
    rw [NilP_ptr, FaP_ptr]
    refine LdX_b ks6 (v := ptr mp 0) rfl (fun _ => .inr (.inr (.inr (.inr rfl)))) ?_
    refine LdX_b k16 (v := ptr s 0) rfl (fun _ => .inl rfl) ?_
    rw [NilP_ptr, FaP_ptr]
    refine LdX_b ks6 (v := ptr mp 0) rfl (fun _ => .inr (.inr (.inr (.inr rfl)))) ?_
    refine LdX_b k26 (v := str lo) rfl (fun _ => .inr (.inl rfl)) ?_
    refine LdX_b k36 (v := str hi) rfl (fun _ => .inr (.inr (.inl rfl))) ?_
    refine ⟨_, #[str lo, str hi, .bool false], rfl, rfl, ?_⟩
    refine LdX_b k46 (v := int n) rfl (fun _ => .inr (.inr (.inr (.inl rfl)))) ?_
    have same : ∀ X : XS, Agr X h6 h6 := fun X b o _ => rfl
    refine c_mount_Tree km6 ⟨same _, c_tree_Shelf km6.tr ⟨same _, c_mount_Tree km6 ⟨same _, c_tree_Root km6.tr ⟨same _, ?_⟩⟩⟩⟩
    obtain ⟨kb6, ⟨⟨u, t1⟩, t2, t3, t4, t5, t6⟩, _⟩ := km6
    refine c_scan_Range (p := ⟨lo, hi, false⟩) t2 t4 t2.kl t5 t6 hn fun l8 h8 D8 rd8 wr8 v a8 k8 o8 z8 e8 => ⟨trivial, ?_⟩
    rw [ex20, ex21]
    have k58 := k56.ex e8 (nLb q5' (by decide))
    refine StP_b k58 (show 0 < 1 by decide) (by rw [one_eq]; exact o8.one) fun h9 _ e9 k59 => ⟨trivial, ?_⟩
    have kb8 := kb6.ex e8 (nLb l14' (by decide))
    have t18 := t1.ex e8 (nLb t3 (by decide))
    have ks8 := ks6.ex e8 (nLb l15' (by decide))
    exact fin l8 h8 h9 D8 rd8 wr8 v a8 ⟨kb8, ⟨⟨u, t18⟩, k8, (a8 _ t1.lt).trans t3, t4, t5, t6⟩, (a8 _ kb6.lt).trans l14'⟩ ks8 (by rw [rangeK, if_pos hlt]; exact o8) z8 e8 e9 k59
  · have hge : ¬ lo < hi := fun h => hge (cmp_lt.2 h)
    exact fin l6 h6 h6 D rd wr _ (Lat.refl _ _) km6 ks6 (by rw [rangeK, if_neg hge]; exact Ow.nil _ _ _) (fun x hx => by cases hx) (Ex.refl _ _) (Ex.refl _ _) k56
theorem c_kv_Range_closed (k : KvX h s c) (r : ∀ h', KvX h' s c → Ex (fun x => x = s) h h' → K (.tuple #[.slice none 0 0, int 13]) h') : Ca f_kv_Store_Range #[ptr s 0, str lo, str hi, int n] h K := by
  refine m_kv_Store_Range_ok (bx (v := ptr s 0) (fun b1 h1 e1 hb1 k1 _ => bx (v := str lo) fun b2 h2 e2 hb2 k2 _ => bx (v := str hi) fun b3 h3 e3 hb3 k3 _ => bx (v := int n) fun b4 h4 e4 hb4 k4 _ => al fun b5 h5 e5 hb5 k5 _ => ?_))
  have hl := (((e1.trans e2).trans e3).trans e4).le
  have e25 : Ext h2 h5 := (e3.trans e4).trans e5
  have e15 := e2.trans e25
  have k1 := k1.ext e15
  have e05 := e1.trans e15
  have hs : s < h.size := by obtain ⟨_, _, _, _, q⟩ := k; exact q.lt
  refine ld (v := ptr s 0) (by rw [k1.get]; rfl) ?_
  refine c_kv_count_closed (k.ext e05) fun h6 k6 e6 => ?_
  have k56 := k5.ex e6 (show ¬ b5 = s by omega)
  refine ld (v := .slice none 0 0) (by rw [k56.get]; rfl) ?_
  exact r h6 k6 ((Ex.toM e05).trans e6)
end
end Go.Sg
namespace Go.Sg
open Go Vc
section
variable {h : Heap} {K : Kt} {n : Nat} {D : List (List UInt8)} {U : Nat → Prop} {x : Value}
theorem c_dev_From (h1 : 5 ≤ D.length) (h2 : D.length ≤ 65536) (h3 : 1 ≤ n) (h4 : n ≤ 65536) (hall : ∀ b ∈ D, b.length = n) (s : Sl U h x D.flatten) (r : ∀ g p h', h.size ≤ g → h.size ≤ p → Dv g p h' n D 0 0 → Ext h h' → K (.tuple #[ptr p 0, int 0]) h') : Ca f_dev_From #[int n, x] h K := by
  have hl := fl_len hall
  have hm : D.length * n ≤ 4294967296 := mul_le32 h2 h4
  have hpos : 5 ≤ D.length * n := Nat.le_trans h1 (Nat.le_mul_of_pos_right _ h3)
  refine m_dev_From_ok ?_
  unfold m_dev_From
  rw [BiP_lss]
  refine cdp (fun h => absurd h (by omega)) fun _ => s.len ?_
  rw [hl]
  have er : (((D.length * n : Nat) : Int)).tmod (n : Int) = 0 := by
    show ((D.length * n % n : Nat) : Int) = _
    rw [Nat.mul_mod_left]; rfl
  refine rem64 (by omega) ?_
  rw [er, BiP_neq]
  refine cdp (fun h => absurd rfl h) fun _ => s.len ?_
  rw [hl]
  have e : (((D.length * n : Nat) : Int)).tdiv (n : Int) = (D.length : Int) := by
    show ((D.length * n / n : Nat) : Int) = _
    rw [Nat.mul_div_cancel _ (by omega)]
  refine quo64 (by omega) (by rw [e]; omega) ?_
  rw [e]
  refine c_dev_right h1 h2 h3 h4 ?_
  rw [UnP_not]
  unfold m_dev_From_j17
  refine cd (fun h => absurd h (by decide)) fun _ => ?_
  unfold m_dev_From_j18
  refine c_Clone_byte s (by omega) fun v h1' o1 e1 => ?_
  rcases o1.cases' with ⟨_, hn⟩ | ⟨g, cap, rfl, hg, og⟩
  · have := congrArg List.length hn
    simp only [List.length_nil] at this
    omega
  refine ⟨_, #[int n, .slice (some ⟨g, 0, none⟩) D.flatten.length cap, w64 0, w64 0], rfl, rfl, ?_⟩
  refine bxa (cs := [int n, .slice (some ⟨g, 0, none⟩) D.flatten.length cap, w64 0, w64 0]) fun p h2' e2 hb k2 _ => ?_
  have hgl := og.lt
  exact r g p h2' hg (by have := e1.le; omega) ⟨h1, h2, h3, h4, hall, by omega, cap, by rw [← hl]; exact k2, og.ext e2⟩ (e1.trans e2)
end
end Go.Sg
namespace Go.Sg
open Go Vc
theorem Rd.turn {rb b : Nat} {h h' : Heap} {l : List UInt8} {er : Int} {cs : List Value} (rd : Rd rb h l er) (k : Blk h b cs) (hcs : ∀ v ∈ cs, ∀ n, v ≠ .int .u8 n) (hb : b ≠ rb) (e : Ex (fun x => x = b) h h') : Rd rb h' l er := by
  obtain ⟨v, k1, s⟩ := rd
  refine ⟨v, k1.ex e (fun h => hb h.symm), ?_⟩
  obtain ⟨a, cap, hv, h1, h2, h3⟩ := s.out
  refine ⟨a, cap, hv, h1, h2, fun x hx => ⟨(h3 x hx).1, fun hl => ?_⟩⟩
  obtain ⟨q1, q2, q3⟩ := (h3 x hx).2 hl
  have hne : x.block ≠ b := fun he => by
    match l, hl with
    | c :: t, _ =>
      have := q3 0 (.int .u8 c.toNat) rfl
      rw [he, k.get] at this
      exact hcs _ (List.mem_of_getElem? this) _ rfl
  refine ⟨Nat.lt_of_lt_of_le q1 e.le, q2, fun j w hj => ?_⟩
  rw [hget_eq (e.eq _ q1 hne)]; exact q3 j w hj
section
variable {h : Heap} {K : Kt} {c : Config} {root ht : Nat} {U : Nat → Prop} {x : Value}
def hcl (c : Config) (i : Nat) : List Value := ((hnums c).take i).map (Value.int .i64) ++ List.replicate (8 - i) (int 0) ++ [.int .u32 0, int 0]
theorem hcl_no8 (i : Nat) : ∀ v ∈ hcl c i, ∀ n, v ≠ .int .u8 n := fun v hv n he => by
  subst he
  unfold hcl at hv
  rcases List.mem_append.1 hv with hv | hv
  · rcases List.mem_append.1 hv with hv | hv
    · obtain ⟨a, _, ha⟩ := List.mem_map.1 hv; cases ha
    · have := List.eq_of_mem_replicate hv; cases this
  · simp at hv
theorem hcl_set {i : Nat} (hi : i < 8) : (hcl c i).set i (int ((hnums c)[i]'hi)) = hcl c (i + 1) := by
  have : i = 0 ∨ i = 1 ∨ i = 2 ∨ i = 3 ∨ i = 4 ∨ i = 5 ∨ i = 6 ∨ i = 7 := by omega
  rcases this with rfl | rfl | rfl | rfl | rfl | rfl | rfl | rfl <;> rfl
theorem hcl_len {i : Nat} (hi : i ≤ 8) : (hcl c i).length = 10 := by
  unfold hcl
  have : (hnums c).length = 8 := rfl
  simp [List.length_take, this]; omega
theorem c_head_Decode (hr : hok c root ht) (s : Sl U h x (headOf c root ht)) (r : ∀ h', Ext h h' → K (.tuple #[.agg (hdv c root ht).toArray, int 0]) h') : Ca f_head_Decode #[x] h K := by
  have hrr := hr
  obtain ⟨q1, q2, q3, q4, q5⟩ := hr
  have hb := blocks_eq q1
  have hin := hnums_in q1
  have hlen := head_len (root := root) (ht := ht) q1
  have h65 := q1.2.2.2.2.2.1
  refine m_head_Decode_ok (ala (cs := hcl c 0) fun b2 h1 e1 hb2 k2 _ => ala (cs := hcl c 0) fun b4 h2 e2 hb4 k4 _ => ?_)
  have e12 := e1.trans e2
  have k2 := k2.ext e2
  have hl1 := e1.le
  have hl12 := e12.le
  refine c_word_Open (s.ext e12) (by omega) fun rb h3 hrb rd3 e3 => ?_
  have hh : headOf c root ht = magic ++ ((hnums c).flatMap (fun (n : Int) => bytesOf 4 n.toNat) ++ (bytesOf 4 root ++ (bytesOf 4 ht ++ (List.replicate 12 0 ++ bytesOf 4 (sumMore 1 (hbody c root ht)) ++ List.replicate (c.bytes.toNat - 64) 0)))) := by
    simp only [headOf, hbody, List.append_assoc]
  rw [hh] at rd3
  have hb2l : b2 < h1.size := by
    have := e1; omega
  have hb4l := k4.lt
  refine c_word_Raw (n := 8) rd3 (by simp [magic]) (by decide) fun v4 h4 _ rd4 e4 => ?_
  have hd8 : (magic ++ ((hnums c).flatMap (fun (n : Int) => bytesOf 4 n.toNat) ++ (bytesOf 4 root ++ (bytesOf 4 ht ++ (List.replicate 12 0 ++ bytesOf 4 (sumMore 1 (hbody c root ht)) ++ List.replicate (c.bytes.toNat - 64) 0))))).drop 8 = (hnums c).flatMap (fun (n : Int) => bytesOf 4 n.toNat) ++ (bytesOf 4 root ++ (bytesOf 4 ht ++ (List.replicate 12 0 ++ bytesOf 4 (sumMore 1 (hbody c root ht)) ++ List.replicate (c.bytes.toNat - 64) 0))) := rfl
  rw [hd8] at rd4
  have k2 := (k2.ext e3).ex e4 (show ¬ b2 = rb by omega)
  have k4 := (k4.ext e3).ex e4 (show ¬ b4 = rb by omega)
  have e04 : Ext h h4 := (e12.trans e3).andThen e4 fun y hy he => by have h1 : y = rb := he; omega
  refine c_head_numbers fun h5 e5 => ?_
  refine alst (vs := nums b4) rfl rfl rfl fun b6 h6 e6 hb6 k6 _ => ?_
  refine sl_arr ?_
  refine ⟨_, _, _, rfl, ?_⟩
  have e56 := e5.trans e6
  have k2 := k2.ext e56
  have k4 := k4.ext e56
  have rd6 := rd4.ext e56
  have e06 := e04.trans e56
  have hrl : rb < h4.size := rd4.ne
  have hl5 : h4.size ≤ h5.size := e5.le
  refine lop (σ := Nat) (fun i => [int i]) (fun i h' => Ext h h' ∧ i ≤ 8 ∧ Blk h' b2 (hcl c 0) ∧ Blk h' b4 (hcl c i) ∧ Blk h' b6 (nums b4) ∧
      Rd rb h' (((hnums c).drop i).flatMap (fun (n : Int) => bytesOf 4 n.toNat) ++ (bytesOf 4 root ++ (bytesOf 4 ht ++ (List.replicate 12 0 ++ bytesOf 4 (sumMore 1 (hbody c root ht)) ++ List.replicate (c.bytes.toNat - 64) 0)))) 0)
    (fun i => 8 - i) 0 rfl ⟨e06, Nat.zero_le _, k2, k4, k6, rd6⟩ ?_
  rintro i h7 N ⟨e7, hi, k27, k47, k67, rd7⟩ hN
  simp only [m_head_Decode_l18, gv_zero]
  rw [BiP_lss]
  refine cdp (fun hlt => ?_) (fun hge => ?_)
  · have hlt : i < 8 := by omega
    obtain ⟨n0, n1⟩ := hin _ (List.getElem_mem (show i < (hnums c).length from hlt))
    refine ix_own hlt ?_
    refine ld (v := ptr b4 i) (by
      rw [k67.get]
      have : i = 0 ∨ i = 1 ∨ i = 2 ∨ i = 3 ∨ i = 4 ∨ i = 5 ∨ i = 6 ∨ i = 7 := by omega
      rcases this with rfl | rfl | rfl | rfl | rfl | rfl | rfl | rfl <;> rfl) ?_
    have hdr : (hnums c).drop i = ((hnums c)[i]'hlt) :: (hnums c).drop (i + 1) := List.drop_eq_getElem_cons hlt
    rw [hdr, List.flatMap_cons, List.append_assoc] at rd7
    refine c_Num (w := 4) rd7 (.inr (.inr (.inl rfl))) (by show _ < (256 : Nat) ^ 4; omega) fun h8 rd8 e8 => ?_
    rw [CvP_int, wrap64 (by omega) (by omega), NilP_ptr]
    have k28 := k27.ex e8 (show ¬ b2 = rb by omega)
    have k48 := k47.ex e8 (show ¬ b4 = rb by omega)
    have k68 := k67.ex e8 (show ¬ b6 = rb by omega)
    refine StP_b k48 (by rw [hcl_len hi]; omega) rfl fun h9 _ e9 k49 => ?_
    have hv : (((hnums c)[i]'hlt).toNat : Int) = (hnums c)[i]'hlt := by omega
    rw [hv, hcl_set hlt] at k49
    refine add64 (by omega) ?_
    have e79 : Ext h h9 := (e7.andThen e8 fun y hy he => by have h1 : y = rb := he; omega).andThen e9 fun y hy he => by omega
    have := hN (i + 1) h9 ⟨e79, by omega, k28.ex e9 (show ¬ b2 = b4 by omega), k49, k68.ex e9 (show ¬ b6 = b4 by omega), rd8.turn k48 (hcl_no8 i) (by omega) e9⟩ (by omega)
    simpa using this
  · have hi8 : i = 8 := by omega
    subst hi8
    have hd0 : (hnums c).drop 8 = [] := rfl
    rw [hd0, List.flatMap_nil, List.nil_append] at rd7
    unfold m_head_Decode_j30
    refine c_Num (w := 4) rd7 (.inr (.inr (.inl rfl))) (by show _ < (256 : Nat) ^ 4; omega) fun h8 rd8 e8 => ?_
    have k28 := k27.ex e8 (show ¬ b2 = rb by omega)
    have k48 := k47.ex e8 (show ¬ b4 = rb by omega)
    rw [CvP_int, wrap32 (by omega) (by omega), FaP_ptr]
    refine StP_b k48 (show 0 + 8 < 10 by decide) rfl fun h9 _ e9 k49 => ?_
    have rd9 := rd8.turn k48 (hcl_no8 8) (by omega) e9
    have k29 := k28.ex e9 (show ¬ b2 = b4 by omega)
    refine c_Num (w := 4) rd9 (.inr (.inr (.inl rfl))) (by show _ < (256 : Nat) ^ 4; omega) fun h10 rd10 e10 => ?_
    have k210 := k29.ex e10 (show ¬ b2 = rb by omega)
    have k410 := k49.ex e10 (show ¬ b4 = rb by omega)
    rw [CvP_int, wrap64 (by omega) (by omega), FaP_ptr]
    refine StP_b k410 (show 0 + 9 < 10 by decide) rfl fun h11 _ e11 k411 => ?_
    have k411 : Blk h11 b4 (hdv c root ht) := k411
    have k211 := k210.ex e11 (show ¬ b2 = b4 by omega)
    have rd11 := rd10.turn k410 (fun v hv n he => by subst he; simp [hcl, hnums] at hv) (by omega) e11
    have e811 : Ext h h11 := ((((e7.andThen e8 fun y hy he => by have h1 : y = rb := he; omega).andThen e9 fun y hy he => by omega).andThen e10 fun y hy he => by have h1 : y = rb := he; omega)).andThen e11 fun y hy he => by omega
    refine c_word_Err rd11 ?_
    rw [BiP_neq]
    refine cdp (fun h => absurd rfl h) fun _ => ?_
    refine (LdA_b k411 rfl).2 ?_
    refine c_head_Encode hrr fun y h12 o12 e12 => ?_
    rw [ex20, ex21, BiP_neq]
    refine cdp (fun h => absurd rfl h) fun _ => ?_
    refine c_Equal_byte (o12.sl (U := No) fun _ _ h => h) ((s.ext e811).ext e12).no (by omega) rfl ?_
    rw [UnP_not]
    unfold m_head_Decode_j60
    refine cd (fun h => absurd h (by decide)) fun _ => ?_
    unfold m_head_Decode_j64
    refine (LdA_b (k411.ext e12) rfl).2 ?_
    refine StA_b (vs := hdv c root ht) (k211.ext e12) rfl rfl rfl fun h13 _ e13 k13 => ?_
    refine (LdA_b k13 rfl).2 (r h13 ?_)
    exact (e811.trans e12).andThen e13 fun y hy he => by omega
end
end Go.Sg
namespace Go.Sg
open Go Vc
section
variable {lab lab' : Nat → Nat} {h h' : Heap} {sp dp kept i b : Nat} {c : Config} {D D' : List (List UInt8)} {V : Nat → List UInt8} {S : Nat → Bool} {rd wr rd' wr' : BitVec 64} {K : Kt} {ps : List Pair} {t : TypeId} {xo yo : Operand}
theorem neq_func_nil {f : Fn} {fs cap : Array Value} {ts rs : Array TypeId} {vr : Bool} (ht : Pg.underlying t = some (.func ts rs vr)) (r : K (.bool true) h) : EqP .neq t xo yo (.func f fs cap) .nilFunc h K := by
  refine eqp (v := .bool true) (fun w => by simp [eqGuard]) (fun w => ?_) r
  have he : ∀ d, (Op.equalIn (d + 1) t (.func f fs cap) .nilFunc).run Pg w = .ok false w := fun d => by
    simp [Op.equalIn, run_underlying ht]
  have he : (Op.equal t (.func f fs cap) .nilFunc).run Pg w = .ok false w := he 9999
  simp only [binOp]
  simp [he]
theorem c_walk_All (k : ShS lab h sp dp c D V S kept rd wr) (h0 : 0 < i) (hi : i < c.blocks.toNat) (hV : V i = leafOf c (nl ps)) (ho : lok c ps) (hb : lab b = 99) (hbl : b < h.size) {f : Fn} {fs cap : Array Value} {P : (Nat → Nat) → Heap → Prop}
    (on : ∀ lab1 h1 D1 rd1 wr1 v Q, Lat lab lab1 h → ShS lab1 h1 sp dp c D1 V S kept rd1 wr1 → No' h.size h1 v (nl ps) → (∀ x, h1.size ≤ x → lab1 x = 50) → Ex (Lb lab 1 12) h h1 → (∀ h2, Ex (fun x => x = b) h1 h2 → P lab1 h2 → Q (.bool true) h2) → CvH Pg (.func f fs cap) #[.int .u32 i, v, allSpan.v] h1 Q)
    (r : ∀ lab' h' D' rd' wr', Lat lab lab' h → ShS lab' h' sp dp c D' V S kept rd' wr' → P lab' h' → Ex (fun x => Lb lab 1 12 x ∨ x = b) h h' → K (int 0) h') :
    Ca f_walk_All #[ptr sp 0, .int .u32 i, .func f fs cap] h K := by
  have hr := k.right
  refine m_walk_All_ok (vc_makeMap (ev := Value.bool) fun mb h1 hmb m1 hs1 q1 => ?_)
  have e1 : Ext h h1 := ⟨by omega, fun x hx _ => q1 x hx⟩
  refine ⟨_, #[ptr sp 0, .map (some mb), .func f fs cap, .bool false], rfl, rfl, ?_⟩
  refine bxa (cs := [ptr sp 0, .map (some mb), .func f fs cap, .bool false]) fun wb h2 e2 hwb kw2 _ => ?_
  refine c_lex_All fun h3 e3 => ?_
  have e23 : Ext h1 h3 := e2.trans e3
  have e03 := e1.trans e23
  let l0 := loc lab h mb
  have a3 : Lat lab l0 h := loc_lat lab (by omega)
  have k3 := (k.lat a3).ext e03
  have m3 : Mp Value.bool h3 mb [] := by
    obtain ⟨es, cl, z1, z2⟩ := m1; exact ⟨es, cl, e23.get z1, z2⟩
  have kw3 := kw2.ext e3
  have l03 := e03.le
  have l12 := e2.le
  have l23 := e3.le
  have lw : l0 wb = 0 := (upd_ne (by omega)).trans (frl_new (by omega))
  have lm : l0 mb = 99 := loc_at
  refine m_walk_walker_visit_ok (bxa (cs := allSpan.cs) fun b4 h4 e4 hb4 k4 _ => ?_)
  have kw4 := kw3.ext e4
  have l4 : l0 b4 = 0 := (upd_ne (by omega)).trans (frl_new (by omega))
  refine fl (v := ptr sp 0) (by rw [kw4.get]; rfl) ?_
  refine c_shelf_Load (k3.ext e4) h0 hi hV rfl ho fun l5 h5 D5 rd5 wr5 v5 a5 k5 d5 e5 _ _ => ?_
  have kw5 := kw4.ex e5 (nLb lw (by decide))
  have k45 := k4.ex e5 (nLb l4 (by decide))
  have m5 : Mp Value.bool h5 mb [] := by
    obtain ⟨es, cl, z1, z2⟩ := m3; exact ⟨es, cl, e5.get (e4.get z1) (nLb lm (by decide)), z2⟩
  obtain ⟨vk, vp, vb, vl, rfl, d1, d2, d3, d4⟩ := d5.out
  rw [ex20, ex21]
  refine alst (vs := [int 0, vk, vp, vb, vl]) rfl rfl (by simp [one_eq, d1.one, d2.one, d3.one, d4.one]; rfl) fun b6 h6 e6 hb6 k6 _ => ?_
  have kw6 := kw5.ext e6
  have k46 := k45.ext e6
  have m6 : Mp Value.bool h6 mb [] := by
    obtain ⟨es, cl, z1, z2⟩ := m5; exact ⟨es, cl, e6.get z1, z2⟩
  have k6s := k5.ext e6
  have d6 := d5.ext e6
  rw [BiP_neq]
  refine cdp (fun h => absurd rfl h) fun _ => ?_
  refine ⟨fun b' _ => b' = wb ∨ b' = b4 ∨ b' = b6, ?_⟩
  rw [NilP_ptr, FaP_ptr]
  refine LdX_b kw6 (v := .map (some mb)) rfl (fun _ => .inl rfl) ?_
  refine vc_lookup (kt := t_uint32) (et := t_bool) (z := .bool false) false (by kernel_rfl) (by kernel_rfl) (by kernel_rfl) m6 ?_
  have same : ∀ X : XS, Agr X h6 h6 := fun X b o _ => rfl
  refine ⟨same _, ?_⟩
  show CdP (.bool false) _ _
  rw [CdP_false, BiP_geq]
  refine cdp (fun h => absurd h (by decide)) fun _ => ?_
  rw [NilP_ptr, FaP_ptr]
  refine LdX_b kw6 (v := ptr sp 0) rfl (fun _ => .inl rfl) ?_
  refine LaX_b k46 rfl (fun _ => .inr (.inl rfl)) (LaX_b k6 rfl (fun _ => .inr (.inr rfl)) ?_)
  refine c_shelf_Config k6s fun h7 e7 => ?_
  have agx : ∀ {h'}, Ext h6 h' → Agr (fun b' _ => b' = wb ∨ b' = b4 ∨ b' = b6) h6 h' := fun e x o hx => by
    have hx6 : x < h6.size := by rcases hx with rfl | rfl | rfl; exact kw6.lt; exact k46.lt; exact k6.lt
    exact hget_eq (e.eq x hx6 id) o
  refine ⟨agx e7, ?_⟩
  have hfit := lok_fits hr ho
  refine c_node_Right_leaf (n := nl ps) (s := allSpan) (d6.ext e7) hfit rfl fun h8 e8 => ⟨trivial, ?_⟩
  have hok : outerOk c allSpan (nl ps) = true := ho
  rw [hok, UnP_not]
  unfold m_walk_walker_visit_j55
  refine cd (fun h => absurd h (by decide)) fun _ => ?_
  unfold m_walk_walker_visit_j56
  have e68 : Ext h6 h8 := e7.trans e8
  have kw8 := kw6.ext e68
  have m8 : Mp Value.bool h8 mb [] := by
    obtain ⟨es, cl, z1, z2⟩ := m6; exact ⟨es, cl, e68.get z1, z2⟩
  refine fl (v := .map (some mb)) (by rw [kw8.get]; rfl) ?_
  refine vc_mapUpdate (kt := t_uint32) (et := t_bool) (ev := Value.bool) (v := true) (by kernel_rfl) (by kernel_rfl) m8 fun h9 m9 hs9 q9 => ?_
  have e9 : Ex (fun x => x = mb) h8 h9 := ⟨by omega, fun x _ hx => q9 x hx⟩
  have hwm : wb ≠ mb := by omega
  have kw9 := kw8.ex e9 hwm
  have hb4m : b4 ≠ mb := by omega
  have l45 : h4.size ≤ h5.size := e5.le
  have hb6m : b6 ≠ mb := by have h1 := e4.le; omega
  have k49 := (k46.ext e68).ex e9 hb4m
  have k69 := (k6.ext e68).ex e9 hb6m
  refine ⟨fun b' _ => b' = wb ∨ b' = b4 ∨ b' = b6, ?_⟩
  rw [NilP_ptr, FaP_ptr]
  refine LdX_b kw9 (v := .func f fs cap) rfl (fun _ => .inl rfl) ?_
  refine neq_func_nil (ts := #[t_uint32, t_api_Node, t_api_Span]) (rs := #[t_bool]) (vr := false) (by kernel_rfl) ⟨fun b o _ => rfl, ?_⟩
  rw [CdP_true, NilP_ptr, FaP_ptr]
  refine LdX_b kw9 (v := .func f fs cap) rfl (fun _ => .inl rfl) ?_
  refine LaX_b k69 rfl (fun _ => .inr (.inr rfl)) (LaX_b k49 rfl (fun _ => .inr (.inl rfl)) ?_)
  have hl4 := e4.le
  have hml := m3.lt
  have lm5 : l5 mb = 99 := (a5 _ (by omega)).trans lm
  have d9 : Nd (Use l5) h9 (.agg #[int 0, vk, vp, vb, vl]) (nl ps) := (d6.ext e68).keep e9 fun x hx => by subst hx; show l5 x ≠ 0; rw [lm5]; decide
  refine c_node_Clone d9 hfit fun y h10 n10 e10 => ?_
  have agx : Agr (fun b' _ => b' = wb ∨ b' = b4 ∨ b' = b6) h9 h10 := fun x o hx => by
    have hx6 : x < h9.size := by rcases hx with rfl | rfl | rfl; exact kw9.lt; exact k49.lt; exact k69.lt
    exact hget_eq (e10.eq x hx6 id) o
  refine ⟨agx, ?_⟩
  have e9' : Ex (Lb l5 99 99) h8 h9 := one_lb e9 ⟨by rw [lm5]; decide, by rw [lm5]; decide⟩
  have k10 := (((k6s.ext e68).ex13 e9' (by decide))).ext e10
  have a05 : Lat lab l5 h := a3.trans a5 (by omega)
  have e04 : Ext h h4 := e03.trans e4
  have e05 : Ex (Lb lab 1 12) h h5 := a3.ex (Ex.toM e04) e5
  have e08 : Ex (Lb lab 1 12) h h8 := e05.trans (Ex.toM (e6.trans e68))
  have e09 : Ex (Lb lab 1 12) h h9 := e08.fresh e9 fun x hx he => by omega
  have e010 : Ex (Lb lab 1 12) h h10 := e09.trans (Ex.toM e10)
  have hl09 := e09.le
  have n0 : No' h.size h10 y (nl ps) := by
    obtain ⟨z1, z2, z3, z4, z5, z6, z7, z8, z9⟩ := n10
    exact ⟨z1, z2, z3, z4, z5, z6.low hl09, z7.low hl09, z8.low hl09, z9.low hl09⟩
  have kw10 := kw9.ext e10
  have k610 := k69.ext e10
  let l10 : Nat → Nat := fun x => if x < h10.size then l5 x else 50
  have a10 : Lat l5 l10 h10 := fun x hx => if_pos hx
  have k10 := k10.lat a10
  have a05' : Lat lab l10 h := a05.trans (fun x hx => a10 x (by have := e010.le; have := e05.le; omega)) (Nat.le_refl _) |> fun z => z
  refine on l10 h10 D5 rd5 wr5 y _ a05' k10 n0 (fun x hx => if_neg (by omega)) e010 fun h11 e11 hP => ⟨trivial, ?_⟩
  rw [UnP_not]
  unfold m_walk_walker_visit_j81
  refine cd (fun h => absurd h (by decide)) fun _ => ?_
  have hb6b : b6 ≠ b := by omega
  have k611 := k610.ex e11 hb6b
  unfold m_walk_walker_visit_j85
  refine fv (v := vk) (by rw [k611.get]; rfl) ?_
  have sk : Sl No h5 vk ([] : List U32) := d1.no
  obtain ⟨ak, ck, rfl, _⟩ := sk.out
  rw [LenP_slice]
  refine lop (σ := Unit) (fun _ => [int 0, int 0]) (fun _ h' => h' = h11) (fun _ => 0) () rfl rfl ?_
  rintro _ h12 N rfl hN
  simp only [m_walk_walker_visit_l90, gv_zero, gv_succ]
  rw [BiP_lss]
  refine cdp (fun h => absurd h (by decide)) fun _ => ?_
  unfold m_walk_walker_visit_j122
  have l5b : l10 b = 99 := (a05' b hbl).trans hb
  have k12 := k10.ex13 (one_lb e11 ⟨by rw [l5b]; decide, by rw [l5b]; decide⟩ : Ex (Lb l10 99 99) h10 h12) (by decide)
  exact r l10 h12 D5 rd5 wr5 a05' k12 hP ((e010.mono fun _ _ h => .inl h).trans (e11.mono fun _ _ h => .inr h))
end
end Go.Sg
namespace Go.Sg
open Go Vc
section
variable {lab lab' : Nat → Nat} {h h' : Heap} {sp dp dg kept i b root : Nat} {c : Config} {D D' : List (List UInt8)} {V : Nat → List UInt8} {S : Nat → Bool} {rd wr rd' wr' : BitVec 64} {K : Kt} {ps : List Pair}
theorem c_shelf_Has (k : ShS lab h sp dp c D V S kept rd wr) (hi : i < c.blocks.toNat) (r : K (.bool (S i)) h) : Ca f_shelf_Shelf_Has #[ptr sp 0, .int .u32 i] h K := by
  obtain ⟨hr, hD, hkl, cp, o, g, p, k1, k2⟩ := k
  refine m_shelf_Shelf_Has_ok (neq_ptr_nil (by kernel_rfl) ?_)
  show CdP (.bool true) _ _
  rw [CdP_true]
  refine k1.get (f := 10) rfl ?_
  exact c_pool_Has k1.pol hi r
theorem c_shelf_Mark (k : ShS lab h sp dp c D V S kept rd wr) (h0 : 0 < i) (hi : i < c.blocks.toNat) (hs : S i = false) (r : ∀ h', ShS lab h' sp dp c D V (upd S i true) kept rd wr → Ex (Lb lab 11 12) h h' → K (int 0) h') : Ca f_shelf_Shelf_Mark #[ptr sp 0, .int .u32 i] h K := by
  obtain ⟨hr, hD, hkl, cp, o, g, p, k1, k2⟩ := k
  refine m_shelf_Shelf_Mark_ok (c_shelf_there k1 hr h0 hi ?_)
  rw [BiP_neq]
  refine cdp (fun h => absurd rfl h) fun _ => ?_
  refine k1.get (f := 10) rfl ?_
  refine c_pool_Mark k1.pol hi hs fun h3 p3 e3 => ?_
  have e3' : Ex (Lb lab 11 12) h h3 := two_lb e3 ⟨by rw [k1.l11]; decide, by rw [k1.l11]; decide⟩ ⟨by rw [k1.l12]; decide, by rw [k1.l12]; decide⟩
  exact r h3 ⟨hr, hD, hkl, cp, o, g, p, ⟨k1.blk.ex e3' (nLb k1.l9 (by decide)), p3, k1.l9, k1.l10, k1.l11, k1.l12, k1.lt⟩, k2.ex e3' (by decide) (Lat.refl _ _)⟩ e3'
theorem c_walk_Blocks (k : ShS lab h sp dp c D V S kept rd wr) (h0 : 0 < i) (hi : i < c.blocks.toNat) (hV : V i = leafOf c (nl ps)) (ho : lok c ps)
    (r : ∀ lab' h' D' rd' wr' v, Lat lab lab' h → ShS lab' h' sp dp c D' V S kept rd' wr' → Ow h.size t_uint32 h' v [(⟨i⟩ : U32)] → (∀ x, v.ownBlock = some x → lab' x = 50) → Ex (Lb lab 1 12) h h' → K (.tuple #[v, int 0]) h') :
    Ca f_walk_Blocks #[ptr sp 0, .int .u32 i] h K := by
  refine m_walk_Blocks_ok (al fun b h1 e1 hb kb _ => ?_)
  have a1 : Lat lab (loc lab h b) h := loc_lat lab (by omega)
  have k1 := (k.lat a1).ext e1
  have hbl := kb.lt
  refine c_walk_All (b := b) (P := fun l h' => ∃ v, Blk h' b [v] ∧ Ow (h.size + 1) t_uint32 h' v [(⟨i⟩ : U32)] ∧ ∀ x, v.ownBlock = some x → l x = 50) k1 h0 hi hV ho loc_at hbl
    (fun l2 h2 D2 rd2 wr2 y Q a2 k2 n2 z2 e2 hQ => cvhc (by kernel_rfl) ?_) fun l3 h3 D3 rd3 wr3 a3 k3 hP e3 => ?_
  · show Ca f_walk_Blocks_1 #[.int .u32 i, y, allSpan.v, ptr b 0] h2 Q
    obtain ⟨y1, y2, y3, y4, rfl, _⟩ := n2
    have kb2 := kb.ex e2 (nLb loc_at (by decide))
    refine m_walk_Blocks_1_ok (bxa (cs := [int (nl ps).level, y1, y2, y3, y4]) fun b3 h3 e3 hb3 k3 _ => bxa (cs := allSpan.cs) fun b4 h4 e4 hb4 k4 _ => ?_)
    have e24 := e3.trans e4
    have kb4 := kb2.ext e24
    refine ld (v := .slice none 0 0) (by rw [kb4.get]; rfl) ?_
    refine bs (n0 := h4.size) (e := t_uint32) (zs := #[.int .u32 0]) [(⟨i⟩ : U32)] rfl (Nat.le_refl _) rfl (by decide) (cs := #[.int .u32 i]) (by kernel_rfl) rfl fun v5 h5 o5 e5 => ?_
    have s5 : Sl No h5 v5 [(⟨i⟩ : U32)] := o5.sl fun _ _ h => h
    refine app T_u32 (n0 := h5.size) (Ow.nil _ _ _) s5 (Nat.le_refl _) (by simp) (by decide) fun v6 h6 o6 _ hx6 => ?_
    have e6 : Ext h5 h6 := hx6 rfl
    rw [List.nil_append] at o6
    have e26 : Ext h2 h6 := (e24.trans e5).trans e6
    have kb6 := kb2.ext e26
    have hl25 : h2.size ≤ h5.size := (e24.trans e5).le
    have hl12 : h1.size ≤ h2.size := e2.le
    refine StP_b kb6 (show 0 < 1 by decide) (by rw [one_eq]; exact o6.one) fun h7 _ e7 kb7 => ?_
    refine hQ h7 ((Ex.toM e26).trans e7) ⟨v6, kb7, (o6.exb e7 fun x hx he => by have := o6.block x hx; omega).low (by omega), fun x hx => z2 x (by have := o6.block x hx; omega)⟩
  · rw [BiP_neq]
    refine cdp (fun h => absurd rfl h) fun _ => ?_
    obtain ⟨v, kb3, o3, z3⟩ := hP
    refine ld (v := v) (by rw [kb3.get]; rfl) ?_
    refine c_Sort_u32 o3 (by show 1 ≤ 12; decide) fun L h4 hp o4 e4 => ?_
    have hL : L = [(⟨i⟩ : U32)] := List.perm_singleton.1 hp
    subst hL
    have ob := o3.block
    have kb4 := kb3.ex e4 (fun hx => by have := ob b hx; omega)
    refine ld (v := v) (by rw [kb4.get]; rfl) ?_
    have hl1 : h.size ≤ h1.size := e1.le
    have hl13 := e3.le
    have a13 : Lat lab l3 h := a1.trans a3 e1.le
    have k4 := k3.ex13 (e4.mono fun x _ hx => ⟨by rw [z3 x hx]; exact Nat.le_refl 50, by rw [z3 x hx]; exact Nat.le_refl 50⟩ : Ex (Lb l3 50 50) h3 h4) (by decide)
    refine r l3 h4 D3 rd3 wr3 v a13 k4 (o4.low (Nat.le_succ _)) z3 ?_
    refine ⟨by have := e4.le; omega, fun x hx hn => (e4.eq x (by omega) fun hm => ?_).trans ((e3.eq x (by omega) fun hm => ?_).trans (e1.eq x hx id))⟩
    · have := ob x hm; omega
    · rcases hm with ⟨m1, m2⟩ | m1
      · rw [a1 x hx] at m1 m2; exact hn ⟨m1, m2⟩
      · omega
theorem c_tree_Open (k : ShS lab h sp dp c D V S 0 rd wr) (h0 : 0 < root) (hi : root < c.blocks.toNat) (hV : V root = leafOf c (nl ps)) (ho : lok c ps) (hS : S root = false)
    (r : ∀ tp lab' h' D' rd' wr', Lat lab lab' h → h.size ≤ tp → TrS lab' h' tp sp dp c D' V (upd S root true) root ps rd' wr' → Ex (Lb lab 1 12) h h' → K (.tuple #[ptr tp 0, int 0]) h') : Ca f_tree_Open #[ptr sp 0, .int .u32 root] h K := by
  refine m_tree_Open_ok (c_walk_Blocks k h0 hi hV ho fun l1 h1 D1 rd1 wr1 v a1 k1 o1 z1 e1 => ?_)
  rw [ex20, ex21, BiP_neq]
  refine cdp (fun h => absurd rfl h) fun _ => ?_
  have s1 : Sl No h1 v [(⟨root⟩ : U32)] := o1.sl fun _ _ h => h
  refine s1.len ?_
  refine lop (σ := Nat) (fun i => [.pointer none, int 0, int i]) (fun i h' => h' = h1 ∧ i ≤ 1) (fun i => 1 - i) 0 rfl ⟨rfl, by decide⟩ ?_
  rintro i h2 N ⟨rfl, hi1⟩ hN
  simp only [m_tree_Open_l8, gv_zero, gv_succ]
  rw [BiP_lss]
  refine cdp (fun hlt => ?_) (fun hge => ?_)
  · have hi0 : i = 0 := by have h2 : (i : Int) < ((1 : Nat) : Int) := hlt; omega
    subst hi0
    refine s1.ei (x := ⟨root⟩) (by decide) rfl rfl ?_
    refine c_shelf_Has k1 hi ?_
    rw [hS, CdP_false]
    refine add64 (by decide) ?_
    exact hN 1 h2 ⟨rfl, by decide⟩ (by decide)
  · unfold m_tree_Open_j17
    refine s1.len ?_
    refine lop (σ := Nat) (fun i => [int i]) (fun i h' => i ≤ 1 ∧ ShS l1 h' sp dp c D1 V (if i = 0 then S else upd S root true) 0 rd1 wr1 ∧ Ex (Lb l1 11 12) h2 h') (fun i => 1 - i) 0 rfl ⟨by decide, k1, Ex.refl _ _⟩ ?_
    rintro i h3 N ⟨hi1, k3, e3⟩ hN
    simp only [m_tree_Open_l20, gv_zero]
    have s3 : Sl No h3 v [(⟨root⟩ : U32)] := (o1.exb e3 fun x hx => nLb (z1 x hx) (by decide)).sl fun _ _ h => h
    rw [BiP_lss]
    refine cdp (fun hlt => ?_) (fun hge => ?_)
    · have hi0 : i = 0 := by have h2 : (i : Int) < ((1 : Nat) : Int) := hlt; omega
      subst hi0
      refine s3.ei (x := ⟨root⟩) (by decide) rfl rfl ?_
      refine c_shelf_Mark k3 h0 hi hS fun h4 k4 e4 => ?_
      refine add64 (by decide) ?_
      exact hN 1 h4 ⟨by decide, k4, e3.trans e4⟩ (by decide)
    · have hi1' : i = 1 := by have h2 : ¬ ((i : Int) < ((1 : Nat) : Int)) := hge; omega
      subst hi1'
      have k3 : ShS l1 h3 sp dp c D1 V (upd S root true) 0 rd1 wr1 := k3
      unfold m_tree_Open_j29
      refine c_shelf_Load k3 h0 hi hV rfl ho fun l4 h4 D4 rd4 wr4 v4 a4 k4 d4 e4 _ _ => ?_
      obtain ⟨vk, vp, vb, vl, rfl, d1, d2, d3, d4'⟩ := d4.out
      rw [ex20, ex21]
      refine alst (vs := [int 0, vk, vp, vb, vl]) rfl rfl (by simp [one_eq, d1.one, d2.one, d3.one, d4'.one]; rfl) fun b6 h6 e6 hb6 k6 _ => ?_
      rw [BiP_neq]
      refine cdp (fun h => absurd rfl h) fun _ => ?_
      refine ⟨fun b' _ => b' = b6, ?_⟩
      rw [FaP_ptr]
      refine LdX_b k6 (v := int 0) rfl (fun _ => rfl) ?_
      refine ⟨_, #[ptr sp 0, .int .u32 root, int 0, int 0, int 0, int 0], rfl, rfl, ?_⟩
      have e13 : Ex (Lb l1 1 12) h2 h3 := Lb.wide e3 (by decide) (by decide)
      have e14 : Ex (Lb l1 1 12) h2 h4 := e13.trans e4
      have a14 : Lat l1 l4 h2 := fun x hx => a4 x (by have := e3.le; omega)
      have a04 : Lat lab l4 h := a1.trans a14 e1.le
      have e04 : Ex (Lb lab 1 12) h h4 := a1.ex e1 e14
      have hl04 := e04.le
      have hl46 := e6.le
      have w6 : frl l4 h4 b6 = 0 := frl_new (by omega)
      have k6s := (k4.lat (frl_lat l4 h4)).ext e6
      have a46 : Lat l4 (frl l4 h4) h4 := frl_lat l4 h4
      refine ⟨?_, ?_⟩
      · refine bxa (cs := [ptr sp 0, .int .u32 root, int 0, int 0, int 0, int 0]) fun tp h7 e7 htp kb _ => ⟨trivial, ?_⟩
        let l7 := upd (frl l4 h4) tp 13
        have a7 : Lat (frl l4 h4) l7 h6 := fun x hx => upd_ne (by omega)
        refine c_shelf_Keep0 ((k6s.lat a7).ext e7) h0 hi fun l8 h8 D8 rd8 wr8 a8 k8 e8 _ _ => ⟨?_, ?_⟩
        · intro x o hx
          subst hx
          have hx7 : l7 x = 0 := (upd_ne (by omega)).trans w6
          rw [hget_eq (e8.eq x (by have := e7.le; omega) (nLb hx7 (by decide))), hget_eq (e7.eq x (by omega) id)]
        · unfold m_tree_Open_j51
          have htl := kb.lt
          have q13 : l7 tp = 13 := upd_same
          have a48 : Lat l4 l8 h4 := fun x hx => by rw [a8 x (by have := e7.le; omega), a7 x (by omega), a46 x hx]
          refine r tp l8 h8 D8 rd8 wr8 (a04.trans a48 hl04) (by omega) ⟨⟨0, kb.ex e8 (nLb q13 (by decide))⟩, k8, (a8 tp htl).trans q13, h0, hV, ho⟩ ?_
          have e47 : Ext h4 h7 := e6.trans e7
          have a47 : Lat l4 l7 h4 := fun x hx => by rw [a7 x (by omega), a46 x hx]
          exact a04.ex e04 (a47.ex (Ex.toM e47) e8)
      · refine c_shelf_Keep0 k6s h0 hi fun l8 h8 D8 rd8 wr8 a8 k8 e8 _ _ => ⟨?_, ?_⟩
        · intro x o hx
          subst hx
          rw [hget_eq (e8.eq x (by omega) (nLb w6 (by decide)))]
        · refine bxa (cs := [ptr sp 0, .int .u32 root, int 0, int 0, int 0, int 0]) fun tp h9 e9 htp kb _ => ⟨trivial, ?_⟩
          unfold m_tree_Open_j51
          let l9 := upd (frl l8 h8) tp 13
          have a9 : Lat l8 l9 h8 := fun x hx => (upd_ne (by omega)).trans (frl_lat l8 h8 x hx)
          have hl68 := e8.le
          have a49 : Lat l4 l9 h4 := fun x hx => by rw [a9 x (by omega), a8 x (by omega), a46 x hx]
          refine r tp l9 h9 D8 rd8 wr8 (a04.trans a49 hl04) (by omega) ⟨⟨0, kb⟩, (k8.lat a9).ext e9, upd_same, h0, hV, ho⟩ ?_
          have e48 : Ex (Lb l4 1 12) h4 h8 := a46.ex (Ex.toM e6) e8
          exact a04.ex e04 (e48.trans (Ex.toM e9))
end
end Go.Sg
namespace Go.Sg
open Go Vc
section
variable {lab lab' : Nat → Nat} {h h' : Heap} {dp dg n root : Nat} {c : Config} {D D' : List (List UInt8)} {rd wr rd' wr' : BitVec 64} {K : Kt} {ps : List Pair}
theorem c_mount_Open (d : Dv dg dp h n D rd wr) (hr : c.Right) (hD : D.length = c.blocks.toNat) (hn : n = c.bytes.toNat) (t : Tz h) (ht1 : gTab ≠ dp) (ht2 : gTab ≠ dg) (im : ImgD c root ps D) (h0 : 0 < root) (hi : root < c.blocks.toNat) (ho : lok c ps)
    (r : ∀ lab' h' mp tp sp D' V' rd' wr', MtS lab' h' mp tp sp dp c D' V' (upd (upd (fun _ => false) 0 true) root true) root ps rd' wr' → Lat (dlab dp dg) lab' h → Ex (two dp dg) h h' → K (.tuple #[ptr mp 0, int 0]) h') : Ca f_mount_Open #[ptr dp 0] h K := by
  have hb := blocks_eq hr
  have hdl := d.lt
  refine m_mount_Open_ok (c_dev_Read d (i := 0) im.hd fun v h1 o1 d1 e1 => ?_)
  rw [ex20, ex21, BiP_neq]
  refine cdp (fun h => absurd rfl h) fun _ => ?_
  refine c_head_Decode (c := c) (root := root) (ht := 1) ⟨hr, by omega, by omega, by decide, by decide⟩ (o1.sl (U := No) fun _ _ h => h) fun h2 e2 => ?_
  rw [ex20, ex21]
  refine alst (vs := hdv c root 1) rfl rfl rfl fun b h3 e3 hb3 k3 _ => ?_
  rw [BiP_neq]
  refine cdp (fun h => absurd rfl h) fun _ => ?_
  unfold Fva
  rw [FaP_ptr]
  refine LdA_at (cs := c.cs) (fun j v hj => ?_) rfl ?_
  · have hlt := (List.getElem?_eq_some_iff.1 hj).1
    rw [k3.get]; unfold hdv
    rw [Nat.zero_add, List.getElem?_append_left hlt]; exact hj
  have e13 := e2.trans e3
  have d3 := d1.ext e13
  have e03 : Ex (fun x => x = dp) h h3 := e1.trans (Ex.toM e13)
  have t3 := t.ex e03 (fun h => ht1 h)
  have hl03 := e03.le
  refine c_shelf_New d3 hr hD hn t3 ht1 ht2 fun l4 sp h4 a4 k4 hsp e4 => ?_
  rw [ex20, ex21, BiP_neq]
  refine cdp (fun h => absurd rfl h) fun _ => ?_
  have hb3l : h2.size < h3.size := by have := k3.lt; omega
  have hl12 : h.size ≤ h2.size := by have h1 := e1.le; have h2 := e2.le; omega
  have hbd : b ≠ dp ∧ b ≠ dg := ⟨by omega, by omega⟩
  have k34 := k3.ex e4 (by rintro (h | h) <;> omega)
  refine fv (v := .int .u32 root) (by rw [k34.get]; rfl) ?_
  have hVr : (fun i => D.getD i []) root = leafOf c (nl ps) := by
    simp only [List.getD_eq_getElem?_getD, im.lf, Option.getD_some]
  have hSr : upd (fun _ => false) 0 true root = false := upd_ne (by omega)
  have lb4 : l4 b = 0 := by rw [a4 b (by have := k3.lt; omega)]; unfold dlab; rw [if_neg hbd.1, if_neg hbd.2]
  refine c_tree_Open k4 h0 hi hVr ho hSr fun tp l5 h5 D5 rd5 wr5 a5 htp k5 e5 => ?_
  rw [ex20, ex21]
  have k35 := k34.ex e5 (nLb lb4 (by decide))
  refine ⟨fun b' _ => b' = b, ?_⟩
  rw [BiP_neq]
  refine cdp (fun h => absurd rfl h) fun _ => ?_
  rw [FaP_ptr]
  refine LdX_b k35 (v := int 1) rfl (fun _ => rfl) ?_
  refine c_tree_Height k5 ⟨fun _ _ _ => rfl, ?_⟩
  rw [BiP_neq]
  unfold m_mount_Open_j38
  refine cdp (fun h => absurd rfl h) fun _ => ?_
  unfold m_mount_Open_j39
  refine ⟨_, #[ptr dp 0, ptr tp 0], rfl, rfl, ?_⟩
  refine bxa (cs := [ptr dp 0, ptr tp 0]) fun mp h6 e6 hmp k6 _ => ?_
  let l6 := upd (frl l5 h5) mp 14
  have a6 : Lat l5 l6 h5 := fun x hx => (upd_ne (by omega)).trans (frl_lat l5 h5 x hx)
  have hl34 := e4.le
  have hl45 := e5.le
  have a06 : Lat (dlab dp dg) l6 h := fun x hx => by rw [a6 x (by omega), a5 x (by omega), a4 x (by omega)]
  refine r l6 h6 mp tp sp D5 _ rd5 wr5 ⟨k6, (k5.lat a6).ext e6, upd_same⟩ a06 ?_
  have e04 : Ex (two dp dg) h h4 := (e03.mono fun x _ hx => .inl hx).trans e4
  refine ⟨by have := e6.le; omega, fun x hx hm => ?_⟩
  have hxd : dlab dp dg x = 0 := by
    unfold dlab
    rw [if_neg fun h => hm (.inl h), if_neg fun h => hm (.inr h)]
  rw [e6.eq x (by omega) id, e5.eq x (by omega) (nLb ((a4 x (by omega)).trans hxd) (by decide)), e04.eq x hx hm]
end
end Go.Sg
namespace Go.Sg
open Go Vc
def cutP (l : List Pair) (k : Str) : List Pair := l.filter fun a => decide (a.key ≠ k)
theorem cut_parts {l : List Pair} {k : Str} (h : Asc Pair.key l) : cutP l k = ahead Pair.key l k ++ behind Pair.key l k := by
  induction l with
  | nil => rfl
  | cons a l ih =>
    obtain ⟨h1, h2⟩ := Asc.cons.1 h
    have ih := ih h2
    unfold cutP at ih ⊢
    rcases slt_total a.key k with h3 | h3 | h3
    · have n1 : a.key ≠ k := fun e => slt_irrefl _ (e ▸ h3)
      have n2 : ¬ k < a.key := slt_asymm h3
      simp only [ahead, behind, List.filter_cons, h3, n1, n2, ne_eq, not_false_eq_true, decide_true, decide_false, if_true, Bool.false_eq_true, if_false, List.cons_append]
      congr 1
    · have n1 : ¬ a.key < k := by rw [h3]; exact slt_irrefl _
      have n2 : ¬ k < a.key := by rw [h3]; exact slt_irrefl _
      simp only [ahead, behind, List.filter_cons, h3, n1, n2, ne_eq, not_true_eq_false, decide_false, Bool.false_eq_true, if_false, slt_irrefl]
      exact ih
    · have n1 : ¬ a.key < k := slt_asymm h3
      have n2 : a.key ≠ k := fun e => slt_irrefl _ (e ▸ h3)
      have n4 : ahead Pair.key l k = [] := ahead_nil_of fun b hb => slt_asymm (slt_trans h3 (h1 b hb))
      rw [n4, List.nil_append] at ih
      unfold ahead at n4
      unfold behind at ih
      simp only [ahead, behind, List.filter_cons, n1, n2, h3, ne_eq, not_false_eq_true, decide_true, decide_false, if_true, Bool.false_eq_true, if_false, n4, ih, List.nil_append]
theorem cut_apply {l : List Pair} {k : Str} (h : Asc Pair.key l) : cutP l k = applyP l ⟨k, true, []⟩ := by
  rw [cut_parts h]; unfold applyP ins; simp
theorem cut_take {l : List Pair} {k : Str} (h : Asc Pair.key l) : (cutP l k).take (pos Pair.key l k) = ahead Pair.key l k ∧ (cutP l k).drop (pos Pair.key l k) = behind Pair.key l k := by
  rw [cut_parts h]
  exact ⟨List.take_left, List.drop_left⟩
theorem put_apply {l : List Pair} {k v : Str} (h : Asc Pair.key l) : (cutP l k).take (pos Pair.key l k) ++ [⟨k, v⟩] ++ (cutP l k).drop (pos Pair.key l k) = applyP l ⟨k, false, v⟩ := by
  rw [(cut_take h).1, (cut_take h).2]; rfl
end Go.Sg
set_option maxRecDepth 100000
namespace Go.Sg
open Go Vc Go.Proofs
def m_ref27_Do (x0_ x1_ x2_ : Value) (h : Heap) (K : Kt) : Prop :=
 BxP t_api_Config x0_ h fun x2 h1 =>
 BxP t_api_Op x2_ h1 fun x4 h3 =>
 AlP t_sluicegateref27_Answer zt_sluicegateref27_Answer h3 fun x6 h5 =>
 Fv 0 x4 h5 fun x9 =>
 BiP .eql x9 (.int .i64 1) fun x10 =>
 CdP x10
 (LdA 8 x2 h5 fun x11 =>
 LdA 4 x4 h5 fun x12 =>
 Ca f_ref27_May #[x11, x12] h5 fun x14 h13 =>
 UnP .not x14 fun x15 =>
 CdP x15
 (BlP bt_sluicegateref27_Answer [(0, (.int .i64 2))] fun x16 =>
 StA 3 x6 x16 h13 fun h17 =>
 LdA 3 x6 h17 fun x18 =>
 K (.tuple #[x1_, x18]) h17)
 (Fv 1 x4 h13 fun x20 =>
 Fv 2 x4 h13 fun x22 =>
 Ca f_ref11_Put #[x1_, x20, x22] h13 fun x24 h23 =>
 BlP bt_sluicegateref27_Answer [] fun x25 =>
 StA 3 x6 x25 h23 fun h26 =>
 LdA 3 x6 h26 fun x27 =>
 K (.tuple #[x24, x27]) h26))
 (BiP .eql x9 (.int .i64 2) fun x28 =>
 CdP x28
 (LdA 8 x2 h5 fun x29 =>
 LdA 4 x4 h5 fun x30 =>
 Ca f_ref27_May #[x29, x30] h5 fun x32 h31 =>
 UnP .not x32 fun x33 =>
 CdP x33
 (BlP bt_sluicegateref27_Answer [(0, (.int .i64 2))] fun x34 =>
 StA 3 x6 x34 h31 fun h35 =>
 LdA 3 x6 h35 fun x36 =>
 K (.tuple #[x1_, x36]) h35)
 (Fv 1 x4 h31 fun x38 =>
 Ca f_ref11_Cut #[x1_, x38] h31 fun x40 h39 =>
 BlP bt_sluicegateref27_Answer [] fun x41 =>
 StA 3 x6 x41 h39 fun h42 =>
 LdA 3 x6 h42 fun x43 =>
 K (.tuple #[x40, x43]) h42))
 (BiP .eql x9 (.int .i64 3) fun x44 =>
 CdP x44
 (LdA 8 x2 h5 fun x45 =>
 LdA 4 x4 h5 fun x46 =>
 Ca f_ref27_May #[x45, x46] h5 fun x48 h47 =>
 UnP .not x48 fun x49 =>
 CdP x49
 (BlP bt_sluicegateref27_Answer [(0, (.int .i64 2))] fun x50 =>
 StA 3 x6 x50 h47 fun h51 =>
 LdA 3 x6 h51 fun x52 =>
 K (.tuple #[x1_, x52]) h51)
 (Fv 1 x4 h47 fun x54 =>
 Ca f_ref11_Get #[x1_, x54] h47 fun x56 h55 =>
 ExP x56 0 fun x57 =>
 ExP x56 1 fun x58 =>
 UnP .not x58 fun x59 =>
 CdP x59
 (BlP bt_sluicegateref27_Answer [(0, (.int .i64 9))] fun x60 =>
 StA 3 x6 x60 h55 fun h61 =>
 LdA 3 x6 h61 fun x62 =>
 K (.tuple #[x1_, x62]) h61)
 (BlP bt_sluicegateref27_Answer [(1, x57)] fun x63 =>
 StA 3 x6 x63 h55 fun h64 =>
 LdA 3 x6 h64 fun x65 =>
 K (.tuple #[x1_, x65]) h64)))
 (BiP .eql x9 (.int .i64 4) fun x66 =>
 CdP x66
 (Fv 1 x4 h5 fun x68 =>
 Fv 2 x4 h5 fun x70 =>
 BlP bt_api_Span [(0, x68), (1, x70)] fun x71 =>
 Fv 3 x4 h5 fun x73 =>
 Ca f_ref11_Part #[x1_, x71, x73] h5 fun x75 h74 =>
 BlP bt_sluicegateref27_Answer [(2, x75)] fun x76 =>
 StA 3 x6 x76 h74 fun h77 =>
 LdA 3 x6 h77 fun x78 =>
 K (.tuple #[x1_, x78]) h77)
 (BlP bt_sluicegateref27_Answer [] fun x79 =>
 StA 3 x6 x79 h5 fun h80 =>
 LdA 3 x6 h80 fun x81 =>
 K (.tuple #[x1_, x81]) h80))))
theorem m_ref27_Do_ok {x0_ x1_ x2_ : Value} {h : Heap} {K : Kt} (hh : m_ref27_Do x0_ x1_ x2_ h K) : Ca f_ref27_Do #[x0_, x1_, x2_] h K := cv Tryz.func36 (by kernel_rfl) hh
def m_ref09_Right_j52 (x2_ : Value) (h : Heap) (K : Kt) : Prop :=
 K x2_ h
def m_ref09_Right (x0_ : Value) (h : Heap) (K : Kt) : Prop :=
 BxP t_api_Config x0_ h fun x2 h1 =>
 ∃ X4 : XS,
 LaX X4 8 x2 h1 fun x5 =>
 Ca f_ref09_Sized #[x5] h1 fun x7 h6 =>
 Agr X4 h1 h6 ∧ (CdP x7
 (FaP (some 0) x2 fun x8 =>
 LdX X4 x8 h1 fun x9 =>
 Ca f_ref09_in #[x9, (.int .i64 5), (.int .i64 65536)] h6 fun x11 h10 =>
 Agr X4 h1 h10 ∧ (CdP x11
 (FaP (some 2) x2 fun x13 =>
 LdX X4 x13 h1 fun x14 =>
 Ca f_ref09_in #[x14, (.int .i64 8), (.int .i64 64)] h10 fun x16 h15 =>
 Agr X4 h1 h15 ∧ (CdP x16
 (FaP (some 1) x2 fun x18 =>
 LdX X4 x18 h1 fun x19 =>
 Ca f_ref09_in #[x19, (.int .i64 64), (.int .i64 65536)] h15 fun x21 h20 =>
 Agr X4 h1 h20 ∧ (CdP x21
 (FaP (some 1) x2 fun x23 =>
 LdX X4 x23 h1 fun x24 =>
 LaX X4 8 x2 h1 fun x25 =>
 Ca f_ref09_Inner #[x25] h20 fun x27 h26 =>
 Agr X4 h1 h26 ∧ (BiP .geq x24 x27 fun x28 =>
 CdP x28
 (FaP (some 1) x2 fun x30 =>
 LdX X4 x30 h1 fun x31 =>
 LaX X4 8 x2 h1 fun x32 =>
 Ca f_ref09_Outer #[x32] h26 fun x34 h33 =>
 Agr X4 h1 h33 ∧ (BiP .geq x31 x34 fun x35 =>
 m_ref09_Right_j52 x35 h33 K))
 (m_ref09_Right_j52 (.bool false) h26 K)))
 (m_ref09_Right_j52 (.bool false) h20 K)))
 (m_ref09_Right_j52 (.bool false) h15 K)))
 (m_ref09_Right_j52 (.bool false) h10 K)))
 (m_ref09_Right_j52 (.bool false) h6 K))
theorem m_ref09_Right_ok {x0_ : Value} {h : Heap} {K : Kt} (hh : m_ref09_Right x0_ h K) : Ca f_ref09_Right #[x0_] h K := cv Tryz.func63 (by kernel_rfl) hh
def m_ref27_May_j25 (x4_ : Value) (h : Heap) (K : Kt) : Prop :=
 K x4_ h
def m_ref27_May (x0_ x1_ : Value) (h : Heap) (K : Kt) : Prop :=
 BxP t_api_Config x0_ h fun x2 h1 =>
 BxP t_api_Op x1_ h1 fun x4 h3 =>
 LdA 8 x2 h3 fun x6 =>
 Fv 1 x4 h3 fun x8 =>
 Ca f_ref13_Key #[x6, x8] h3 fun x10 h9 =>
 CdP x10
 (Fv 0 x4 h9 fun x12 =>
 BiP .neq x12 (.int .i64 1) fun x13 =>
 CdP x13
 (m_ref27_May_j25 (.bool true) h9 K)
 (Fv 2 x4 h9 fun x17 =>
 LenP (some false) x17 fun x18 =>
 Fv 7 x2 h9 fun x20 =>
 BiP .leq x18 x20 fun x21 =>
 m_ref27_May_j25 x21 h9 K))
 (undef = undef ∧ (undef = undef ∧ (undef = undef ∧ (undef = undef ∧ (undef = undef ∧ (undef = undef ∧ (m_ref27_May_j25 (.bool false) h9 K)))))))
theorem m_ref27_May_ok {x0_ x1_ : Value} {h : Heap} {K : Kt} (hh : m_ref27_May x0_ x1_ h K) : Ca f_ref27_May #[x0_, x1_] h K := cv Tryz.func71 (by kernel_rfl) hh
def m_ref11_Put_j19 (x0_ x1_ x2_ x7_ : Value) (h : Heap) (nx5 : Nt) (K : Kt) : Prop :=
 BiP .add x7_ (.int .i64 1) fun x20 =>
 nx5 [x20] h
def m_ref11_Put_j21 (x0_ x1_ x2_ x7_ : Value) (h : Heap) (K : Kt) : Prop :=
 BsP st_S_api_Pair 0 [] h fun x23 h22 =>
 SlP 2 x0_ none (some x7_) fun x24 =>
 VH Pg (Builtin.append_ #[t_S_api_Pair, t_S_api_Pair] t_S_api_Pair #[x23, x24]) h22 fun x26 h25 =>
 BlP bt_api_Pair [(0, x1_), (1, x2_)] fun x27 =>
 BsP st_S_api_Pair 1 [(0, x27)] h25 fun x29 h28 =>
 VH Pg (Builtin.append_ #[t_S_api_Pair, t_S_api_Pair] t_S_api_Pair #[x26, x29]) h28 fun x31 h30 =>
 SlP 2 x0_ (some x7_) none fun x32 =>
 VH Pg (Builtin.append_ #[t_S_api_Pair, t_S_api_Pair] t_S_api_Pair #[x31, x32]) h30 fun x34 h33 =>
 K x34 h33
def m_ref11_Put_j18 (x0_ x1_ x2_ x7_ x25_ : Value) (h : Heap) (nx5 : Nt) (K : Kt) : Prop :=
 CdP x25_
 (m_ref11_Put_j19 x0_ x1_ x2_ x7_ h nx5 K)
 (m_ref11_Put_j21 x0_ x1_ x2_ x7_ h K)
def m_ref11_Put_l4 (vs : List Value) (x0_ x1_ x2_ : Value) (h : Heap) (nx5 : Nt) (K : Kt) : Prop :=
 LenP (some true) x0_ fun x8 =>
 BiP .lss (gv vs 0) x8 fun x9 =>
 CdP x9
 (Ef 2 0 x0_ (gv vs 0) h fun x12 =>
 Ca f_ref01_Compare #[x12, x1_] h fun x14 h13 =>
 BiP .lss x14 (.int .i64 0) fun x15 =>
 m_ref11_Put_j18 x0_ x1_ x2_ (gv vs 0) x15 h13 nx5 K)
 (m_ref11_Put_j18 x0_ x1_ x2_ (gv vs 0) (.bool false) h nx5 K)
def m_ref11_Put (x0_ x1_ x2_ : Value) (h : Heap) (K : Kt) : Prop :=
 Ca f_ref11_Cut #[x0_, x1_] h fun x2 h1 =>
 LoP (fun vt h nx5 => m_ref11_Put_l4 vt x2 x1_ x2_ h nx5 K) [(.int .i64 0)] h1
theorem m_ref11_Put_ok {x0_ x1_ x2_ : Value} {h : Heap} {K : Kt} (hh : m_ref11_Put x0_ x1_ x2_ h K) : Ca f_ref11_Put #[x0_, x1_, x2_] h K := cv Tryz.func72 (by kernel_rfl) hh
def m_ref11_Cut_j19 (x0_ x1_ x5_ x6_ : Value) (h : Heap) (nx5 : Nt) (K : Kt) : Prop :=
 BiP .add x6_ (.int .i64 1) fun x20 =>
 nx5 [x5_, x20] h
def m_ref11_Cut_j21 (x5_ : Value) (h : Heap) (K : Kt) : Prop :=
 K x5_ h
def m_ref11_Cut_l4 (vs : List Value) (x0_ x1_ : Value) (h : Heap) (nx5 : Nt) (K : Kt) : Prop :=
 LenP (some true) x0_ fun x6 =>
 BiP .lss (gv vs 1) x6 fun x7 =>
 CdP x7
 (Ef 2 0 x0_ (gv vs 1) h fun x11 =>
 BiP .neq x11 x1_ fun x12 =>
 CdP x12
 (Ea 2 x0_ (gv vs 1) h fun x14 =>
 BsP st_S_api_Pair 1 [(0, x14)] h fun x16 h15 =>
 VH Pg (Builtin.append_ #[t_S_api_Pair, t_S_api_Pair] t_S_api_Pair #[(gv vs 0), x16]) h15 fun x18 h17 =>
 m_ref11_Cut_j19 x0_ x1_ x18 (gv vs 1) h17 nx5 K)
 (m_ref11_Cut_j19 x0_ x1_ (gv vs 0) (gv vs 1) h nx5 K))
 (m_ref11_Cut_j21 (gv vs 0) h K)
def m_ref11_Cut (x0_ x1_ : Value) (h : Heap) (K : Kt) : Prop :=
 BsP st_S_api_Pair 0 [] h fun x2 h1 =>
 LoP (fun vt h nx5 => m_ref11_Cut_l4 vt x0_ x1_ h nx5 K) [x2, (.int .i64 0)] h1
theorem m_ref11_Cut_ok {x0_ x1_ : Value} {h : Heap} {K : Kt} (hh : m_ref11_Cut x0_ x1_ h K) : Ca f_ref11_Cut #[x0_, x1_] h K := cv Tryz.func73 (by kernel_rfl) hh
def m_ref09_Sized_j43 (x2_ : Value) (h : Heap) (K : Kt) : Prop :=
 K x2_ h
def m_ref09_Sized_j26 (x1_ : Value) (h : Heap) (K : Kt) : Prop :=
 Fv 4 x1_ h fun x29 =>
 Fv 3 x1_ h fun x31 =>
 BiP .mul (.int .i64 2) x31 fun x32 =>
 Ca f_ref09_in #[x29, x32, (.int .i64 512)] h fun x34 h33 =>
 CdP x34
 (Fv 5 x1_ h33 fun x36 =>
 Fv 4 x1_ h33 fun x38 =>
 Ca f_ref09_in #[x36, x38, (.int .i64 1024)] h33 fun x40 h39 =>
 m_ref09_Sized_j43 x40 h39 K)
 (m_ref09_Sized_j43 (.bool false) h33 K)
def m_ref09_Sized_j25 (x1_ x18_ : Value) (h : Heap) (K : Kt) : Prop :=
 CdP x18_
 (K (.bool false) h)
 (m_ref09_Sized_j26 x1_ h K)
def m_ref09_Sized (x0_ : Value) (h : Heap) (K : Kt) : Prop :=
 BxP t_api_Config x0_ h fun x2 h1 =>
 Fv 3 x2 h1 fun x6 =>
 Ca f_ref09_in #[x6, (.int .i64 8), (.int .i64 64)] h1 fun x8 h7 =>
 UnP .not x8 fun x9 =>
 CdP x9
 (m_ref09_Sized_j25 x2 (.bool true) h7 K)
 (Fv 6 x2 h7 fun x13 =>
 Ca f_ref09_in #[x13, (.int .i64 1), (.int .i64 64)] h7 fun x15 h14 =>
 UnP .not x15 fun x16 =>
 CdP x16
 (m_ref09_Sized_j25 x2 (.bool true) h14 K)
 (Fv 7 x2 h14 fun x20 =>
 Ca f_ref09_in #[x20, (.int .i64 0), (.int .i64 256)] h14 fun x22 h21 =>
 UnP .not x22 fun x23 =>
 m_ref09_Sized_j25 x2 x23 h21 K))
theorem m_ref09_Sized_ok {x0_ : Value} {h : Heap} {K : Kt} (hh : m_ref09_Sized x0_ h K) : Ca f_ref09_Sized #[x0_] h K := cv Tryz.func107 (by kernel_rfl) hh
def m_ref09_in_j6 (x6_ : Value) (h : Heap) (K : Kt) : Prop :=
 K x6_ h
def m_ref09_in (x0_ x1_ x2_ : Value) (h : Heap) (K : Kt) : Prop :=
 BiP .geq x0_ x1_ fun x2 =>
 CdP x2
 (BiP .leq x0_ x2_ fun x3 =>
 m_ref09_in_j6 x3 h K)
 (m_ref09_in_j6 (.bool false) h K)
theorem m_ref09_in_ok {x0_ x1_ x2_ : Value} {h : Heap} {K : Kt} (hh : m_ref09_in x0_ x1_ x2_ h K) : Ca f_ref09_in #[x0_, x1_, x2_] h K := cv Tryz.func108 (by kernel_rfl) hh
def m_ref09_Inner_j20 (x1_ x3_ x4_ : Value) (h : Heap) (nx9 : Nt) (K : Kt) : Prop :=
 BiP .add x4_ (.int .i64 1) fun x21 =>
 nx9 [x3_, x21] h
def m_ref09_Inner_j38 (x3_ : Value) (h : Heap) (K : Kt) : Prop :=
 K x3_ h
def m_ref09_Inner_l24 (vs : List Value) (x1_ : Value) (h : Heap) (nx25 : Nt) (K : Kt) : Prop :=
 Fv 4 x1_ h fun x27 =>
 BiP .lss (gv vs 1) x27 fun x28 =>
 CdP x28
 (BiP .add (gv vs 0) (.int .i64 4) fun x30 =>
 Fv 6 x1_ h fun x32 =>
 BiP .add x30 x32 fun x33 =>
 Fv 7 x1_ h fun x35 =>
 BiP .add x33 x35 fun x36 =>
 BiP .add (gv vs 1) (.int .i64 1) fun x37 =>
 nx25 [x36, x37] h)
 (m_ref09_Inner_j38 (gv vs 0) h K)
def m_ref09_Inner_j22 (x1_ x3_ : Value) (h : Heap) (K : Kt) : Prop :=
 LoP (fun vt h nx25 => m_ref09_Inner_l24 vt x1_ h nx25 K) [x3_, (.int .i64 0)] h
def m_ref09_Inner_l8 (vs : List Value) (x1_ : Value) (h : Heap) (nx9 : Nt) (K : Kt) : Prop :=
 Fv 3 x1_ h fun x11 =>
 BiP .lss (gv vs 1) x11 fun x12 =>
 CdP x12
 (BiP .add (gv vs 0) (.int .i64 4) fun x14 =>
 BiP .gtr (gv vs 1) (.int .i64 0) fun x15 =>
 CdP x15
 (BiP .add x14 (.int .i64 1) fun x16 =>
 Fv 6 x1_ h fun x18 =>
 BiP .add x16 x18 fun x19 =>
 m_ref09_Inner_j20 x1_ x19 (gv vs 1) h nx9 K)
 (m_ref09_Inner_j20 x1_ x14 (gv vs 1) h nx9 K))
 (m_ref09_Inner_j22 x1_ (gv vs 0) h K)
def m_ref09_Inner (x0_ : Value) (h : Heap) (K : Kt) : Prop :=
 BxP t_api_Config x0_ h fun x2 h1 =>
 LdA 8 x2 h1 fun x3 =>
 Ca f_ref09_Sized #[x3] h1 fun x5 h4 =>
 UnP .not x5 fun x6 =>
 CdP x6
 (K (.int .i64 0) h4)
 (LoP (fun vt h nx9 => m_ref09_Inner_l8 vt x2 h nx9 K) [(.int .i64 8), (.int .i64 0)] h4)
theorem m_ref09_Inner_ok {x0_ : Value} {h : Heap} {K : Kt} (hh : m_ref09_Inner x0_ h K) : Ca f_ref09_Inner #[x0_] h K := cv Tryz.func109 (by kernel_rfl) hh
def m_ref09_Outer_j22 (x3_ : Value) (h : Heap) (K : Kt) : Prop :=
 K x3_ h
def m_ref09_Outer_l8 (vs : List Value) (x1_ : Value) (h : Heap) (nx9 : Nt) (K : Kt) : Prop :=
 Fv 5 x1_ h fun x11 =>
 BiP .lss (gv vs 1) x11 fun x12 =>
 CdP x12
 (BiP .add (gv vs 0) (.int .i64 3) fun x14 =>
 Fv 6 x1_ h fun x16 =>
 BiP .add x14 x16 fun x17 =>
 Fv 7 x1_ h fun x19 =>
 BiP .add x17 x19 fun x20 =>
 BiP .add (gv vs 1) (.int .i64 1) fun x21 =>
 nx9 [x20, x21] h)
 (m_ref09_Outer_j22 (gv vs 0) h K)
def m_ref09_Outer (x0_ : Value) (h : Heap) (K : Kt) : Prop :=
 BxP t_api_Config x0_ h fun x2 h1 =>
 LdA 8 x2 h1 fun x3 =>
 Ca f_ref09_Sized #[x3] h1 fun x5 h4 =>
 UnP .not x5 fun x6 =>
 CdP x6
 (K (.int .i64 0) h4)
 (LoP (fun vt h nx9 => m_ref09_Outer_l8 vt x2 h nx9 K) [(.int .i64 8), (.int .i64 0)] h4)
theorem m_ref09_Outer_ok {x0_ : Value} {h : Heap} {K : Kt} (hh : m_ref09_Outer x0_ h K) : Ca f_ref09_Outer #[x0_] h K := cv Tryz.func110 (by kernel_rfl) hh
def m_ref13_Key_j12 (x4_ : Value) (h : Heap) (K : Kt) : Prop :=
 K x4_ h
def m_ref13_Key (x0_ x1_ : Value) (h : Heap) (K : Kt) : Prop :=
 BxP t_api_Config x0_ h fun x2 h1 =>
 LenP (some false) x1_ fun x4 =>
 BiP .geq x4 (.int .i64 1) fun x5 =>
 CdP x5
 (LenP (some false) x1_ fun x6 =>
 Fv 6 x2 h1 fun x8 =>
 BiP .leq x6 x8 fun x9 =>
 m_ref13_Key_j12 x9 h1 K)
 (m_ref13_Key_j12 (.bool false) h1 K)
theorem m_ref13_Key_ok {x0_ x1_ : Value} {h : Heap} {K : Kt} (hh : m_ref13_Key x0_ x1_ h K) : Ca f_ref13_Key #[x0_, x1_] h K := cv Tryz.func120 (by kernel_rfl) hh
def m_ref01_Compare_j13 (x0_ x1_ x4_ x5_ : Value) (h : Heap) (nx3 : Nt) (K : Kt) : Prop :=
 IsP x0_ x5_ fun x15 =>
 IsP x1_ x5_ fun x16 =>
 BiP .lss x15 x16 fun x17 =>
 CdP x17
 (K (.int .i64 (-1)) h)
 (IsP x0_ x5_ fun x18 =>
 IsP x1_ x5_ fun x19 =>
 BiP .gtr x18 x19 fun x20 =>
 CdP x20
 (K (.int .i64 1) h)
 (BiP .add x5_ (.int .i64 1) fun x21 =>
 nx3 [x4_, x21] h))
def m_ref01_Compare_j22 (x0_ x1_ : Value) (h : Heap) (K : Kt) : Prop :=
 LenP (some false) x0_ fun x23 =>
 LenP (some false) x1_ fun x24 =>
 BiP .lss x23 x24 fun x25 =>
 CdP x25
 (K (.int .i64 (-1)) h)
 (LenP (some false) x0_ fun x26 =>
 LenP (some false) x1_ fun x27 =>
 BiP .gtr x26 x27 fun x28 =>
 CdP x28
 (K (.int .i64 1) h)
 (K (.int .i64 0) h))
def m_ref01_Compare_j12 (x0_ x1_ x4_ x5_ x15_ : Value) (h : Heap) (nx3 : Nt) (K : Kt) : Prop :=
 CdP x15_
 (m_ref01_Compare_j13 x0_ x1_ x4_ x5_ h nx3 K)
 (m_ref01_Compare_j22 x0_ x1_ h K)
def m_ref01_Compare_l2 (vs : List Value) (x0_ x1_ : Value) (h : Heap) (nx3 : Nt) (K : Kt) : Prop :=
 LenP (some false) x0_ fun x6 =>
 BiP .lss (gv vs 1) x6 fun x7 =>
 CdP x7
 (LenP (some false) x1_ fun x8 =>
 BiP .lss (gv vs 1) x8 fun x9 =>
 m_ref01_Compare_j12 x0_ x1_ (gv vs 0) (gv vs 1) x9 h nx3 K)
 (m_ref01_Compare_j12 x0_ x1_ (gv vs 0) (gv vs 1) (.bool false) h nx3 K)
def m_ref01_Compare (x0_ x1_ : Value) (h : Heap) (K : Kt) : Prop :=
 LoP (fun vt h nx3 => m_ref01_Compare_l2 vt x0_ x1_ h nx3 K) [(.int .i64 0), (.int .i64 0)] h
theorem m_ref01_Compare_ok {x0_ x1_ : Value} {h : Heap} {K : Kt} (hh : m_ref01_Compare x0_ x1_ h K) : Ca f_ref01_Compare #[x0_, x1_] h K := cv Tryz.func121 (by kernel_rfl) hh
end Go.Sg
namespace Go.Sg
open Go Vc
section
variable {h : Heap} {K : Kt} {c : Config} {n lo hi : Int} {U : Nat → Prop} {x : Value} {l : List Pair} {k v : Str} {a b : Str}
theorem c_ref09_in (r : K (.bool (decide (lo ≤ n ∧ n ≤ hi))) h) : Ca f_ref09_in #[int n, int lo, int hi] h K := by
  refine m_ref09_in_ok ?_
  unfold m_ref09_in
  rw [BiP_geq]
  refine cdp (fun h1 => ?_) (fun h1 => ?_)
  · rw [BiP_leq]
    have : decide (lo ≤ n ∧ n ≤ hi) = decide (n ≤ hi) := by simp [h1]
    rw [this] at r; exact r
  · have : decide (lo ≤ n ∧ n ≤ hi) = false := decide_eq_false fun h => h1 h.1
    rw [this] at r; exact r
theorem c_ref09_Sized (r : ∀ h', Ext h h' → K (.bool (decide c.Sized)) h') : Ca f_ref09_Sized #[c.v] h K := by
  refine m_ref09_Sized_ok (bxa (cs := c.cs) fun b h1 e1 hb k1 _ => ?_)
  have r := r h1 e1
  have no : ¬ c.Sized → m_ref09_Sized_j25 (ptr b 0) (.bool true) h1 K := fun hn => by
    unfold m_ref09_Sized_j25
    rw [decide_eq_false hn] at r
    rw [CdP_true]; exact r
  refine fv (v := int c.fan) (by rw [k1.get]; rfl) (c_ref09_in ?_)
  rw [UnP_not]
  refine cd (fun hx => no fun hs => ?_) fun h1' => ?_
  · have : ¬ (8 ≤ c.fan ∧ c.fan ≤ 64) := fun q => by rw [decide_eq_true q] at hx; cases hx
    unfold Config.Sized at hs; omega
  have g1 := of_decide_eq_true (by simpa using h1' : decide (8 ≤ c.fan ∧ c.fan ≤ 64) = true)
  refine fv (v := int c.key) (by rw [k1.get]; rfl) (c_ref09_in ?_)
  rw [UnP_not]
  refine cd (fun hx => no fun hs => ?_) fun h2' => ?_
  · have : ¬ (1 ≤ c.key ∧ c.key ≤ 64) := fun q => by rw [decide_eq_true q] at hx; cases hx
    unfold Config.Sized at hs; omega
  have g2 := of_decide_eq_true (by simpa using h2' : decide (1 ≤ c.key ∧ c.key ≤ 64) = true)
  refine fv (v := int c.val) (by rw [k1.get]; rfl) (c_ref09_in ?_)
  rw [UnP_not]
  unfold m_ref09_Sized_j25
  refine cd (fun hx => ?_) fun h3' => ?_
  · have : ¬ (0 ≤ c.val ∧ c.val ≤ 256) := fun q => by rw [decide_eq_true q] at hx; cases hx
    have hn : ¬ c.Sized := fun hs => by unfold Config.Sized at hs; omega
    rw [decide_eq_false hn] at r; exact r
  have g3 := of_decide_eq_true (by simpa using h3' : decide (0 ≤ c.val ∧ c.val ≤ 256) = true)
  unfold m_ref09_Sized_j26
  refine fv (v := int c.buffer) (by rw [k1.get]; rfl) (fv (v := int c.fan) (by rw [k1.get]; rfl) ?_)
  refine mul64 (by omega) (c_ref09_in ?_)
  refine cdp (fun h4' => ?_) fun h4' => ?_
  · refine fv (v := int c.leaf) (by rw [k1.get]; rfl) (fv (v := int c.buffer) (by rw [k1.get]; rfl) (c_ref09_in ?_))
    have : decide (c.buffer ≤ c.leaf ∧ c.leaf ≤ 1024) = decide c.Sized := by
      unfold Config.Sized
      refine decide_eq_decide.2 ⟨fun q => ?_, fun q => ?_⟩ <;> omega
    rw [this]; exact r
  · have hn : ¬ c.Sized := fun hs => by unfold Config.Sized at hs; omega
    rw [decide_eq_false hn] at r; exact r
theorem c_ref09_Inner (r : ∀ h', Ext h h' → K (int c.inner) h') : Ca f_ref09_Inner #[c.v] h K := by
  refine m_ref09_Inner_ok (bxa (cs := c.cs) fun b h1 e1 hb k1 _ => (LdA_b k1 rfl).2 (c_ref09_Sized (c := c) fun h2 e2 => ?_))
  have r := r h2 (e1.trans e2)
  have k2 := k1.ext e2
  unfold Config.inner at r
  rw [UnP_not]
  by_cases hs : c.Sized
  · rw [if_pos hs] at r
    rw [decide_eq_true hs]
    refine cd (fun h => absurd h (by decide)) fun _ => ?_
    unfold Config.Sized at hs
    have q1 : ∀ i : Int, 0 ≤ i → i ≤ 64 → 0 ≤ i * (5 + c.key) ∧ i * (5 + c.key) ≤ 64 * 69 := fun i h0 h1 => ⟨Int.mul_nonneg h0 (by omega), Int.mul_le_mul h1 (by omega) (by omega) (by omega)⟩
    have q2 : ∀ i : Int, 0 ≤ i → i ≤ 512 → 0 ≤ i * (4 + c.key + c.val) ∧ i * (4 + c.key + c.val) ≤ 512 * 324 := fun i h0 h1 => ⟨Int.mul_nonneg h0 (by omega), Int.mul_le_mul h1 (by omega) (by omega) (by omega)⟩
    refine lop (σ := Nat) (fun i => [int (8 + i * (5 + c.key) - (if i = 0 then 0 else 1 + c.key)), int i]) (fun i h' => h' = h2 ∧ (i : Int) ≤ c.fan) (fun i => c.fan.toNat - i) 0 (by simp) ⟨rfl, by omega⟩ ?_
    rintro i h3 N ⟨rfl, hi⟩ hN
    simp only [m_ref09_Inner_l8, gv_zero, gv_succ]
    refine fv (v := int c.fan) (by rw [k2.get]; rfl) ?_
    have hq := q1 i (by omega) (by omega)
    have hm : ((i + 1 : Nat) : Int) * (5 + c.key) = (i : Int) * (5 + c.key) + (5 + c.key) := by rw [Int.natCast_add, Int.add_mul]; simp
    rw [BiP_lss]
    refine cdp (fun hlt => ?_) (fun hge => ?_)
    · refine add64 (by split <;> omega) ?_
      rw [BiP_gtr]
      refine cdp (fun h0 => ?_) (fun h0 => ?_)
      · refine add64 (by split <;> omega) (fv (v := int c.key) (by rw [k2.get]; rfl) (add64 (by split <;> omega) ?_))
        unfold m_ref09_Inner_j20
        refine add64 (by omega) ?_
        have := hN (i + 1) h3 ⟨rfl, by omega⟩ (by omega)
        rw [hm] at this
        rw [if_neg (by omega)] at this ⊢
        have e : 8 + (i : Int) * (5 + c.key) - (1 + c.key) + 4 + 1 + c.key = 8 + ((i : Int) * (5 + c.key) + (5 + c.key)) - (1 + c.key) := by omega
        rw [e]; simpa using this
      · have h00 : i = 0 := by omega
        subst h00
        unfold m_ref09_Inner_j20
        refine add64 (by omega) ?_
        have := hN 1 h3 ⟨rfl, by omega⟩ (by omega)
        rw [if_neg (by decide)] at this
        have e : 8 + ((1 : Nat) : Int) * (5 + c.key) - (1 + c.key) = 12 := by simp; omega
        rw [e] at this
        simpa using this
    · have hif : (i : Int) = c.fan := by omega
      unfold m_ref09_Inner_j22
      have hi0 : i ≠ 0 := by omega
      rw [if_neg hi0, hif]
      have hqf : 0 ≤ c.fan * (5 + c.key) ∧ c.fan * (5 + c.key) ≤ 64 * 69 := by rw [← hif]; exact hq
      refine lop (σ := Nat) (fun j => [int (8 + c.fan * (5 + c.key) - (1 + c.key) + j * (4 + c.key + c.val)), int j]) (fun j h' => h' = h3 ∧ (j : Int) ≤ c.buffer) (fun j => c.buffer.toNat - j) 0 (by simp) ⟨rfl, by omega⟩ ?_
      rintro j h4 N' ⟨rfl, hj⟩ hN'
      simp only [m_ref09_Inner_l24, gv_zero, gv_succ]
      have hq2 := q2 j (by omega) (by omega)
      have hm2 : ((j + 1 : Nat) : Int) * (4 + c.key + c.val) = (j : Int) * (4 + c.key + c.val) + (4 + c.key + c.val) := by rw [Int.natCast_add, Int.add_mul]; simp
      refine fv (v := int c.buffer) (by rw [k2.get]; rfl) ?_
      rw [BiP_lss]
      refine cdp (fun hlt => ?_) (fun hge => ?_)
      · refine add64 (by omega) (fv (v := int c.key) (by rw [k2.get]; rfl) (add64 (by omega) (fv (v := int c.val) (by rw [k2.get]; rfl) (add64 (by omega) (add64 (by omega) ?_)))))
        have := hN' (j + 1) h4 ⟨rfl, by omega⟩ (by omega)
        rw [hm2] at this
        have e : 8 + c.fan * (5 + c.key) - (1 + c.key) + (j : Int) * (4 + c.key + c.val) + 4 + c.key + c.val = 8 + c.fan * (5 + c.key) - (1 + c.key) + ((j : Int) * (4 + c.key + c.val) + (4 + c.key + c.val)) := by omega
        rw [e]; simpa using this
      · have hjb : (j : Int) = c.buffer := by omega
        unfold m_ref09_Inner_j38
        have e : 8 + c.fan * (5 + c.key) - (1 + c.key) + (j : Int) * (4 + c.key + c.val) = 8 + 4 * c.fan + (c.fan - 1) * (1 + c.key) + c.buffer * (4 + c.key + c.val) := by
          rw [hjb, Int.sub_mul, Int.one_mul]
          have : c.fan * (5 + c.key) = 4 * c.fan + c.fan * (1 + c.key) := by
            rw [show (5 + c.key : Int) = 4 + (1 + c.key) from by omega, Int.mul_add, Int.mul_comm c.fan 4]
          omega
        rw [e]; exact r
  · rw [if_neg hs] at r
    rw [decide_eq_false hs]
    exact cd (fun _ => r) fun h => absurd h (by decide)
theorem c_ref09_Outer (r : ∀ h', Ext h h' → K (int c.outer) h') : Ca f_ref09_Outer #[c.v] h K := by
  refine m_ref09_Outer_ok (bxa (cs := c.cs) fun b h1 e1 hb k1 _ => (LdA_b k1 rfl).2 (c_ref09_Sized (c := c) fun h2 e2 => ?_))
  have r := r h2 (e1.trans e2)
  have k2 := k1.ext e2
  unfold Config.outer at r
  rw [UnP_not]
  by_cases hs : c.Sized
  · rw [if_pos hs] at r
    rw [decide_eq_true hs]
    refine cd (fun h => absurd h (by decide)) fun _ => ?_
    unfold Config.Sized at hs
    have q2 : ∀ i : Int, 0 ≤ i → i ≤ 1024 → 0 ≤ i * (3 + c.key + c.val) ∧ i * (3 + c.key + c.val) ≤ 1024 * 323 := fun i h0 h1 => ⟨Int.mul_nonneg h0 (by omega), Int.mul_le_mul h1 (by omega) (by omega) (by omega)⟩
    refine lop (σ := Nat) (fun j => [int (8 + j * (3 + c.key + c.val)), int j]) (fun j h' => h' = h2 ∧ (j : Int) ≤ c.leaf) (fun j => c.leaf.toNat - j) 0 (by simp) ⟨rfl, by omega⟩ ?_
    rintro j h4 N' ⟨rfl, hj⟩ hN'
    simp only [m_ref09_Outer_l8, gv_zero, gv_succ]
    have hq2 := q2 j (by omega) (by omega)
    have hm2 : ((j + 1 : Nat) : Int) * (3 + c.key + c.val) = (j : Int) * (3 + c.key + c.val) + (3 + c.key + c.val) := by rw [Int.natCast_add, Int.add_mul]; simp
    refine fv (v := int c.leaf) (by rw [k2.get]; rfl) ?_
    rw [BiP_lss]
    refine cdp (fun hlt => ?_) (fun hge => ?_)
    · refine add64 (by omega) (fv (v := int c.key) (by rw [k2.get]; rfl) (add64 (by omega) (fv (v := int c.val) (by rw [k2.get]; rfl) (add64 (by omega) (add64 (by omega) ?_)))))
      have := hN' (j + 1) h4 ⟨rfl, by omega⟩ (by omega)
      rw [hm2] at this
      have e : 8 + (j : Int) * (3 + c.key + c.val) + 3 + c.key + c.val = 8 + ((j : Int) * (3 + c.key + c.val) + (3 + c.key + c.val)) := by omega
      rw [e]; simpa using this
    · have hjb : (j : Int) = c.leaf := by omega
      unfold m_ref09_Outer_j22
      rw [hjb]; exact r
  · rw [if_neg hs] at r
    rw [decide_eq_false hs]
    exact cd (fun _ => r) fun h => absurd h (by decide)
theorem c_ref09_Right (r : ∀ h', Ext h h' → K (.bool (decide c.Right)) h') : Ca f_ref09_Right #[c.v] h K := by
  refine m_ref09_Right_ok (bxa (cs := c.cs) fun b h1 e1 hb k1 _ => ?_)
  refine ⟨fun b' _ => b' = b, LaX_b k1 rfl (fun _ => rfl) ?_⟩
  have same : Agr (fun b' _ => b' = b) h1 h1 := fun _ _ _ => rfl
  have no : ∀ h', Ext h1 h' → ¬ c.Right → m_ref09_Right_j52 (.bool false) h' K := fun h' e hn => by
    have := r h' (e1.trans e)
    rw [decide_eq_false hn] at this; exact this
  refine c_ref09_Sized (c := c) fun h2 e2 => ⟨agr_b e2 k1.lt id, ?_⟩
  refine cdp (fun g1 => ?_) fun g1 => no h2 e2 fun hr => g1 hr.1
  rw [FaP_ptr]
  refine LdX_b k1 (v := int c.blocks) rfl (fun _ => rfl) (c_ref09_in ⟨agr_b e2 k1.lt id, ?_⟩)
  refine cdp (fun g2 => ?_) fun g2 => no h2 e2 fun hr => g2 ⟨hr.2.1, hr.2.2.1⟩
  rw [FaP_ptr]
  refine LdX_b k1 (v := int c.frames) rfl (fun _ => rfl) (c_ref09_in ⟨agr_b e2 k1.lt id, ?_⟩)
  refine cdp (fun g3 => ?_) fun g3 => no h2 e2 fun hr => g3 ⟨hr.2.2.2.1, hr.2.2.2.2.1⟩
  rw [FaP_ptr]
  refine LdX_b k1 (v := int c.bytes) rfl (fun _ => rfl) (c_ref09_in ⟨agr_b e2 k1.lt id, ?_⟩)
  refine cdp (fun g4 => ?_) fun g4 => no h2 e2 fun hr => g4 ⟨bytes64 hr, hr.2.2.2.2.2.1⟩
  rw [FaP_ptr]
  refine LdX_b k1 (v := int c.bytes) rfl (fun _ => rfl) (LaX_b k1 rfl (fun _ => rfl) ?_)
  refine c_ref09_Inner (c := c) fun h3 e3 => ⟨agr_b (e2.trans e3) k1.lt id, ?_⟩
  have e13 := e2.trans e3
  rw [BiP_geq]
  refine cdp (fun g5 => ?_) fun g5 => no h3 e13 fun hr => by have := hr.2.2.2.2.2.2; unfold Config.leastBytes at this; omega
  rw [FaP_ptr]
  refine LdX_b k1 (v := int c.bytes) rfl (fun _ => rfl) (LaX_b k1 rfl (fun _ => rfl) ?_)
  refine c_ref09_Outer (c := c) fun h4 e4 => ⟨agr_b (e13.trans e4) k1.lt id, ?_⟩
  have e14 := e13.trans e4
  rw [BiP_geq]
  have := r h4 (e1.trans e14)
  have he : decide (c.outer ≤ c.bytes) = decide c.Right := by
    refine decide_eq_decide.2 ⟨fun q => ⟨g1, g2.1, g2.2, g3.1, g3.2, g4.2, ?_⟩, fun hr => ?_⟩
    · unfold Config.leastBytes; omega
    · have := hr.2.2.2.2.2.2; unfold Config.leastBytes at this; omega
  rw [he]; exact this
end
end Go.Sg
