/-
  KvNobody: a store that nobody made does nothing and costs nothing: the law returns true at every op, and its argument reads behind the call as it did. Conditions: none but the row's own (the package variable math/bits.deBruijn64tab as the program's text lays it, which the card ties).
-/
import Derived.Test.YtoahnccffedojaaGreatDoorRows
import Derived.Test.YtoahnccffedojaaGreatDoorTie
import Derived.Test.YtoahnccffedojaaGreatDoorCards
import Derived.ProofKit
import Derived.LaidMore
import Derived.LaidHandle
import Derived.MakeChecks
import Derived.OpenShut
import Derived.Stop.Joined
import Derived.Lib.SmallJoins
import Derived.SevenTiedAt
import Derived.Test.YtoahnccffedojaaGreatDoorP25
import Derived.Test.YtoahnccffedojaaGreatDoorP26
set_option linter.unusedVariables false
set_option linter.unusedSimpArgs false
/-! The page's example: a small store is put to, asked, closed. -/
namespace Go.Sg
open Go Vc
def leastC : Config := ⟨9, 200, 8, 8, 16, 16, 2, 1⟩
section
variable {h : Heap} {K : Kt}
theorem least_right : leastC.Right := by decide
theorem c_law27_least (r : ∀ h', Ext h h' → K leastC.v h') : Ca f_law27_least #[] h K := by
  refine m_law27_least_ok (al (fun b h1 e1 hb k1 _ => ?_))
  refine ⟨_, leastC.cs.toArray, rfl, rfl, ?_⟩
  refine StA_b (vs := leastC.cs) k1 rfl rfl rfl fun h2 _ e2 k2 => ?_
  refine (LdA_b k2 rfl).2 (r h2 ?_)
  exact e1.andThen e2 fun x hx he => by omega
def ka : Str := [97]
def one : Str := [49]
theorem c_law27_awake (t : Tz h) (r : ∀ h', Ext h h' → K (.bool true) h') : Ca f_law27_awake #[] h K := by
  refine m_law27_awake_ok (c_law27_least fun h1 e1 => ?_)
  refine c_kv_New least_right (by decide) (by decide) (by decide) (t.ext e1) fun l2 s h2 k2 z2 e2 hs => ?_
  have e02 := e1.trans e2
  have hl1 := e1.le
  rw [ex20, ex21, BiP_neq]
  refine cdp (fun h => absurd rfl h) fun _ => ?_
  refine eq_ptr_nil (by kernel_rfl) ?_
  show CdP (.bool false) _ _
  rw [CdP_false]
  unfold m_law27_awake_j15
  have lz : ∀ {l l' : Nat → Nat} {h' : Heap}, Lat l l' h' → (∀ b, b < h.size → l b = 0) → h.size ≤ h'.size → ∀ b, b < h.size → l' b = 0 := fun a z hl b hb => (a b (by omega)).trans (z b hb)
  have z2 : ∀ b, b < h.size → l2 b = 0 := fun b hb => z2 b (by omega)
  refine c_kv_Put (key := ka) (val := one) k2 (by decide) (by decide) (by decide) fun l3 h3 a3 k3 e3 => ?_
  have z3 := lz a3 z2 e02.le
  have e03 := Ex.lab0 e02 e3 (by decide) z2
  refine c_kv_Get (key := ka) k3 (by decide) fun l4 h4 a4 k4 e4 => ?_
  have z4 := lz a4 z3 e03.le
  have e04 := Ex.lab0 e03 e4 (by decide) z3
  rw [ex20, ex21]
  refine c_kv_Delete (key := ka) k4 (by decide) (by decide) (by decide) fun l5 h5 a5 k5 e5 => ?_
  have z5 := lz a5 z4 e04.le
  have e05 := Ex.lab0 e04 e5 (by decide) z4
  refine c_kv_Get (key := ka) k5 (by decide) fun l6 h6 a6 k6 e6 => ?_
  have z6 := lz a6 z5 e05.le
  have e06 := Ex.lab0 e05 e6 (by decide) z5
  rw [ex20, ex21]
  refine c_kv_Close k6 (by decide) fun x h7 k7 e7 => ?_
  have e07 := Ex.lab0 e06 e7 (by decide) z6
  rw [ex20, ex21]
  refine c_kv_Get_closed (key := ka) k7 fun h8 k8 e8 => ?_
  have e08 : Ext h h8 := e07.andThen e8 fun y hy he => by omega
  rw [ex20, ex21, BiP_eql]
  refine cdp (fun _ => ?_) fun h => absurd rfl h
  show BiP .eql (str one) (str one) _
  rw [BiP_seql]
  refine cdp (fun _ => ?_) fun h => absurd rfl h
  show BiP .eql (int 0) (int 0) _
  rw [BiP_eql]
  refine cdp (fun _ => ?_) fun h => absurd rfl h
  rw [BiP_eql]
  refine cdp (fun _ => ?_) fun h => absurd rfl h
  show BiP .eql (int 9) (int 9) _
  rw [BiP_eql]
  refine cdp (fun _ => ?_) fun h => absurd rfl h
  rw [BiP_eql]
  refine cdp (fun _ => ?_) fun h => absurd rfl h
  rw [BiP_eql]
  exact r h8 e08
end
end Go.Sg
/-! The statement's function: a store that nobody made. -/
namespace Go.Sg
open Go Vc
section
variable {h : Heap} {K : Kt} {s : Value} {kind n : Int} {key val : Str}
theorem c_law27_Step_nob (ns : Nob h s) (r : ∀ (e : Int) h', Nob h' s → Ex (own1 s) h h' → (1 ≤ kind → kind ≤ 6 → e = 1) → K (.agg #[int e, str [], .slice none 0 0]) h') :
    Ca f_law27_Step #[s, .agg #[int kind, str key, str val, int n]] h K := by
  refine m_law27_Step_ok (bxa (cs := [int kind, str key, str val, int n]) fun b1 h1 e1 hb1 k1 _ => ala (cs := [int 0, str [], .slice none 0 0]) fun b2 h2 e2 hb2 k2 _ => ?_)
  have k1 := k1.ext e2
  have e12 := e1.trans e2
  have n2 := ns.ext e12
  have hl1 := e1.le
  have o2 : ¬ own1 s b2 := own1_new ns (by omega)
  -- an answer is laid, and read
  have ans : ∀ (h3 : Heap) (e : Int), Nob h3 s → Ex (own1 s) h2 h3 → (1 ≤ kind → kind ≤ 6 → e = 1) → StA 3 (ptr b2 0) (.agg #[int e, str [], .slice none 0 0]) h3 fun h' => LdA 3 (ptr b2 0) h' fun x => K x h' := fun h3 e n3 e3 he => by
    refine StA_b (vs := [int e, str [], .slice none 0 0]) (k2.ex e3 o2) rfl rfl rfl fun h4 _ e4 k4 => ?_
    refine (LdA_b k4 rfl).2 (r e h4 ?_ ?_ he)
    · exact n3.imp id fun ⟨b, q1, q2⟩ => ⟨b, q1, q2.ex e4 (by have := ns.lt (x := b) q1; omega)⟩
    · exact ((Ex.toM e12).trans e3).fresh e4 fun x hx he => by omega
  refine fv (v := int kind) (by rw [k1.get]; rfl) ?_
  have fk : hget h2 b1 (0 + 1) = some (str key) := by rw [k1.get]; rfl
  have fvl : hget h2 b1 (0 + 2) = some (str val) := by rw [k1.get]; rfl
  have fn : hget h2 b1 (0 + 3) = some (int n) := by rw [k1.get]; rfl
  rw [BiP_eql]
  refine cdp (fun _ => ?_) (fun h1' => ?_)
  · refine fv fk (fv fvl ?_)
    refine c_kv_Put_nob n2 fun h3 n3 e3 => ?_
    exact ⟨_, #[int 1, str [], .slice none 0 0], rfl, rfl, ans h3 1 n3 e3 fun _ _ => rfl⟩
  rw [BiP_eql]
  refine cdp (fun _ => ?_) (fun h2' => ?_)
  · refine fv fk ?_
    refine c_kv_Delete_nob n2 fun h3 n3 e3 => ?_
    exact ⟨_, #[int 1, str [], .slice none 0 0], rfl, rfl, ans h3 1 n3 e3 fun _ _ => rfl⟩
  rw [BiP_eql]
  refine cdp (fun _ => ?_) (fun h3' => ?_)
  · refine fv fk ?_
    refine c_kv_Get_nob n2 fun h3 n3 e3 => ?_
    rw [ex20, ex21]
    exact ⟨_, #[int 1, str [], .slice none 0 0], rfl, rfl, ans h3 1 n3 e3 fun _ _ => rfl⟩
  rw [BiP_eql]
  refine cdp (fun _ => ?_) (fun h4' => ?_)
  · refine fv fk (fv fvl (fv fn ?_))
    refine c_kv_Range_nob n2 fun h3 n3 e3 => ?_
    rw [ex20, ex21]
    exact ⟨_, #[int 1, str [], .slice none 0 0], rfl, rfl, ans h3 1 n3 e3 fun _ _ => rfl⟩
  rw [BiP_eql]
  refine cdp (fun _ => ?_) (fun h5' => ?_)
  · refine c_kv_Sync_nob n2 fun h3 n3 e3 => ?_
    exact ⟨_, #[int 1, str [], .slice none 0 0], rfl, rfl, ans h3 1 n3 e3 fun _ _ => rfl⟩
  rw [BiP_eql]
  refine cdp (fun _ => ?_) (fun h6' => ?_)
  · refine c_kv_Reopen_nob n2 fun h3 n3 e3 => ?_
    exact ⟨_, #[int 1, str [], .slice none 0 0], rfl, rfl, ans h3 1 n3 e3 fun _ _ => rfl⟩
  exact ⟨_, #[int 0, str [], .slice none 0 0], rfl, rfl, ans h2 0 n2 (Ex.refl _ _) fun _ _ => by omega⟩
theorem c_law27_KvNobody (t : Tz h) (r : ∀ h', Ext h h' → K (.bool true) h') : Ca f_law27_KvNobody #[.agg #[int kind, str key, str val, int n]] h K := by
  refine m_law27_KvNobody_ok (bxa (cs := [int kind, str key, str val, int n]) fun b1 h1 e1 hb1 k1 _ => ?_)
  refine ⟨_, kz.toArray, rfl, rfl, ?_⟩
  refine bxa (cs := kz) fun b h2 e2 hb k2 _ => ?_
  refine bs (n0 := h2.size) (e := t_P_kv_Store) (zs := #[.pointer none]) [(⟨.pointer none, rfl⟩ : Cl), ⟨ptr b 0, rfl⟩] rfl (Nat.le_refl _) rfl (by decide) (cs := #[.pointer none, ptr b 0]) (by kernel_rfl) rfl fun v h3 o3 e3 => ?_
  have e12 := e1.trans e2
  have e03 := e12.trans e3
  have hl1 := e1.le
  have tl := t.lt
  have k1 := (k1.ext e2).ext e3
  have k2 := k2.ext e3
  have hbl : b < h3.size := k2.lt
  have hb1b : b1 ≠ b := by omega
  have hs1 : h2.size ≤ h3.size := e3.le
  have hh12 : h1.size < h2.size := by have := k2.lt; omega
  have hvb : ∀ x, v.ownBlock = some x → ¬ (x = b) := fun x hx he => by have h1 := o3.block x hx; omega
  refine lop (σ := Nat) (fun i => [.bool false, int i]) (fun i h' => i ≤ 2 ∧ Blk h' b kz ∧ Ex (fun x => x = b) h3 h') (fun i => 2 - i) 0 rfl ⟨by decide, k2, Ex.refl _ _⟩ ?_
  rintro i h4 N ⟨hi, k4, e4⟩ hN
  simp only [m_law27_KvNobody_l9, gv_zero, gv_succ]
  have o4 := o3.exb e4 hvb
  have s4 : Sl No h4 v [(⟨.pointer none, rfl⟩ : Cl), ⟨ptr b 0, rfl⟩] := o4.sl fun _ _ h => h
  refine s4.len ?_
  rw [BiP_lss]
  have b14 : Blk h4 b1 [int kind, str key, str val, int n] := k1.ex e4 hb1b
  refine cdp (fun hlt => ?_) (fun hge => ?_)
  · have hlt : i < 2 := by have h2 : (i : Int) < ((2 : Nat) : Int) := hlt; omega
    obtain ⟨a, ha⟩ : ∃ a, ([(⟨.pointer none, rfl⟩ : Cl), ⟨ptr b 0, rfl⟩] : List Cl)[i]? = some a := ⟨_, List.getElem?_eq_getElem (by simpa using hlt)⟩
    have hnob : ∀ hh, Blk hh b kz → Nob hh a.v := fun hh kk => by
      rcases i with _ | _ | i
      · cases ha; exact .inl rfl
      · cases ha; exact .inr ⟨b, rfl, kk⟩
      · omega
    have hown : ∀ x, own1 a.v x → x = b := fun x hx => by
      rcases i with _ | _ | i
      · cases ha; cases hx
      · cases ha; cases hx; rfl
      · omega
    have keep : ∀ {h5 h6 : Heap}, Blk h5 b kz → Nob h6 a.v → Ex (own1 a.v) h5 h6 → Blk h6 b kz := fun {h5 h6} k5 n6 e56 => by
      rcases i with _ | _ | i
      · cases ha; exact k5.ex e56 (fun hx => by cases hx)
      · cases ha
        rcases n6 with hx | ⟨b', hx, k⟩
        · cases hx
        · cases hx; exact k
      · omega
    refine s4.ei (x := a) (w := a.v) (by omega) (by rw [Int.toNat_natCast]; exact ha) rfl ?_
    refine (LdA_b b14 rfl).2 ?_
    refine c_law27_Step_nob (hnob h4 k4) fun e h5 n5 e5 he => ?_
    have kb5 := keep k4 n5 e5
    refine alst (vs := [int e, str [], .slice none 0 0]) rfl rfl rfl fun b6 h6 e6 hb6 k6 _ => ?_
    have n6 := n5.ext e6
    have kb6 := kb5.ext e6
    refine c_kv_Close_nob n6 fun h7 n7 e7 => ?_
    have kb7 := keep kb6 n7 e7
    rw [ex20, ex21]
    have hb6b : b6 ≠ b := by have := kb5.lt; omega
    have k67 := k6.ex e7 (fun hx => hb6b (hown _ hx))
    refine c_kv_Look_nob n7 fun h8 e8 => ?_
    rw [ex20, ex21]
    refine alst (vs := [int 0, int 0, int 0, int 0, int 0]) rfl rfl rfl fun b9 h9 e9 hb9 k9 _ => ?_
    have e79 := e8.trans e9
    have n9 := n7.ext e79
    have kb9 := kb7.ext e79
    have k69 := k67.ext e79
    have e49 : Ex (fun x => x = b) h4 h9 := ((((e5.mono fun x _ hx => hown x hx).trans (Ex.toM e6)).trans (e7.mono fun x _ hx => hown x hx)).trans (Ex.toM e79))
    have b19 := b14.ex e49 hb1b
    -- what is asked behind all
    have last : ∀ (h10 : Heap), Ext h9 h10 → m_law27_KvNobody_j163 (ptr b1 0) (.bool false) v (int i) a.v (.bool false) h10 N K := fun h10 e10 => by
      unfold m_law27_KvNobody_j163
      rw [CdP_false]
      unfold m_law27_KvNobody_j164
      refine c_kv_Config_nob (n9.ext e10) fun h11 e11 => ?_
      refine ⟨_, Config.zero.cs.toArray, rfl, rfl, ?_⟩
      refine neq_ints (t := t_api_Config) (k := .i64) (xs := [0, 0, 0, 0, 0, 0, 0, 0]) (ys := [0, 0, 0, 0, 0, 0, 0, 0]) (by kernel_rfl) (by kernel_rfl) (by kernel_rfl) (by kernel_rfl) (by kernel_rfl) (by kernel_rfl) ?_
      refine cd (fun h => absurd h (by decide)) fun _ => ?_
      have n11 := n9.ext (e10.trans e11)
      refine c_kv_Height_nob n11 ?_
      rw [BiP_neq]
      refine cdp (fun h => absurd rfl h) fun _ => ?_
      refine c_kv_Left_nob n11 ?_
      rw [BiP_neq]
      refine cdp (fun h => absurd rfl h) fun _ => ?_
      refine c_kv_Cost_nob n11 fun h12 e12 => ?_
      refine ⟨_, #[w64 0, w64 0], rfl, rfl, ?_⟩
      refine neq_ints (t := t_api_Stats) (k := .u64) (xs := [0, 0]) (ys := [0, 0]) (by kernel_rfl) (by kernel_rfl) (by kernel_rfl) (by kernel_rfl) (by kernel_rfl) (by kernel_rfl) ?_
      refine cd (fun h => absurd h (by decide)) fun _ => ?_
      refine c_kv_Total_nob (n11.ext e12) fun h13 e13 => ?_
      refine ⟨_, #[w64 0, w64 0], rfl, rfl, ?_⟩
      refine neq_ints (t := t_api_Stats) (k := .u64) (xs := [0, 0]) (ys := [0, 0]) (by kernel_rfl) (by kernel_rfl) (by kernel_rfl) (by kernel_rfl) (by kernel_rfl) (by kernel_rfl) ?_
      unfold m_law27_KvNobody_j201
      refine cd (fun h => absurd h (by decide)) fun _ => ?_
      unfold m_law27_KvNobody_j202
      refine add64 (by omega) ?_
      have e913 := ((e10.trans e11).trans e12).trans e13
      have := hN (i + 1) h13 ⟨by omega, kb9.ext e913, (e4.trans e49).trans (Ex.toM e913)⟩ (by omega)
      simpa using this
    have f0 : hget h9 b6 (0 + 0) = some (int e) := by rw [k69.get]; rfl
    have f1 : hget h9 b6 (0 + 1) = some (str []) := by rw [k69.get]; rfl
    have f2 : hget h9 b6 (0 + 2) = some (.slice none 0 0) := by rw [k69.get]; rfl
    refine fv (v := int kind) (by rw [b19.get]; rfl) ?_
    rw [BiP_geq]
    refine cdp (fun q1 => fv (v := int kind) (by rw [b19.get]; rfl) ?_) (fun _ => ?_)
    · rw [BiP_leq]
      refine cdp (fun q2 => fv f0 ?_) (fun _ => ?_)
      · rw [BiP_neq]
        refine cdp (fun h => absurd (he (by omega) (by omega)) h) fun _ => ?_
        refine fv f2 ((Sl.nil (α := UInt8) No h9).len ?_)
        rw [BiP_neq]
        refine cdp (fun h => absurd rfl h) fun _ => fv f1 ?_
        show BiP .neq (str []) (str []) _
        rw [BiP_sneq]
        refine cdp (fun h => absurd rfl h) fun _ => (Sl.nil (α := UInt8) No h9).len ?_
        rw [BiP_neq]
        refine cdp (fun h => absurd rfl h) fun _ => ?_
        rw [BiP_neq]
        refine cdp (fun h => absurd rfl h) fun _ => (LdA_b k9 rfl).2 ?_
        refine ⟨_, #[int 0, int 0, int 0, int 0, int 0], rfl, rfl, ?_⟩
        refine neq_ints (t := t_walk_Report) (k := .i64) (xs := [0, 0, 0, 0, 0]) (ys := [0, 0, 0, 0, 0]) (by kernel_rfl) (by kernel_rfl) (by kernel_rfl) (by kernel_rfl) (by kernel_rfl) (by kernel_rfl) ?_
        refine cd (fun h => absurd h (by decide)) fun _ => ?_
        rw [BiP_neq]
        exact last h9 (Ex.refl _ _)
      · refine fv f2 ((Sl.nil (α := UInt8) No h9).len ?_)
        rw [BiP_neq]
        refine cdp (fun h => absurd rfl h) fun _ => fv f1 ?_
        show BiP .neq (str []) (str []) _
        rw [BiP_sneq]
        refine cdp (fun h => absurd rfl h) fun _ => (Sl.nil (α := UInt8) No h9).len ?_
        rw [BiP_neq]
        refine cdp (fun h => absurd rfl h) fun _ => ?_
        rw [BiP_neq]
        refine cdp (fun h => absurd rfl h) fun _ => (LdA_b k9 rfl).2 ?_
        refine ⟨_, #[int 0, int 0, int 0, int 0, int 0], rfl, rfl, ?_⟩
        refine neq_ints (t := t_walk_Report) (k := .i64) (xs := [0, 0, 0, 0, 0]) (ys := [0, 0, 0, 0, 0]) (by kernel_rfl) (by kernel_rfl) (by kernel_rfl) (by kernel_rfl) (by kernel_rfl) (by kernel_rfl) ?_
        refine cd (fun h => absurd h (by decide)) fun _ => ?_
        rw [BiP_neq]
        exact last h9 (Ex.refl _ _)
    · refine fv f2 ((Sl.nil (α := UInt8) No h9).len ?_)
      rw [BiP_neq]
      refine cdp (fun h => absurd rfl h) fun _ => fv f1 ?_
      show BiP .neq (str []) (str []) _
      rw [BiP_sneq]
      refine cdp (fun h => absurd rfl h) fun _ => (Sl.nil (α := UInt8) No h9).len ?_
      rw [BiP_neq]
      refine cdp (fun h => absurd rfl h) fun _ => ?_
      rw [BiP_neq]
      refine cdp (fun h => absurd rfl h) fun _ => (LdA_b k9 rfl).2 ?_
      refine ⟨_, #[int 0, int 0, int 0, int 0, int 0], rfl, rfl, ?_⟩
      refine neq_ints (t := t_walk_Report) (k := .i64) (xs := [0, 0, 0, 0, 0]) (ys := [0, 0, 0, 0, 0]) (by kernel_rfl) (by kernel_rfl) (by kernel_rfl) (by kernel_rfl) (by kernel_rfl) (by kernel_rfl) ?_
      refine cd (fun h => absurd h (by decide)) fun _ => ?_
      rw [BiP_neq]
      exact last h9 (Ex.refl _ _)
  · unfold m_law27_KvNobody_j204
    refine c_law27_awake ((t.ext e03).ex e4 (by omega)) fun h5 e5 => r h5 ?_
    exact (e03.andThen e4 fun x hx he => by omega).trans e5
end
end Go.Sg
/- A store that nobody made does nothing and costs nothing: the law returns true at every op, and its argument reads as it did; under the row's condition on the package variable math/bits.deBruijn64tab, which the card ties to the program's text. -/
namespace Go.Proofs.YtoahnccffedojaaGreatDoor
open Go Vc Go.ChangeShapes Go.WideShapes Go.ChangeAt Go.RowKit Go.Sg

theorem own : ownKnob Tryz.prog.godebug = none := by kernel_rfl
theorem gTabNamed : Tryz.prog.globalNamed "math/bits.deBruijn64tab" = some gTab := by kernel_rfl
theorem gTabType : (Tryz.prog.globals[gTab]?).map (·.type) = some t_A64_uint8 := by kernel_rfl
theorem laid_tab {H : Type} : (Rows.laid_math_bits_deBruijn64tab : DataW H) = .agg (tzTab.map fun (v : Nat) => .lit (.int .u8 (v : Int))) := by rfl
theorem tz_of_laid {W : World} (h : laidMetH Tryz.prog Rows.kvNobodyRow.laid W) : Tz W.heap := by
  rw [MakeChecks.laidMetH_plain _ _ _ (by kernel_rfl)] at h
  obtain ⟨ps, ⟨g0, t0, cs0, f0, p0, q0, hg0, ht0, hv0, hd0, _, _⟩, _, _⟩ := h
  obtain rfl := Option.some.inj (gTabNamed.symm.trans hg0)
  obtain rfl := Option.some.inj (gTabType.symm.trans ht0)
  have hu : Tryz.prog.underlying t_A64_uint8 = some (.array 64 t_uint8) := by kernel_rfl
  have hu8 : Tryz.prog.underlying t_uint8 = some (.int .u8) := by kernel_rfl
  have c8 : Tryz.prog.cellsOf t_uint8 = 1 := by kernel_rfl
  obtain ⟨xs, m, rfl, hx, hlen, hn, hel⟩ := DataW.trod_array hu hd0
  simp only [Prod.mk.injEq] at hx
  have hx1 : (.agg (tzTab.map fun (v : Nat) => .lit (.int .u8 (v : Int))) : DataW Unit) = .agg (xs.map (·.1)) := laid_tab.symm.trans hx.1
  simp only [DataW.agg.injEq] at hx1
  have hat : ∀ (j v : Nat), tzTab[j]? = some v → hget W.heap gTab j = some (.int .u8 (v : Int)) := fun j v hj => by
    have hj64 : j < 64 := (List.getElem?_eq_some_iff.1 hj).1
    have h1 := hel j hj64
    rw [c8, Nat.mul_one] at h1
    have hxj : xs[j]? = some (xs[j]'(by omega)) := List.getElem?_eq_getElem (by omega)
    rw [hxj] at h1
    obtain ⟨n, hc, he, hw⟩ := DataW.trod_int hu8 h1
    have h2 : (xs.map (·.1))[j]? = some (.lit (.int .u8 (v : Int))) := by rw [← hx1, List.getElem?_map, hj]; rfl
    rw [List.getElem?_map, hxj, he] at h2
    simp only [Option.map_some, Option.some.injEq, DataW.lit.injEq, Lit.int.injEq, true_and] at h2
    subst h2
    have h3 : cs0[j]? = some (.int .u8 (v : Int)) := by
      have := congrArg List.head? hc
      rw [List.head?_take, if_neg (by decide), List.head?_drop] at this
      simpa using this
    have h4 := World.var?_cell hg0 hv0 j
    rw [h3] at h4
    rw [← Vc.cell_hget]; exact h4
  have hlt : gTab < W.heap.size := by
    have := hat 0 0 rfl
    unfold hget at this
    cases hq : W.heap[gTab]? with
    | none => rw [hq] at this; cases this
    | some o => exact (Array.getElem?_eq_some_iff.1 hq).1
  exact ⟨hlt, hat⟩
theorem keptBut_ext {W W' : World} {may : MemPlace → Prop} (hk : Kin W W') (hx : Ext W.heap W'.heap) : W.keptBut W' may :=
  ⟨hk.os, hk.output, fun i hi => by rw [hx.eq i hi id]; exact (World.keptBut_refl W may).2.2 i hi⟩
/-- A world that meets the condition: the settled one, the table laid. -/
noncomputable def laidWorld (os : Os) : World :=
  let w0 := World.holding Tryz.prog os ⟨#[], #[], []⟩
  { w0 with heap := w0.heap.modify gTab fun
      | .cells _ t frozen => .cells (tzTab.map fun (v : Nat) => Value.int .u8 (v : Int)).toArray t frozen
      | o => o }
theorem laidWorld_met (os : Os) (args : Array Value) : laidMetH Tryz.prog Rows.kvNobodyRow.laid ((laidWorld os).forCall (fun _ _ => 0) ⟨#[], args, []⟩).memory := by
  rw [MakeChecks.laidMetH_plain _ _ _ (by kernel_rfl)]
  exact laidMet_of_run' 8 (by kernel_rfl) (by kernel_rfl)

set_option maxRecDepth 100000 in
theorem lifted (os : Os) (started : os.Started) (H : Type) (enc : TypeId × Value → H) :
    ReturnsInHanded {} Tryz.checked os 3 .any (fun w args => (Rows.kvNobodySpec.pre enc Tryz.prog Tryz.f3 [] false w args ∧ laidMetH Tryz.prog Rows.kvNobodyRow.laid w) ∧ sizedMet enc Tryz.prog Tryz.f3 (OpenSpec.ofChange Rows.kvNobodySpec) false w args)
      (Rows.kvNobodySpec.post enc Tryz.prog Tryz.f3 false true false false) := by
  refine returnsInHanded_of_change_and (C := Tryz.checked) (X := fun w _ => laidMetH Tryz.prog Rows.kvNobodyRow.laid w) (fun _ _ _ hh h => h.of_heap hh) own started (by kernel_rfl) Tryz.func3
    (ChangeSpec.witness_at (enc := enc) (C := Tryz.checked) (os := os) (X := fun w _ => laidMetH Tryz.prog Rows.kvNobodyRow.laid w) false (laidWorld os) #[.agg #[.int .i64 0, .string ⟨#[]⟩, .string ⟨#[]⟩, .int .i64 0]] 8 rfl (by kernel_rfl) (by kernel_rfl) (by kernel_rfl) (by kernel_rfl) (by kernel_rfl) (laidWorld_met os _)) ?_
  intro W base args ds gs before hval0 hW _ _ hL _
  have hval : ∀ (j : Nat) t v, Tryz.f3.params[j]? = some t → args[j]? = some v → Value.okWide Tryz.prog W .any base t v := hval0
  have hW' := hW
  obtain ⟨p, q, hA0, hV, rfl, hfz, hnd⟩ := hW
  have hA : DataW.TrodAll enc Tryz.prog W 0 (fun _ => true) true Tryz.f3.params.toList args.toList ds p := hA0
  rw [Tryz.params3] at hA hval
  obtain ⟨v0, d0, rfl, rfl, h0⟩ := trodAll_one hA
  obtain ⟨rfl, rfl⟩ := trodVars_none hV
  obtain ⟨c0, c1, c2, c3, y0, y1, y2, y3, n, rfl, rfl, rfl, t0, t1, t2, t3⟩ := Joins.open_agg4 Tryz.underlying23 (by kernel_rfl) (by kernel_rfl) (hval 0 23 v0 rfl rfl) h0
  obtain ⟨kind, hc0, rfl, w0⟩ := DataW.trod_int (k := .i64) (by kernel_rfl) t0
  obtain ⟨key, hc1, rfl, w1⟩ := DataW.trod_string (by kernel_rfl) t1
  obtain ⟨val, hc2, rfl, w2⟩ := DataW.trod_string (by kernel_rfl) t2
  obtain ⟨m, hc3, rfl, w3⟩ := DataW.trod_int (k := .i64) (by kernel_rfl) t3
  obtain rfl := List.head_eq_of_cons_eq hc0
  obtain rfl := List.head_eq_of_cons_eq hc1
  obtain rfl := List.head_eq_of_cons_eq hc2
  obtain rfl := List.head_eq_of_cons_eq hc3
  have tz := tz_of_laid hL
  obtain ⟨⟨key⟩⟩ := key
  obtain ⟨⟨val⟩⟩ := val
  clear hA0 hval0
  have law := c_law27_KvNobody (K := fun v h => v = .bool true ∧ Ext W.heap h) (kind := kind) (n := m) (key := key) (val := val) tz (fun h' e => ⟨rfl, e⟩) W rfl
  refine Calls.mono law fun e W' he => ?_
  obtain ⟨v, rfl, hk, rfl, hx⟩ := he
  refine ⟨_, rfl, _, _, _, [], [], [], hW', ?_, ?_, ?_, ?_, fun h => by cases h⟩
  · exact trodAll_mk1 (shut_bool Tryz.underlying4 true)
  · exact trodAll_mk1 (Joins.shut_agg4 Tryz.underlying23 (by kernel_rfl) (by kernel_rfl) ⟨1, trod_int_mk 0 (by kernel_rfl) w0⟩ (Deep.shut_string_cell (by kernel_rfl) w1) (Deep.shut_string_cell (by kernel_rfl) w2) ⟨1, trod_int_mk 0 (by kernel_rfl) w3⟩)
  · rfl
  · exact keptBut_ext hk hx

theorem row_holds : Rows.KvNobodySaid :=
  OpenClaim.holds_of_wide 3 Tryz.f3 rfl rfl rfl rfl rfl rfl rfl ⟨rfl, rfl, rfl, rfl, rfl⟩ rfl rfl rfl rfl rfl (by kernel_rfl) Tryz.func3 (by kernel_rfl)
    (of_decide_eq_true (by kernel_rfl)) (by unfold Func.isWrapper; first | (rw [if_pos (by decide +kernel)]; kernel_rfl) | (rw [if_neg (by decide +kernel)]; exact ⟨rfl, rfl⟩))
    (fun os started H enc _ => lifted os started H enc)
theorem kvNobody_holds : Rows.KvNobodyCardSaid :=
  Claim7.holds_tied_plain_at .later [] [.data] true (true, "3008150afbe4bbec683a7e33df678f1771f7331c879afebf81c1ed4181111dbc") false
    row_holds (fun _ h => by cases h) (by kernel_rfl) (fun _ h => by cases h) kvNobody_row_tie rfl ⟨rfl, rfl⟩ (by kernel_rfl) rfl
    (fun f fn hf hfn => by
      obtain rfl : f = 3 := Option.some.inj ((show Tryz.prog.funcNamed "sluicegate/sluicegatelaw27.KvNobody" = some 3 by kernel_rfl).symm.trans hf) |>.symm
      obtain rfl : fn = Tryz.f3 := (Option.some.inj (Tryz.func3.symm.trans hfn)).symm
      exact ⟨by kernel_rfl, fun j t ht => by
        rw [Tryz.params3] at ht
        have h3 : t = 23 := by
          rcases j with _ | j
          · simpa using ht.symm
          · simp at ht
        subst h3
        exact (show Tryz.prog.wantsStandIn 23 = false by kernel_rfl)⟩)
    (by kernel_rfl)
#print axioms kvNobody_holds
end Go.Proofs.YtoahnccffedojaaGreatDoor
