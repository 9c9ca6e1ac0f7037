/-
  Part 6 of a proof: own texts, merged by program.
-/
import Derived.Test.YtoahnccffedojaaGreatDoorP04
import Derived.Test.YtoahnccffedojaaGreatDoorP05
set_option linter.unusedVariables false
set_option linter.unusedSimpArgs false
/-! Contracts of the library's functions on slices. -/
namespace Go.Sg
open Go Vc
theorem own_ext {h h' : Heap} (k : Ex (fun b => h.size ≤ b) h h') : Ext h h' := Ex.mono k fun x h1 h2 => by omega
section
variable {α : Type} [El α] {t e : TypeId} {by' : Nat} {U : Nat → Prop} {h : Heap} {K : Kt} {x : Value} {l m : List α}
theorem clone_gen {xo yo : Operand} {zs : Array Value} (T : SlT α t e by') (hb : by' ≤ 64) (s : Sl U h x l) (hl : l.length ≤ 2 ^ 40)
    (r : ∀ v' h', Ow h.size e h' v' l → Ext h h' → K v' h') :
    EqP .eql t xo yo x (.slice none 0 0) h fun x2 h1 => CdP x2 (K (.slice none 0 0) h1)
      (BsP (some (zs, El.z α, e)) 0 [] h1 fun x4 h3 => VH Pg (Builtin.append_ #[t, t] t #[x4, x]) h3 fun x6 h5 => K x6 h5) := by
  obtain ⟨a, cap, rfl, k1, k2, k3⟩ := s.out
  refine eq_slice_nil T.und ?_
  refine cd (fun ha => ?_) (fun ha => ?_)
  · have : l = [] := by
      apply List.eq_nil_of_length_eq_zero
      have := k2 (by simpa using ha); omega
    subst this
    exact r _ _ (Ow.nil _ _ _) (Ex.refl _ _)
  · refine bs (n0 := h.size) (e := e) (cs := #[]) (zs := zs) ([] : List α) rfl (Nat.le_refl _) rfl (by simp) (by simp [Instr.fill]) rfl fun v1 h1 o1 e1 => ?_
    refine app T o1 (s.ext e1) (by exact e1.le) (by simpa using hl) hb fun v2 h2 o2 e2 _ => ?_
    exact r _ _ (by simpa using o2) (e1.own e2 (Nat.le_refl _))
end

section
variable {U : Nat → Prop} {h : Heap} {K : Kt} {x : Value}
theorem c_Clone_byte {l : List UInt8} (s : Sl U h x l) (hl : l.length ≤ 2 ^ 40) (r : ∀ v' h', Ow h.size t_uint8 h' v' l → Ext h h' → K v' h') : Ca f_slices_Clone_byte #[x] h K :=
  m_slices_Clone_byte_ok (clone_gen T_byte (by decide) s hl r)
theorem c_Clone_Pair {l : List Pair} (s : Sl U h x l) (hl : l.length ≤ 2 ^ 40) (r : ∀ v' h', Ow h.size t_api_Pair h' v' l → Ext h h' → K v' h') : Ca f_slices_Clone_api_Pair #[x] h K :=
  m_slices_Clone_api_Pair_ok (clone_gen T_Pair (by decide) s hl r)
theorem c_Clone_Msg {l : List Msg} (s : Sl U h x l) (hl : l.length ≤ 2 ^ 40) (r : ∀ v' h', Ow h.size t_api_Msg h' v' l → Ext h h' → K v' h') : Ca f_slices_Clone_api_Msg #[x] h K :=
  m_slices_Clone_api_Msg_ok (clone_gen T_Msg (by decide) s hl r)
theorem c_Clone_str {l : List Str} (s : Sl U h x l) (hl : l.length ≤ 2 ^ 40) (r : ∀ v' h', Ow h.size t_string h' v' l → Ext h h' → K v' h') : Ca f_slices_Clone_string #[x] h K :=
  m_slices_Clone_string_ok (clone_gen T_str (by decide) s hl r)
theorem c_Clone_u32 {l : List U32} (s : Sl U h x l) (hl : l.length ≤ 2 ^ 40) (r : ∀ v' h', Ow h.size t_uint32 h' v' l → Ext h h' → K v' h') : Ca f_slices_Clone_uint32 #[x] h K :=
  m_slices_Clone_uint32_ok (clone_gen T_u32 (by decide) s hl r)
end
end Go.Sg
