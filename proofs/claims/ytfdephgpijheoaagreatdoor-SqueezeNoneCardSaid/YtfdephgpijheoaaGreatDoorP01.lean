/-
  Part 1 of a proof: own texts, merged by program.
-/
import Derived.WalkKit
import Derived.OrdersHeld
import Derived.Deep.MidRow
import Derived.KernelRfl
set_option linter.unusedVariables false
set_option linter.unusedSimpArgs false
namespace Go.Vc
abbrev Heap := Array Obj
abbrev Fr := Nat → Value
structure Kin (w w' : World) : Prop where
  os : w'.os = w.os
  tape : w'.tape = w.tape
  output : w'.output = w.output
theorem Kin.refl (w : World) : Kin w w := ⟨rfl, rfl, rfl⟩
theorem Kin.trans {a b c : World} (h : Kin a b) (k : Kin b c) : Kin a c := ⟨k.os.trans h.os, k.tape.trans h.tape, k.output.trans h.output⟩
def hget (h : Heap) (b o : Nat) : Option Value :=
  match h[b]? with
  | some (.cells c _ _) => c[o]?
  | _ => none
def hfz (h : Heap) (b o : Nat) : Bool :=
  match h[b]? with
  | some (.cells _ _ (lo, hi)) => lo ≤ o && o < hi
  | _ => false
def hset (h : Heap) (b o : Nat) (v : Value) : Heap :=
  h.modify b fun
    | .cells c elem frozen => .cells (c.setIfInBounds o v) elem frozen
    | x => x
def hsets (h : Heap) (b o : Nat) : List Value → Heap
  | [] => h
  | v :: vs => hsets (hset h b o v) b (o + 1) vs
theorem cell_hget (w : World) (b o : Nat) : w.cell? ⟨b, o, none⟩ = hget w.heap b o := by
  unfold World.cell? hget
  split <;> simp_all
theorem frozen_hfz (w : World) (b o : Nat) : w.frozen? ⟨b, o, none⟩ = hfz w.heap b o := by
  unfold World.frozen? hfz
  split <;> simp_all
theorem set_hset (w : World) (b o : Nat) (v : Value) : (w.setCell ⟨b, o, none⟩ v).heap = hset w.heap b o v := by
  unfold World.setCell hset
  congr 1
theorem sets_hsets (b : Nat) : ∀ (vs : List Value) (o : Nat) (w : World), (w.setCells b o vs).heap = hsets w.heap b o vs
  | [], _, _ => rfl
  | v :: vs, o, w => by rw [World.setCells, sets_hsets b vs (o + 1), set_hset]; rfl
theorem kin_set (w : World) (a : Addr) (v : Value) : Kin w (w.setCell a v) := ⟨rfl, rfl, rfl⟩
theorem kin_sets (b : Nat) : ∀ (vs : List Value) (o : Nat) (w : World), Kin w (w.setCells b o vs)
  | [], _, w => Kin.refl w
  | v :: vs, o, w => (kin_set w _ v).trans (kin_sets b vs (o + 1) _)
inductive Lay where
  | bad
  | one
  | agg (n : Nat)
def lay (P : Program) (t : TypeId) : Lay :=
  match P.underlying t, P.info? t with
  | some (.struct _), some i => .agg i.size
  | some (.array _ _), some i => .agg i.size
  | some _, some i => if i.size = 1 then .one else .bad
  | _, _ => .bad
def VH (P : Program) (m : Sem Value) (h : Heap) (K : Value → Heap → Prop) : Prop :=
  ∀ w : World, w.heap = h → ∃ v w', m.run P w = .ok v w' ∧ Kin w w' ∧ K v w'.heap
def UH (P : Program) (m : Sem Unit) (h : Heap) (K : Heap → Prop) : Prop :=
  ∀ w : World, w.heap = h → ∃ w', m.run P w = .ok () w' ∧ Kin w w' ∧ K w'.heap
def CH (P : Program) (f : FuncId) (args : Array Value) (h : Heap) (K : Value → Heap → Prop) : Prop :=
  ∀ w : World, w.heap = h → Calls P f args w fun e w' => ∃ v, e = .returned v ∧ Kin w w' ∧ K v w'.heap
def LdP (p : Value) (h : Heap) (K : Value → Prop) : Prop :=
  ∃ b o v, p = .pointer (some ⟨b, o, none⟩) ∧ hget h b o = some v ∧ K v
def LdA (n : Nat) (p : Value) (h : Heap) (K : Value → Prop) : Prop :=
  ∃ (b o : Nat) (vs : List Value), p = .pointer (some ⟨b, o, none⟩) ∧ vs.length = n ∧ (∀ j v, vs[j]? = some v → hget h b (o + j) = some v) ∧ K (.agg vs.toArray)
def LdT : Lay → Value → Heap → (Value → Prop) → Prop
  | .bad, _, _, _ => False
  | .one, p, h, K => LdP p h K
  | .agg n, p, h, K => LdA n p h K
def one' : Value → Bool
  | .agg _ | .tuple _ => false
  | _ => true
def StP (p v : Value) (h : Heap) (K : Heap → Prop) : Prop :=
  ∃ b o, p = .pointer (some ⟨b, o, none⟩) ∧ (hget h b o).isSome = true ∧ hfz h b o = false ∧ one' v = true ∧ K (hset h b o v)
def hthere (h : Heap) (b o n : Nat) : Prop := ∀ j, j < n → (hget h b (o + j)).isSome = true ∧ hfz h b (o + j) = false
def StA (n : Nat) (p v : Value) (h : Heap) (K : Heap → Prop) : Prop :=
  ∃ b o cs, p = .pointer (some ⟨b, o, none⟩) ∧ v = .agg cs ∧ cs.size = n ∧ cs.toList.all one' = true ∧ hthere h b o n ∧ K (hsets h b o cs.toList)
def StT : Lay → Value → Value → Heap → (Heap → Prop) → Prop
  | .bad, _, _, _, _ => False
  | .one, p, v, h, K => StP p v h K
  | .agg n, p, v, h, K => StA n p v h K
def fOff (P : Program) (s : TypeId) (f : Nat) : Option Nat :=
  match P.underlying s with
  | some (.struct fs) => match fs[f]? with
    | some fd => match P.info? fd.type with
      | some i => if i.size = 0 then none else some fd.offset
      | none => none
    | none => none
  | _ => none
def FaP : Option Nat → Value → (Value → Prop) → Prop
  | none, _, _ => False
  | some off, p, K => ∃ b o, p = .pointer (some ⟨b, o, none⟩) ∧ K (.pointer (some ⟨b, o + off, none⟩))
def eSize (P : Program) (t : TypeId) : Option Nat :=
  match P.underlying t with
  | some (.slice e) => (P.info? e).map (·.size)
  | _ => none
def aSize (P : Program) (t : TypeId) : Option (Nat × Nat) :=
  match P.underlying t with
  | some (.array n e) => if 1 < n then (P.info? e).map fun i => (n, i.size) else none
  | _ => none
def IxP (size : Nat) (x ix : Value) (K : Value → Prop) : Prop :=
  ∃ b o len cap k i, x = .slice (some ⟨b, o, none⟩) len cap ∧ ix = .int k i ∧ 0 ≤ i ∧ i < (len : Int) ∧ K (.pointer (some ⟨b, o + i.toNat * size, none⟩))
def IxA (n size : Nat) (x ix : Value) (K : Value → Prop) : Prop :=
  ∃ b o k i, x = .pointer (some ⟨b, o, none⟩) ∧ ix = .int k i ∧ 0 ≤ i ∧ i < (n : Int) ∧ K (.pointer (some ⟨b, o + i.toNat * size, none⟩))
def IxT : Option Nat → Option (Nat × Nat) → Value → Value → (Value → Prop) → Prop
  | some s, _, x, ix, K => IxP s x ix K
  | none, some (n, s), x, ix, K => IxA n s x ix K
  | none, none, _, _, _ => False
def nilOk : Value → Bool
  | .pointer none | .nilIface | .nilFunc | .func (.method _) _ _ => false
  | _ => true
def NilP (x : Value) (K : Value → Prop) : Prop := nilOk x = true ∧ K x
def PickP (c a b : Value) (K : Value → Prop) : Prop :=
  match c with
  | .bool true => K a
  | .bool false => K b
  | _ => False
def ExP (t : Value) (i : Nat) (K : Value → Prop) : Prop := ∃ vs v, t = .tuple vs ∧ vs[i]? = some v ∧ K v
def bytesLt : List UInt8 → List UInt8 → Bool := Op.bytesLess
def binVal (op : BinOp) (x y : Value) : Option Value :=
  match x, y with
  | .int k a, .int yk b =>
    match op with
    | .shl => if b < 0 then none else some (.int k (k.wrap (a * 2 ^ (min b.toNat k.bits))))
    | .shr => if b < 0 then none else some (.int k (a.fdiv (2 ^ (min b.toNat k.bits))))
    | _ => if k ≠ yk then none else match op with
      | .add => some (.int k (k.wrap (a + b)))
      | .sub => some (.int k (k.wrap (a - b)))
      | .mul => some (.int k (k.wrap (a * b)))
      | .quo => if b = 0 then none else some (.int k (k.wrap (a.tdiv b)))
      | .rem => if b = 0 then none else some (.int k (a.tmod b))
      | .and => some (.int k (k.wrap (BitVec.ofInt k.bits a &&& BitVec.ofInt k.bits b).toNat))
      | .or => some (.int k (k.wrap (BitVec.ofInt k.bits a ||| BitVec.ofInt k.bits b).toNat))
      | .xor => some (.int k (k.wrap (BitVec.ofInt k.bits a ^^^ BitVec.ofInt k.bits b).toNat))
      | .andNot => some (.int k (k.wrap (BitVec.ofInt k.bits a &&& ~~~BitVec.ofInt k.bits b).toNat))
      | .eql => some (.bool (a == b))
      | .neq => some (.bool (a != b))
      | .lss => some (.bool (a < b))
      | .leq => some (.bool (a ≤ b))
      | .gtr => some (.bool (a > b))
      | .geq => some (.bool (a ≥ b))
      | _ => none
  | .string a, .string b =>
    match op with
    | .add => if ((a.size + b.size : Nat) : Int) > IntKind.i64.max then none else some (.string (a ++ b))
    | .eql => some (.bool (a.toList == b.toList))
    | .neq => some (.bool !(a.toList == b.toList))
    | .lss => some (.bool (bytesLt a.toList b.toList))
    | .leq => some (.bool (bytesLt a.toList b.toList || a.toList == b.toList))
    | .gtr => some (.bool !(bytesLt a.toList b.toList || a.toList == b.toList))
    | .geq => some (.bool !(bytesLt a.toList b.toList))
    | _ => none
  | _, _ => none
def BiP (op : BinOp) (x y : Value) (K : Value → Prop) : Prop := ∃ v, binVal op x y = some v ∧ K v
def plainT (P : Program) (t : TypeId) : Bool :=
  match P.underlying t with
  | some (.int _) | some .string => true
  | _ => false
def unVal (op : UnOp) (x : Value) : Option Value :=
  match op, x with
  | .neg, .int k n => some (.int k (k.wrap (0 - n)))
  | .xor, .int k n => some (.int k (k.wrap (BitVec.ofInt k.bits (if k.signed then -1 else k.max) ^^^ BitVec.ofInt k.bits n).toNat))
  | .not, .bool b => some (.bool !b)
  | _, _ => none
def UnP (op : UnOp) (x : Value) (K : Value → Prop) : Prop := ∃ v, unVal op x = some v ∧ K v
def FdT : Option Nat → Lay → Value → (Value → Prop) → Prop
  | some off, .one, x, K => ∃ cs v, x = .agg cs ∧ cs[off]? = some v ∧ K v
  | some off, .agg n, x, K => ∃ cs, x = .agg cs ∧ K (.agg (cs.extract off (off + n)))
  | _, _, _, _ => False
def fType (P : Program) (s : TypeId) (f : Nat) : TypeId :=
  match P.underlying s with
  | some (.struct fs) => match fs[f]? with
    | some fd => fd.type
    | none => 0
  | _ => 0
def fOff0 (P : Program) (s : TypeId) (f : Nat) : Option Nat :=
  match P.underlying s with
  | some (.struct fs) => (fs[f]?).map (·.offset)
  | _ => none
structure BInfo where
  zero : Array Value
  places : List (Nat × Nat)
def bInfo (P : Program) (t : TypeId) : Option BInfo :=
  match P.info? t, P.underlying t with
  | some i, some (.struct fs) => match i.zero with
    | some z => (fs.toList.mapM fun f => (P.info? f.type).map fun j => (f.offset, j.size)).map fun l => ⟨z.cells, l⟩
    | none => none
  | some i, some (.array n e) => match i.zero, P.info? e with
    | some z, some j => some ⟨z.cells, (List.range n).map fun k => (k * j.size, j.size)⟩
    | _, _ => none
  | _, _ => none
def BlP (bi : Option BInfo) (parts : List (Nat × Value)) (K : Value → Prop) : Prop :=
  ∃ i cs, bi = some i ∧ Instr.fill (i.places[·]?) i.zero parts = some cs ∧ K (.agg cs)
def sInfo (P : Program) (t : TypeId) : Option (Array Value × Nat × TypeId) :=
  match P.underlying t with
  | some (.slice e) => match P.info? e with
    | some i => i.zero.map fun z => (z.cells, i.size, e)
    | none => none
  | _ => none
def BsP (si : Option (Array Value × Nat × TypeId)) (len : Nat) (parts : List (Nat × Value)) (h : Heap) (K : Value → Heap → Prop) : Prop :=
  ∃ z size e cs, si = some (z, size, e) ∧ len * size ≤ 2 ^ 24 ∧
    Instr.fill (fun i => some (i * size, size)) ((Array.range (len * size)).map ((if len * size = 0 then #[] else z)[· % (if len * size = 0 then #[] else z).size]!)) parts = some cs ∧
    K (.slice (some ⟨h.size, 0, none⟩) len len) (h.push (.cells cs e))
def BxP (e : TypeId) (v : Value) (h : Heap) (K : Value → Heap → Prop) : Prop := K (.pointer (some ⟨h.size, 0, none⟩)) (h.push (.cells v.cells e))
def zeroOf (P : Program) (t : TypeId) : Option Value := (P.info? t).bind (·.zero)
def AlP (e : TypeId) (z : Option Value) (h : Heap) (K : Value → Heap → Prop) : Prop := ∃ v, z = some v ∧ BxP e v h K
def cvT (P : Program) (src t : TypeId) : Option IntKind :=
  match P.underlying src, P.underlying t with
  | some _, some (.int k) => some k
  | _, _ => none
def CvP (k : IntKind) (x : Value) (K : Value → Prop) : Prop := ∃ k' n, x = .int k' n ∧ K (.int k (k.wrap n))
def LenP : Option Bool → Value → (Value → Prop) → Prop
  | some true, x, K => ∃ a n c, x = .slice a n c ∧ K (.int .i64 n)
  | some false, x, K => ∃ s, x = .string s ∧ K (.int .i64 s.size)
  | none, _, _ => False
def lenT (P : Program) (t : TypeId) : Option Bool :=
  match P.underlying t with
  | some (.slice _) => some true
  | some .string => some false
  | _ => none
def strT (P : Program) (t : TypeId) : Bool :=
  match P.underlying t with
  | some .string => true
  | _ => false
def IsP (x ix : Value) (K : Value → Prop) : Prop := ∃ s k i, x = .string s ∧ ix = .int k i ∧ 0 ≤ i ∧ ∃ b, s[i.toNat]? = some b ∧ K (.int .u8 b.toNat)
def bnd (x : Option Value) (d : Nat) : Option Nat :=
  match x with
  | none => some d
  | some (.int _ i) => if 0 ≤ i then some i.toNat else none
  | _ => none
def SlP (size : Nat) (x : Value) (lo hi : Option Value) (K : Value → Prop) : Prop :=
  ∃ a len cap l m, x = .slice a len cap ∧ bnd lo 0 = some l ∧ bnd hi len = some m ∧ l ≤ m ∧ m ≤ cap ∧
    (hi = none → len ≤ cap) ∧ (a = none ∨ ∃ b o, a = some ⟨b, o, none⟩) ∧
    K (.slice (if cap = l then a else a.map (·.add (l * size))) (m - l) (cap - l))
def SsP (x : Value) (lo hi : Option Value) (K : Value → Prop) : Prop :=
  ∃ s l m, x = .string s ∧ bnd lo 0 = some l ∧ bnd hi s.size = some m ∧ l ≤ m ∧ m ≤ s.size ∧ K (.string (s.extract l m))
def hasBody (P : Program) (f : FuncId) : Bool :=
  match P.funcs[f]? with
  | some fn => fn.body.isSome && fn.name != "runtime.NumGoroutine"
  | none => false
def XH (P : Program) (f : FuncId) (args : Array Value) (h : Heap) (K : Value → Heap → Prop) : Prop :=
  ∀ w : World, w.heap = h → ∃ v w', (callFunc f args).run P w = .ok (.value v) w' ∧ Kin w w' ∧ K v w'.heap
def CaP (P : Program) (ok : Bool) (f : FuncId) (args : Array Value) (h : Heap) (K : Value → Heap → Prop) : Prop :=
  match ok with
  | true => CH P f args h K
  | false => XH P f args h K
def Fl (k : Nat) (c : Value) (h : Heap) (K : Value → Prop) : Prop := NilP c fun p => FaP (some k) p fun q => LdP q h K
def Fv (k : Nat) (c : Value) (h : Heap) (K : Value → Prop) : Prop := FaP (some k) c fun q => LdP q h K
def Fla (k n : Nat) (c : Value) (h : Heap) (K : Value → Prop) : Prop := NilP c fun p => FaP (some k) p fun q => LdA n q h K
def Fva (k n : Nat) (c : Value) (h : Heap) (K : Value → Prop) : Prop := FaP (some k) c fun q => LdA n q h K
def Fs (k : Nat) (c v : Value) (h : Heap) (K : Heap → Prop) : Prop := NilP c fun p => FaP (some k) p fun q => StP q v h K
def Ei (s : Nat) (x i : Value) (h : Heap) (K : Value → Prop) : Prop := IxP s x i fun q => LdP q h K
def Ea (s : Nat) (x i : Value) (h : Heap) (K : Value → Prop) : Prop := IxP s x i fun q => LdA s q h K
def Ef (s k : Nat) (x i : Value) (h : Heap) (K : Value → Prop) : Prop := IxP s x i fun q => FaP (some k) q fun r => LdP r h K
def CvH (P : Program) (fv : Value) (args : Array Value) (h : Heap) (K : Value → Heap → Prop) : Prop :=
  ∃ f cap, fv = .func (.func f) #[] cap ∧ hasBody P f = true ∧ CH P f (args ++ cap) h K
def CiH (P : Program) (recv : Value) (name : String) (args : Array Value) (h : Heap) (K : Value → Heap → Prop) : Prop :=
  ∃ t v f r, recv = .iface t v ∧ (∀ w : World, (method (P.types.size + Made.depth) t v name).run P w = .ok (f, r) w) ∧ hasBody P f = true ∧ CH P f (#[r] ++ args) h K
def isPure (P : Program) : Op → Bool
  | .move _ | .assign _ | .pick .. | .fieldAddr .. | .indexAddr .. | .nilCheck _ | .extract .. | .unOp .. | .field .. | .build .. | .makeFunc .. => true
  | .binOp _ t _ _ _ => plainT P t
  | .convert src dst _ => (cvT P src dst).isSome
  | .index t _ _ => strT P t
  | .slice t _ _ _ none => (eSize P t).isSome || strT P t
  | .call { callee := .builtin .len, argTypes, .. } => match argTypes[0]? with | some t => (lenT P t).isSome | none => false
  | _ => false
def isLoad : Op → Bool
  | .load .. => true
  | _ => false
def vcPure (P : Program) (o : Op) (ev : Operand → Value) (K : Value → Prop) : Prop :=
  match o with
  | .move x | .assign x => K (ev x)
  | .pick c a b => PickP (ev c) (ev a) (ev b) K
  | .fieldAddr s x f => FaP (fOff P s f) (ev x) K
  | .indexAddr t x ix => IxT (eSize P t) (aSize P t) (ev x) (ev ix) K
  | .nilCheck x => NilP (ev x) K
  | .extract t i => ExP (ev t) i K
  | .unOp op _ x => UnP op (ev x) K
  | .field t x f => FdT (fOff0 P t f) (lay P (fType P t f)) (ev x) K
  | .build t parts => BlP (bInfo P t) (parts.toList.map fun (i, x) => (i, ev x)) K
  | .makeFunc fn first captured => K (.func fn (first.toList.map ev).toArray (captured.toList.map ev).toArray)
  | .binOp op t x y _ => if plainT P t then BiP op (ev x) (ev y) K else False
  | .convert src dst x => match cvT P src dst with
    | some k => CvP k (ev x) K
    | none => False
  | .index t x ix => if strT P t then IsP (ev x) (ev ix) K else False
  | .slice t x lo hi none => match eSize P t with
    | some s => SlP s (ev x) (lo.map ev) (hi.map ev) K
    | none => if strT P t then SsP (ev x) (lo.map ev) (hi.map ev) K else False
  | .call { callee := .builtin .len, args, argTypes } => match argTypes[0]?, args.toList with
    | some t, [x] => LenP (lenT P t) (ev x) K
    | _, _ => False
  | _ => False
def vcEff (P : Program) (o : Oper) (ev : Operand → Value) (h : Heap) (K : Value → Heap → Prop) : Prop :=
  match o.op with
  | .store t a x => StT (lay P t) (ev a) (ev x) h fun h' => K undef h'
  | .alloc e => AlP e (zeroOf P e) h K
  | .box e x => BxP e (ev x) h K
  | .buildSlice t len parts => BsP (sInfo P t) len (parts.toList.map fun (i, x) => (i, ev x)) h K
  | .binOp op t x y _ => VH P (do eqGuard op t x y (ev x) (ev y); binOp op t (ev x) (ev y)) h K
  | .convert src dst x => VH P (convert src dst (ev x)) h K
  | .makeInterface t x => VH P (Instr.makeInterface t (ev x)) h K
  | .makeMap t r => VH P (Instr.makeMap t (r.map ev)) h K
  | .makeSlice t l c => VH P (Instr.makeSlice t (ev l) (ev c)) h K
  | .slice t x lo hi mx => VH P (Instr.sliceAt t (ev x) (lo.map ev) (hi.map ev) (mx.map ev)) h K
  | .index t x ix => VH P (Instr.index t (ev x) (ev ix)) h K
  | .lookup t x ix ok => VH P (Instr.lookup t (ev x) (ev ix) ok) h K
  | .mapUpdate t m k x => UH P (Instr.mapUpdate t (ev m) (ev k) (ev x)) h fun h' => K undef h'
  | .range t x => VH P (Instr.range t (ev x)) h K
  | .next it s => VH P (Instr.next (ev it) s o.type) h K
  | .entry it => VH P (Instr.entry (ev it)) h K
  | .typeAssert x t t' ok => VH P (Instr.typeAssert (ev x) t t' ok) h K
  | .call c => match c.callee with
    | .value (.func f) => CaP P (hasBody P f) f (c.args.toList.map ev).toArray h K
    | .value f => CvH P (ev f) (c.args.toList.map ev).toArray h K
    | .invoke r name => CiH P (ev r) name (c.args.toList.map ev).toArray h K
    | .builtin .append => VH P (Builtin.append_ c.argTypes o.type (c.args.toList.map ev).toArray) h K
    | .builtin .cap => VH P (Builtin.cap_ c.argTypes o.type (c.args.toList.map ev).toArray) h K
    | .builtin .clear => VH P (Builtin.clear_ c.argTypes o.type (c.args.toList.map ev).toArray) h K
    | .builtin .copy => VH P (Builtin.copy_ c.argTypes o.type (c.args.toList.map ev).toArray) h K
    | .builtin .delete => VH P (Builtin.delete_ c.argTypes o.type (c.args.toList.map ev).toArray) h K
    | .builtin .len => VH P (Builtin.len_ c.argTypes o.type (c.args.toList.map ev).toArray) h K
    | .builtin .max => VH P (Builtin.max_ c.argTypes o.type (c.args.toList.map ev).toArray) h K
    | .builtin .min => VH P (Builtin.min_ c.argTypes o.type (c.args.toList.map ev).toArray) h K
    | _ => False
  | _ => False
def vcOp (P : Program) (o : Oper) (ev : Operand → Value) (h : Heap) (K : Value → Heap → Prop) : Prop :=
  match isPure P o.op with
  | true => vcPure P o.op ev fun v => K v h
  | false => match o.op with
    | .load t a => LdT (lay P t) (ev a) h fun v => K v h
    | _ => vcEff P o ev h K
end Go.Vc
namespace Go.Vc
variable {P : Program}
theorem Sem_bind_ok {α β : Type} {m : Sem α} {f : α → Sem β} {w w' : World} {a : α} (h : m.run P w = .ok a w') : (m >>= f).run P w = (f a).run P w' := by
  rw [Sem.run_bind, h]; rfl
theorem oneCell_of {v : Value} (h : one' v = true) : v.oneCell' = true := by cases v <;> simp_all [one', Value.oneCell']
theorem run_store_hset (w : World) (b o : Nat) (v : Value) (hc : (hget w.heap b o).isSome = true) (hf : hfz w.heap b o = false) (h1 : one' v = true) :
    (store ⟨b, o, none⟩ v).run P w = .ok () (w.setCell ⟨b, o, none⟩ v) := by
  obtain ⟨u, hu⟩ := Option.isSome_iff_exists.1 hc
  rw [← cell_hget] at hu
  rw [← frozen_hfz] at hf
  cases v <;> simp_all [store, Sem.run, one']
theorem underlying_run {t : TypeId} {d : TypeDesc} (h : P.underlying t = some d) (w : World) : (underlying t).run P w = .ok d w := by
  simp [underlying, h]
theorem sizeOf_run {t : TypeId} {i : TypeInfo} (h : P.info? t = some i) (w : World) : (sizeOf t).run P w = .ok i.size w := by
  simp [sizeOf, typeInfo, h]
theorem zeroValue_run {t : TypeId} {i : TypeInfo} {z : Value} (h : P.info? t = some i) (hz : i.zero = some z) (w : World) : (zeroValue t).run P w = .ok z w := by
  simp [zeroValue, typeInfo, h, hz]
theorem lay_one {t : TypeId} (h : lay P t = .one) : (∀ w, (isAgg t).run P w = .ok false w) ∧ ∃ i, P.info? t = some i ∧ i.size = 1 := by
  unfold lay at h
  split at h
  · cases h
  · cases h
  · rename_i d i hns hna hd hi
    split at h
    · rename_i hs
      refine ⟨fun w => ?_, i, hi, hs⟩
      unfold isAgg
      rw [Sem.run_bind, underlying_run hd]
      cases d <;> simp_all
    · cases h
  · cases h
theorem lay_agg {t : TypeId} {n : Nat} (h : lay P t = .agg n) : (∃ d, P.underlying t = some d ∧ d.isRow = true) ∧ (P.info? t).map (·.size) = some n := by
  unfold lay at h
  split at h
  · rename_i hu hi; cases h; exact ⟨⟨_, hu, rfl⟩, by simp [hi]⟩
  · rename_i hu hi; cases h; exact ⟨⟨_, hu, rfl⟩, by simp [hi]⟩
  · split at h <;> cases h
  · cases h
theorem ld_sound {t : TypeId} {p : Value} {h : Heap} {K : Value → Prop} (hh : LdT (lay P t) p h K) : ∃ v, (∀ w : World, w.heap = h → (Instr.loadAt t p).run P w = .ok v w) ∧ K v := by
  cases hl : lay P t with
  | bad => rw [hl] at hh; exact hh.elim
  | one =>
    rw [hl] at hh
    obtain ⟨b, o, v, rfl, hc, hk⟩ := hh
    refine ⟨v, fun w hw => ?_, hk⟩
    obtain ⟨ha, _⟩ := lay_one hl
    rw [← hw, ← cell_hget] at hc
    simp only [Instr.loadAt, Instr.sureAddr, loadVar, Sem.run_bind, Sem.run_pure, Result.andThen_ok, ha]
    simp [load, Sem.run, hc]
  | agg n =>
    rw [hl] at hh
    obtain ⟨b, o, vs, rfl, hn, hc, hk⟩ := hh
    refine ⟨_, fun w hw => ?_, hk⟩
    obtain ⟨⟨d, hu, hd⟩, hi⟩ := lay_agg hl
    exact run_loadAt_mid w b o t vs d (fun j v hv => by rw [cell_hget, hw]; exact hc j v hv) hu hd (by rw [hi, hn])
theorem st_sound {t : TypeId} {p x : Value} {h : Heap} {K : Heap → Prop} (hh : StT (lay P t) p x h K) : UH P (Instr.storeAt t p x) h K := by
  intro w hw
  cases hl : lay P t with
  | bad => rw [hl] at hh; exact hh.elim
  | one =>
    rw [hl] at hh
    obtain ⟨b, o, rfl, hc, hf, h1, hk⟩ := hh
    obtain ⟨_, i, hi, hs⟩ := lay_one hl
    refine ⟨w.setCell ⟨b, o, none⟩ x, ?_, kin_set _ _ _, by rw [set_hset, hw]; exact hk⟩
    rw [← hw] at hc hf
    have hcells : x.cells = #[x] := by cases x <;> simp_all [one', Value.cells]
    have hst := run_store_hset (P := P) w b o x hc hf h1
    simp only [Instr.storeAt, Instr.sureAddr, storeVar, Sem.run_bind, Sem.run_pure, Result.andThen_ok, sizeOf_run hi, hs, hcells]
    simp only [List.size_toArray, List.length_cons, List.length_nil, ne_eq, not_true_eq_false, if_false]
    simp [storeCells, hst, Addr.add, Sem.run_bind]
  | agg n =>
    rw [hl] at hh
    obtain ⟨b, o, cs, rfl, rfl, hn, h1, ht, hk⟩ := hh
    obtain ⟨_, hi⟩ := lay_agg hl
    refine ⟨w.setCells b o cs.toList, ?_, kin_sets b _ _ _, by rw [sets_hsets, hw]; exact hk⟩
    refine run_storeAt_mid w b o t cs (fun j hj => ?_) (by rw [hi, hn]) ?_
    · obtain ⟨h2, h3⟩ := ht j (by omega)
      rw [cell_hget, frozen_hfz, hw]; exact ⟨h2, h3⟩
    · rw [← Array.all_toList]
      rw [List.all_eq_true] at h1 ⊢
      exact fun v hv => oneCell_of (h1 v hv)
theorem add_at (b o n : Nat) : (⟨b, o, none⟩ : Addr).add n = ⟨b, o + n, none⟩ := by unfold Addr.add; split <;> simp_all
theorem fa_sound {s : TypeId} {f : Nat} {p : Value} {K : Value → Prop} (hh : FaP (fOff P s f) p K) : ∃ v, (∀ w, (Instr.fieldAt s p f).run P w = .ok v w) ∧ K v := by
  cases hl : fOff P s f with
  | none => rw [hl] at hh; exact hh.elim
  | some off =>
    rw [hl] at hh
    obtain ⟨b, o, rfl, hk⟩ := hh
    refine ⟨_, fun w => ?_, hk⟩
    unfold fOff at hl
    split at hl
    · rename_i fs hu
      split at hl
      · rename_i fd hfd
        split at hl
        · rename_i i hi
          split at hl
          · cases hl
          · rename_i hs
            cases hl
            simp only [Instr.fieldAt, Sem.run_bind, underlying_run hu, Result.andThen_ok, hfd, Instr.sureAddr, Sem.run_pure, fieldPlace, sizeOf_run hi, hs, if_false, add_at]
        · cases hl
      · cases hl
    · cases hl
theorem ix_sound {t : TypeId} {x ix : Value} {K : Value → Prop} (hh : IxT (eSize P t) (aSize P t) x ix K) : ∃ v, (∀ w, (Instr.indexAt t x ix).run P w = .ok v w) ∧ K v := by
  cases hl : eSize P t with
  | some s =>
    rw [hl] at hh
    obtain ⟨b, o, len, cap, k, i, rfl, rfl, h0, h1, hk⟩ := hh
    refine ⟨_, fun w => ?_, hk⟩
    unfold eSize at hl
    split at hl
    · rename_i e hu
      cases hi : P.info? e with
      | none => simp [hi] at hl
      | some j =>
        simp [hi] at hl
        simp [Instr.indexAt, Sem.run_bind, underlying_run hu, asIntOf, h0, h1, sizeOf_run hi, hl, add_at]
    · cases hl
  | none =>
    rw [hl] at hh
    cases ha : aSize P t with
    | none => rw [ha] at hh; exact hh.elim
    | some ns =>
      obtain ⟨n, s⟩ := ns
      rw [ha] at hh
      obtain ⟨b, o, k, i, rfl, rfl, h0, h1, hk⟩ := hh
      refine ⟨_, fun w => ?_, hk⟩
      unfold aSize at ha
      split at ha
      · rename_i m e hu
        split at ha
        · rename_i hm
          cases hi : P.info? e with
          | none => simp [hi] at ha
          | some j =>
            simp [hi] at ha
            obtain ⟨rfl, rfl⟩ := ha
            simp [Instr.indexAt, Sem.run_bind, underlying_run hu, asIntOf, Instr.sureAddr, h0, h1, sizeOf_run hi, add_at]
        · cases ha
      · cases ha
theorem eqGuard_int (op : BinOp) (t : TypeId) (x y : Operand) (k k' : IntKind) (n m : Int) (w : World) : (eqGuard op t x y (.int k n) (.int k' m)).run P w = .ok () w := by
  cases op <;> rfl
theorem eqGuard_string (op : BinOp) (t : TypeId) (x y : Operand) (a b : ByteArray) (w : World) : (eqGuard op t x y (.string a) (.string b)).run P w = .ok () w := by
  cases op <;> rfl
theorem bin_sound {op : BinOp} {t : TypeId} {x y : Operand} {a b v : Value} (h : binVal op a b = some v) (w : World) :
    ((do eqGuard op t x y a b; binOp op t a b) : Sem Value).run P w = .ok v w := by
  cases a <;> cases b <;> simp only [binVal] at h <;> try (cases h; done)
  case int.int k n k' m =>
    rw [Sem_bind_ok (eqGuard_int op t x y k k' n m w)]
    cases op <;> simp only [binOp, Op.shift, Op.intArith, Op.intDiv, Op.intBits, Op.intCmp] at h ⊢ <;>
      (repeat' split at h) <;> simp_all
    all_goals (intro hm; omega)
  case string.string s s' =>
    rw [Sem_bind_ok (eqGuard_string op t x y s s' w)]
    cases op <;> simp only [binOp, Op.stringOp, bytesLt] at h ⊢ <;> (repeat' split at h) <;> simp_all
theorem val_ok {m : Sem Value} {v : Value} {w w' : World} (h : m.run P w = .ok v w') : ((do pure (.value (← m))) : Sem Next).run P w = .ok (.value v) w' := by
  rw [Sem_bind_ok h]; rfl
theorem skip_ok {m : Sem Unit} {w w' : World} (h : m.run P w = .ok () w') : ((do m; pure .skip) : Sem Next).run P w = .ok .skip w' := by
  rw [Sem_bind_ok h]; rfl
theorem len_sound {t ty : TypeId} {x : Value} {K : Value → Prop} (hh : LenP (lenT P t) x K) :
    ∃ v, (∀ w, (Builtin.len_ #[t] ty #[x]).run P w = .ok v w) ∧ K v := by
  cases ht : lenT P t with
  | none => rw [ht] at hh; exact hh.elim
  | some b =>
    rw [ht] at hh
    unfold lenT at ht
    split at ht
    · rename_i e hu
      cases ht
      obtain ⟨a, n, c, rfl, hk⟩ := hh
      exact ⟨_, fun w => by simp [Builtin.len_, Sem.run_bind, underlying_run hu, goInt], hk⟩
    · rename_i hu
      cases ht
      obtain ⟨s, rfl, hk⟩ := hh
      exact ⟨_, fun w => by simp [Builtin.len_, Sem.run_bind, underlying_run hu, goInt], hk⟩
    · cases ht
theorem fill_mono {p q : Nat → Option (Nat × Nat)} (h : ∀ i x, p i = some x → q i = some x) : ∀ (l : List (Nat × Value)) (cs r : Array Value), Instr.fill p cs l = some r → Instr.fill q cs l = some r
  | [], cs, r, hf => hf
  | (i, v) :: l, cs, r, hf => by
    unfold Instr.fill at hf ⊢
    cases hp : p i with
    | none => simp [hp] at hf
    | some x =>
      rw [h i x hp]
      simp only [hp] at hf ⊢
      split at hf
      · cases hf
      · rename_i hc
        rw [if_neg hc]
        exact fill_mono h l _ r hf
theorem bl_built {t : TypeId} {parts : List (Nat × Value)} {i : BInfo} {cs : Array Value} (h : bInfo P t = some i) (hf : Instr.fill (i.places[·]?) i.zero parts = some cs) : P.built t parts = some cs := by
  unfold bInfo at h
  unfold Program.built
  split at h
  · rename_i it fs hi hu
    rw [hi, hu]
    split at h
    · rename_i z hz
      cases hm : (fs.toList.mapM fun f => (P.info? f.type).map fun j => (f.offset, j.size)) with
      | none => simp [hm] at h
      | some l =>
        simp [hm] at h
        subst h
        simp only [hz, hm]
        simpa using hf
    · cases h
  · rename_i it n e hi hu
    rw [hi, hu]
    split at h
    · rename_i z j hz hj
      cases h
      simp only [hz, hj]
      refine fill_mono (fun k x hx => ?_) _ _ _ hf
      simp only [List.getElem?_map] at hx
      cases hr : (List.range n)[k]? with
      | none => simp [hr] at hx
      | some m =>
        have : m = k := by
          rw [List.getElem?_range] at hr
          · simpa using hr.symm
          · have := (List.getElem?_eq_some_iff.1 hr).1; simpa using this
        subst this
        simp [hr] at hx
        rw [← hx]
    · cases h
  · cases h
theorem bnd_ok {v : Value} {y l : Nat} {code : BoundsCode} {d : Nat} (h : bnd (some v) d = some l) (hl : l ≤ y) (w : World) : (Instr.sliceBound v y code).run P w = .ok l w := by
  cases v <;> simp only [bnd] at h <;> try (cases h; done)
  rename_i k i
  split at h
  · rename_i h0
    cases h
    have : 0 ≤ i ∧ i ≤ (y : Int) := ⟨h0, by omega⟩
    simp [Instr.sliceBound, asIntOf, this]
  · cases h
theorem bounds_ok {isSlice : Bool} {len cap l m : Nat} {lo hi : Option Value} (h1 : bnd lo 0 = some l) (h2 : bnd hi len = some m) (hlm : l ≤ m) (hm : m ≤ cap) (w : World) :
    (Instr.sliceBounds isSlice len cap lo hi none).run P w = .ok (l, m, cap) w := by
  unfold Instr.sliceBounds
  cases lo with
  | none =>
    cases h1
    cases hi with
    | none => cases h2; simp
    | some v => simp [bnd_ok (P := P) h2 hm, Sem.run_bind]
  | some u =>
    cases hi with
    | none => cases h2; simp [bnd_ok (P := P) h1 hlm, Sem.run_bind]
    | some v => simp [bnd_ok (P := P) h2 hm, bnd_ok (P := P) h1 hlm, Sem.run_bind]
theorem pure_sound {o : Oper} {ev : Operand → Value} {K : Value → Prop} (hh : vcPure P o.op ev K) :
    ∃ v, (∀ w, (execOp ev o).run P w = .ok (.value v) w) ∧ K v := by
  obtain ⟨dst, op, ty, pos, after, guard⟩ := o
  dsimp only at hh
  unfold vcPure at hh
  split at hh
  · exact ⟨_, fun w => rfl, hh⟩
  · exact ⟨_, fun w => rfl, hh⟩
  · unfold PickP at hh
    split at hh
    · rename_i ht
      exact ⟨_, fun w => by simp [execOp, ht, asBool], hh⟩
    · rename_i ht
      exact ⟨_, fun w => by simp [execOp, ht, asBool], hh⟩
    · exact hh.elim
  · obtain ⟨v, h1, hk⟩ := fa_sound hh
    exact ⟨v, fun w => val_ok (h1 w), hk⟩
  · obtain ⟨v, h1, hk⟩ := ix_sound hh
    exact ⟨v, fun w => val_ok (h1 w), hk⟩
  · rename_i x
    obtain ⟨h1, hk⟩ := hh
    refine ⟨_, fun w => ?_, hk⟩
    simp only [execOp]
    generalize ev x = y at h1
    cases y <;> first
      | rfl
      | (cases h1; done)
      | skip
    · rename_i a; cases a <;> first | rfl | (cases h1; done)
    · rename_i fn f c; cases fn <;> first | rfl | (cases h1; done)
  · rename_i t i
    obtain ⟨vs, v, ht, hi, hk⟩ := hh
    refine ⟨v, fun w => val_ok ?_, hk⟩
    simp [Instr.extract, ht, hi]
  · rename_i op t x
    obtain ⟨v, hv, hk⟩ := hh
    refine ⟨v, fun w => val_ok ?_, hk⟩
    generalize ev x = y at hv
    cases op <;> cases y <;> simp only [unVal] at hv <;> first
      | (cases hv; done)
      | (cases hv; simp [Op.unary, Op.intArith, Op.intBits])
  · rename_i t x f
    have hu : ∃ fs fd, P.underlying t = some (.struct fs) ∧ fs[f]? = some fd := by
      unfold fOff0 at hh
      split at hh
      · rename_i fs hu
        cases hfd : fs[f]? with
        | none => simp [hfd, FdT] at hh
        | some fd => exact ⟨fs, fd, hu, hfd⟩
      · exact hh.elim
    obtain ⟨fs, fd, hu, hfd⟩ := hu
    have e1 : fOff0 P t f = some fd.offset := by simp [fOff0, hu, hfd]
    have e2 : fType P t f = fd.type := by simp [fType, hu, hfd]
    rw [e1, e2] at hh
    cases hl : lay P fd.type with
    | bad => rw [hl] at hh; exact hh.elim
    | one =>
      rw [hl] at hh
      obtain ⟨cs, v, hx, hv, hk⟩ := hh
      obtain ⟨ha, _⟩ := lay_one hl
      exact ⟨v, fun w => val_ok (by simp [Instr.field, Sem.run_bind, underlying_run hu, hfd, hx, asAgg, part, ha, hv]), hk⟩
    | agg n =>
      rw [hl] at hh
      obtain ⟨cs, hx, hk⟩ := hh
      obtain ⟨⟨d, hd, hr⟩, hi⟩ := lay_agg hl
      cases hq : P.info? fd.type with
      | none => simp [hq] at hi
      | some i =>
        have hs : i.size = n := by simpa [hq] using hi
        have ha : ∀ w, (isAgg fd.type).run P w = .ok true w := fun w => by
          unfold isAgg; rw [Sem.run_bind, underlying_run hd]; cases d <;> simp_all
        exact ⟨_, fun w => val_ok (by simp [Instr.field, Sem.run_bind, underlying_run hu, hfd, hx, asAgg, part, ha, sizeOf_run hq, hs]), hk⟩
  · rename_i t parts
    obtain ⟨i, cs, hi, hf, hk⟩ := hh
    refine ⟨_, fun w => val_ok (run_build w t _ cs ?_), hk⟩
    simpa using bl_built hi hf
  · rename_i fn first captured
    refine ⟨_, fun w => ?_, hh⟩
    have e : ∀ a : Array Operand, (a.toList.map ev).toArray = a.map ev := fun a => by rw [← Array.toList_map, Array.toArray_toList]
    rw [e, e]
    simp [execOp, Instr.makeFunc]
  · rename_i op t x y yt
    split at hh
    · obtain ⟨v, hv, hk⟩ := hh
      exact ⟨v, fun w => val_ok (bin_sound hv w), hk⟩
    · exact hh.elim
  · rename_i src dst x
    split at hh
    · rename_i k hk'
      obtain ⟨k', n, hx, hk⟩ := hh
      refine ⟨_, fun w => val_ok ?_, hk⟩
      unfold cvT at hk'
      split at hk'
      · rename_i d k2 hs hd
        cases hk'
        simp [convert, Sem.run_bind, underlying_run hs, underlying_run hd, hx, Conv.intToInt]
      · cases hk'
    · exact hh.elim
  · rename_i t x ix
    split at hh
    · rename_i ht
      obtain ⟨s, k, i, hx, hi, h0, b, hb, hk⟩ := hh
      have hu : P.underlying t = some .string := by
        unfold strT at ht; split at ht <;> simp_all
      exact ⟨_, fun w => val_ok (by simp [Instr.index, hi, asIntOf, Sem.run_bind, underlying_run hu, hx, h0, hb]), hk⟩
    · exact hh.elim
  · rename_i t x lo hi
    split at hh
    · rename_i s hs
      obtain ⟨a, len, cap, l, m, hx, h1, h2, hlm, hm, _, _, hk⟩ := hh
      refine ⟨_, fun w => val_ok ?_, hk⟩
      unfold eSize at hs
      split at hs
      · rename_i e hu
        cases hi : P.info? e with
        | none => simp [hi] at hs
        | some j =>
          simp [hi] at hs
          simp [Instr.sliceAt, Instr.slice, Sem.run_bind, underlying_run hu, hx, bounds_ok (P := P) (isSlice := true) h1 h2 hlm hm, sizeOf_run hi, hs]
      · cases hs
    · split at hh
      · rename_i ht
        obtain ⟨s, l, m, hx, h1, h2, hlm, hm, hk⟩ := hh
        have hu : P.underlying t = some .string := by
          unfold strT at ht; split at ht <;> simp_all
        refine ⟨_, fun w => val_ok ?_, hk⟩
        simp [Instr.sliceAt, Instr.slice, Sem.run_bind, underlying_run hu, hx, bounds_ok (P := P) (isSlice := false) h1 h2 hlm hm]
      · exact hh.elim
  · rename_i args ats
    split at hh
    · rename_i t x ht hx
      obtain ⟨v, hv, hk⟩ := len_sound (ty := ty) hh
      refine ⟨v, fun w => ?_, hk⟩
      have ha : args = #[x] := by simpa using congrArg List.toArray hx
      have hr := hv w
      have hat : ats[0]? = some t := ht
      subst ha
      have hlen : Builtin.len_ ats ty #[ev x] = Builtin.len_ #[t] ty #[ev x] := by unfold Builtin.len_; simp [hat]
      show Sem.run P ((do pure (.value (← Builtin.len_ ats ty (#[x].map ev)))) : Sem Next) w = _
      refine val_ok ?_
      simpa [hlen] using hr
    · exact hh.elim
  · exact hh.elim
end Go.Vc
namespace Go.Vc
variable {P : Program}
theorem map_arr {α β : Type} (f : α → β) (a : Array α) : (a.toList.map f).toArray = a.map f := by rw [← Array.toList_map, Array.toArray_toList]
theorem callFunc_run {f : FuncId} {args : Array Value} (h : hasBody P f = true) (w : World) : (callFunc f args).run P w = .ok (.enter f args) w := by
  unfold hasBody at h
  split at h
  · rename_i fn hf
    simp only [Bool.and_eq_true, bne_iff_ne, ne_eq] at h
    obtain ⟨hb, hn⟩ := h
    have hb' : fn.body.isNone = false := by cases hq : fn.body <;> simp_all
    have hn' : (fn.name == "runtime.NumGoroutine") = false := by simpa using hn
    have hb2 : fn.body ≠ none := by intro hq; simp [hq] at hb
    simp [callFunc, hf, hn, hb2]
  · cases h
def Then (o : Oper) (a : Act) (w : World) (K : Value → Heap → Prop) (a' : Act) (w' : World) : Prop :=
  ∃ v, a' = a.put o.dst v ∧ Kin w w' ∧ K v w'.heap
theorem wp_val {o : Oper} {a : Act} {w w' : World} {v : Value} {K : Value → Heap → Prop} {Q : Exit → Act → World → Prop}
    (h : (execOp a.eval o).run P w = .ok (.value v) w') (hk : Kin w w') (hK : K v w'.heap) : o.wp P a w (Then o a w K) Q := by
  unfold Oper.wp
  rw [h]
  exact ⟨v, rfl, hk, hK⟩
theorem wp_skip' {o : Oper} {a : Act} {w w' : World} {K : Value → Heap → Prop} {Q : Exit → Act → World → Prop}
    (h : (execOp a.eval o).run P w = .ok .skip w') (hk : Kin w w') (hK : K undef w'.heap) : o.wp P a w (Then o a w K) Q := by
  unfold Oper.wp
  rw [h]
  exact ⟨undef, rfl, hk, hK⟩
theorem wp_VH {o : Oper} {a : Act} {w : World} {h : Heap} {m : Sem Value} {K : Value → Heap → Prop} {Q : Exit → Act → World → Prop}
    (he : execOp a.eval o = (do pure (.value (← m)))) (hw : w.heap = h) (hh : VH P m h K) : o.wp P a w (Then o a w K) Q := by
  obtain ⟨v, w', hr, hk, hK⟩ := hh w hw
  exact wp_val (by rw [he]; exact val_ok hr) hk hK
theorem wp_UH {o : Oper} {a : Act} {w : World} {h : Heap} {m : Sem Unit} {K : Value → Heap → Prop} {Q : Exit → Act → World → Prop}
    (he : execOp a.eval o = (do m; pure .skip)) (hw : w.heap = h) (hh : UH P m h fun h' => K undef h') : o.wp P a w (Then o a w K) Q := by
  obtain ⟨w', hr, hk, hK⟩ := hh w hw
  exact wp_skip' (by rw [he]; exact skip_ok hr) hk hK
theorem wp_CH {o : Oper} {a : Act} {w : World} {h : Heap} {f : FuncId} {args : Array Value} {K : Value → Heap → Prop} {Q : Exit → Act → World → Prop}
    (he : (execOp a.eval o).run P w = .ok (.enter f args) w) (hw : w.heap = h) (hh : CH P f args h K) : o.wp P a w (Then o a w K) Q := by
  unfold Oper.wp
  rw [he]
  refine (hh w hw).mono fun e w' ⟨v, hv, hk, hK⟩ => ?_
  subst hv
  exact ⟨v, rfl, hk, hK⟩
theorem newRow_run (e : TypeId) (cs : Array Value) (w : World) : (newRow e cs).run P w = .ok ⟨w.heap.size, 0, none⟩ { w with heap := w.heap.push (.cells cs e) } := rfl
theorem newVar_run (e : TypeId) (v : Value) (w : World) : (newVar e v).run P w = .ok ⟨w.heap.size, 0, none⟩ { w with heap := w.heap.push (.cells v.cells e) } := rfl
theorem bs_sound {t : TypeId} {len : Nat} {parts : Array (Nat × Operand)} {ev : Operand → Value} {h : Heap} {K : Value → Heap → Prop}
    (hh : BsP (sInfo P t) len (parts.toList.map fun (i, x) => (i, ev x)) h K) : VH P (Instr.buildSlice t len (parts.map fun (i, x) => (i, ev x))) h K := by
  obtain ⟨z, size, e, cs, hsi, hlen, hf, hk⟩ := hh
  intro w hw
  subst hw
  refine ⟨.slice (some ⟨w.heap.size, 0, none⟩) len len, { w with heap := w.heap.push (.cells cs e) }, ?_, ⟨rfl, rfl, rfl⟩, hk⟩
  clear hk
  unfold sInfo at hsi
  split at hsi
  · rename_i e' hu
    split at hsi
    · rename_i i hi
      cases hz : i.zero with
      | none => simp [hz] at hsi
      | some zv =>
        simp [hz] at hsi
        obtain ⟨rfl, rfl, rfl⟩ := hsi
        have hnot : ¬ (len * i.size > 2 ^ 24) := by omega
        have hpl : (parts.map fun (i, x) => (i, ev x)).toList = parts.toList.map fun (i, x) => (i, ev x) := Array.toList_map
        simp only [Instr.buildSlice, Sem.run_bind, underlying_run hu, Result.andThen_ok, sizeOf_run hi, if_neg hnot, hpl]
        by_cases h0 : len * i.size = 0
        · rw [if_pos h0] at hf ⊢
          rw [Sem_bind_ok (a := #[]) (w' := w) rfl]
          have hf2 : Instr.fill (fun j => some (j * i.size, i.size)) ((Array.range (len * i.size)).map (#[][· % (#[] : Array Value).size]!)) (parts.toList.map fun x => (x.fst, ev x.snd)) = some cs := hf
          simp only [hf2]
          rw [Sem_bind_ok (newRow_run e' cs w)]
          rfl
        · rw [if_neg h0] at hf ⊢
          rw [Sem_bind_ok (zeroValue_run hi hz w), Sem_bind_ok (a := zv.cells) (w' := w) rfl]
          have hf2 : Instr.fill (fun j => some (j * i.size, i.size)) ((Array.range (len * i.size)).map (zv.cells[· % zv.cells.size]!)) (parts.toList.map fun x => (x.fst, ev x.snd)) = some cs := hf
          simp only [hf2]
          rw [Sem_bind_ok (newRow_run e' cs w)]
          rfl
    · cases hsi
  · cases hsi
theorem al_sound {e : TypeId} {h : Heap} {K : Value → Heap → Prop} (hh : AlP e (zeroOf P e) h K) : VH P (Instr.alloc e true (.tuple #[])) h K := by
  obtain ⟨z, hz, hk⟩ := hh
  intro w hw
  subst hw
  unfold zeroOf at hz
  cases hi : P.info? e with
  | none => simp [hi] at hz
  | some i =>
    have hz' : i.zero = some z := by simpa [hi] using hz
    refine ⟨_, { w with heap := w.heap.push (.cells z.cells e) }, ?_, ⟨rfl, rfl, rfl⟩, hk⟩
    simp only [Instr.alloc, Sem.run_bind, zeroValue_run hi hz', newVar_run, Result.andThen_ok, Sem.run_pure]
theorem bx_sound {e : TypeId} {x : Value} {h : Heap} {K : Value → Heap → Prop} (hh : BxP e x h K) : VH P (Instr.box e x) h K := by
  intro w hw
  subst hw
  exact ⟨_, { w with heap := w.heap.push (.cells x.cells e) }, by simp only [Instr.box, Sem.run_bind, newVar_run, Result.andThen_ok, Sem.run_pure], ⟨rfl, rfl, rfl⟩, hh⟩
set_option maxHeartbeats 1000000 in
theorem eff_sound {o : Oper} {a : Act} {ev : Operand → Value} {w : World} {h : Heap} {K : Value → Heap → Prop} {Q : Exit → Act → World → Prop}
    (he : execOp a.eval o = execOp ev o) (hev : ∀ f, ev (.func f) = .func (.func f) #[] #[]) (hw : w.heap = h) (hh : vcEff P o ev h K) : o.wp P a w (Then o a w K) Q := by
  obtain ⟨dst, op, ty, pos, after, guard⟩ := o
  unfold vcEff at hh
  dsimp only at hh
  split at hh
  · exact wp_UH (he.trans rfl) hw (st_sound hh)
  · exact wp_VH (he.trans rfl) hw (al_sound hh)
  · exact wp_VH (he.trans rfl) hw (bx_sound hh)
  · exact wp_VH (he.trans rfl) hw (bs_sound hh)
  · exact wp_VH (he.trans rfl) hw hh
  · exact wp_VH (he.trans rfl) hw hh
  · exact wp_VH (he.trans rfl) hw hh
  · exact wp_VH (he.trans rfl) hw hh
  · exact wp_VH (he.trans rfl) hw hh
  · exact wp_VH (he.trans rfl) hw hh
  · exact wp_VH (he.trans rfl) hw hh
  · exact wp_VH (he.trans rfl) hw hh
  · exact wp_UH (he.trans rfl) hw hh
  · exact wp_VH (he.trans rfl) hw hh
  · exact wp_VH (he.trans rfl) hw hh
  · exact wp_VH (he.trans rfl) hw hh
  · exact wp_VH (he.trans rfl) hw hh
  · rename_i c
    obtain ⟨callee, args, ats⟩ := c
    dsimp only at hh
    have e : ∀ x : Array Operand, (x.toList.map ev).toArray = x.map ev := map_arr _
    simp only [e] at hh
    split at hh
    · rename_i f
      have hevf : ev (.func f) = .func (.func f) #[] #[] := hev f
      have hx : (execOp ev { dst, op := .call { callee := .value (.func f), args, argTypes := ats }, type := ty, pos, after, guard }).run P w = (callFunc f (args.map ev)).run P w := by
        simp only [execOp, resolve, hevf, Deferred.ofValue, Sem.run_bind, Sem.run_pure, Result.andThen_ok, invoke]
        simp
      cases hb : hasBody P f with
      | true =>
        rw [hb] at hh
        exact wp_CH (by rw [he, hx]; exact callFunc_run hb w) hw hh
      | false =>
        rw [hb] at hh
        obtain ⟨v, w', hr, hk, hK⟩ := hh w hw
        exact wp_val (by rw [he, hx]; exact hr) hk hK
    · rename_i f _
      obtain ⟨g, cap, hf, hb, hc⟩ := hh
      refine wp_CH ?_ hw hc
      rw [he]
      simp only [execOp, resolve, hf, Deferred.ofValue, Sem.run_bind, Sem.run_pure, Result.andThen_ok, invoke]
      simpa using callFunc_run hb w
    · rename_i r name
      obtain ⟨t, v, f, rc, hr, hm, hb, hc⟩ := hh
      refine wp_CH ?_ hw hc
      rw [he]
      simp only [execOp, resolve, hr, Sem.run_bind, Sem.run_pure, Result.andThen_ok, invoke]
      have h0 : (#[Value.iface t v] ++ Array.map ev args)[0]? = some (Value.iface t v) := by rw [Array.getElem?_append_left (Nat.zero_lt_one)]; rfl
      have h1 : (#[Value.iface t v] ++ Array.map ev args).extract 1 (#[Value.iface t v] ++ Array.map ev args).size = Array.map ev args := by
        apply Array.ext'
        rw [Array.toList_extract, Array.toList_append]
        show List.take _ (List.drop 1 (Value.iface t v :: (Array.map ev args).toList)) = _
        rw [List.drop_one, List.tail_cons, List.take_of_length_le (by simp)]
      rw [h0]
      simp only [callMethod, Sem.run_bind, h1]
      show ((Sem.run P (method (P.types.size + Made.depth) t v name) w).andThen fun a_2 w' => Sem.run P (callFunc a_2.fst (#[a_2.snd] ++ Array.map ev args)) w') = _
      rw [hm]
      exact callFunc_run hb w
    all_goals first
      | exact wp_VH (he.trans rfl) hw hh
      | exact hh.elim
  · exact hh.elim
end Go.Vc
namespace Go.Vc
variable {P : Program}
def evf (φ : Fr) : Operand → Value
  | .tmp t => φ t
  | .const v => v
  | .global g => .pointer (some ⟨g, 0, none⟩)
  | .func f => .func (.func f) #[] #[]
def bitOf (d : Option Tmp) (V : Nat) : Nat :=
  match d with
  | some d => V ||| (1 <<< d)
  | none => V
def up (φ : Fr) (d : Option Tmp) (v : Value) : Fr :=
  match d with
  | some d => fun t => bif Nat.beq t d then v else φ t
  | none => φ
def okOp (n V : Nat) (o : Oper) : Bool :=
  (match o.dst with | some d => Nat.blt d n | none => true) &&
  o.op.operands.toList.all fun
    | .tmp t => V.testBit t
    | _ => true
def skipK (n V : Nat) (o : Oper) (K : Nat → Prop) : Prop :=
  match o.dst with
  | some d => if Nat.blt d n = true then K (V ||| (1 <<< d)) else False
  | none => K V
def CdP (v : Value) (A B : Prop) : Prop :=
  match v with
  | .bool true => A
  | .bool false => B
  | _ => False
def guardSlot (ops : Array Oper) (o : Oper) : Option (Option Nat × Bool) :=
  match o.guard with
  | none => none
  | some (j, want) => some ((ops[j]?).bind (·.dst), want)
def live (ops : Array Oper) (φ : Fr) : Nat → Nat → Prop → Prop → Prop
  | 0, _, yes, _ => yes
  | k + 1, j, yes, no => match (ops[j]?).bind (·.guard) with
    | none => yes
    | some (j2, w2) => match (ops[j2]?).bind (·.dst) with
      | none => yes
      | some g2 => live ops φ k j2 (match w2 with
        | true => CdP (φ g2) yes no
        | false => CdP (φ g2) no yes) no
theorem live_or {ops : Array Oper} {φ : Fr} : ∀ {k j : Nat} {yes no : Prop}, live ops φ k j yes no → yes ∨ no
  | 0, _, _, _, h => .inl h
  | k + 1, j, yes, no, h => by
    unfold live at h
    split at h
    · exact .inl h
    · split at h
      · exact .inl h
      · rcases live_or h with h | h
        · split at h <;> unfold CdP at h <;> split at h
          · exact .inl h
          · exact .inr h
          · exact h.elim
          · exact .inr h
          · exact .inl h
          · exact h.elim
        · exact .inr h
def GdP (ops : Array Oper) (o : Oper) (V : Nat) (φ : Fr) (run skip : Fr → Prop) : Prop :=
  match guardSlot ops o with
  | none => run φ
  | some (none, _) => False
  | some (some g, want) => if V.testBit g = true then
      live ops φ 12 (match o.guard with | some (j, _) => j | none => 0) (match want with
      | true => CdP (φ g) (run (up φ (some g) (.bool true))) (skip (up φ (some g) (.bool false)))
      | false => CdP (φ g) (skip (up φ (some g) (.bool true))) (run (up φ (some g) (.bool false)))) (φ g = undef ∧ skip φ)
    else False
def vcOps (P : Program) (n : Nat) (ops : Array Oper) : List Oper → Nat → Fr → Heap → (Nat → Fr → Heap → Prop) → Prop
  | [], V, φ, h, K => K V φ h
  | o :: os, V, φ, h, K => GdP ops o V φ
      (fun φ => if okOp n V o = true then vcOp P o (evf φ) h fun v h' => vcOps P n ops os (bitOf o.dst V) (up φ o.dst v) h' K else False)
      (fun φ => skipK n V o fun V' => vcOps P n ops os V' (up φ o.dst undef) h K)
structure FrOf (n V : Nat) (a : Act) (φ : Fr) : Prop where
  defers : a.defers = []
  size : a.tmps.size = n
  slot : ∀ t, V.testBit t = true → a.tmps.getD t undef = φ t
theorem getD_put (a : Act) (d t : Nat) (v : Value) : (a.put (some d) v).tmps.getD t undef = if t = d ∧ d < a.tmps.size then v else a.tmps.getD t undef := by
  simp only [Act.put, Array.getD_eq_getD_getElem?, Array.getElem?_setIfInBounds]
  by_cases h : d = t
  · subst h
    by_cases h2 : d < a.tmps.size
    · simp [h2]
    · simp [h2]
  · have : ¬ (t = d) := fun e => h e.symm
    simp [h, this]
theorem testBit_bitOf (V d t : Nat) : (V ||| (1 <<< d)).testBit t = (V.testBit t || decide (t = d)) := by
  rw [Nat.testBit_or, Nat.testBit_shiftLeft]
  by_cases h : t = d
  · subst h; simp
  · by_cases h2 : d ≤ t
    · have : t - d ≠ 0 := by omega
      have h3 : Nat.testBit 1 (t - d) = false := by
        obtain ⟨k, hk⟩ := Nat.exists_eq_succ_of_ne_zero this
        rw [hk, Nat.testBit_succ]; simp
      simp [h, h3]
    · simp [h, h2]
theorem FrOf.put {n V : Nat} {a : Act} {φ : Fr} (h : FrOf n V a φ) {d : Option Tmp} (hd : (match d with | some d => Nat.blt d n | none => true) = true) (v : Value) :
    FrOf n (bitOf d V) (a.put d v) (up φ d v) := by
  cases d with
  | none => exact h
  | some d =>
    have hd' : d < n := by simpa using hd
    refine ⟨h.defers, by simp [Act.put, h.size], fun t ht => ?_⟩
    rw [getD_put, h.size]
    simp only [bitOf] at ht
    rw [testBit_bitOf] at ht
    simp only [up]
    by_cases e : t = d
    · subst e; simp [hd', Nat.beq_refl]
    · have : Nat.beq t d = false := by
        cases hq : Nat.beq t d with
        | false => rfl
        | true => exact absurd (Nat.eq_of_beq_eq_true hq) e
      simp only [e, false_and, if_false, this, cond_false]
      exact h.slot t (by simpa [e] using ht)
theorem FrOf.eval {n V : Nat} {a : Act} {φ : Fr} (h : FrOf n V a φ) {o : Oper} (hok : okOp n V o = true) : ∀ x ∈ o.op.operands, a.eval x = evf φ x := by
  intro x hx
  simp only [okOp, Bool.and_eq_true, List.all_eq_true] at hok
  have := hok.2 x (by simpa using hx)
  cases x with
  | tmp t => exact h.slot t this
  | _ => rfl
theorem FrOf.exec {n V : Nat} {a : Act} {φ : Fr} (h : FrOf n V a φ) {o : Oper} (hok : okOp n V o = true) (hs : ∀ cs b, o.op ≠ .select cs b) : execOp a.eval o = execOp (evf φ) o :=
  execOp_congr o hs (h.eval hok)
theorem vcOp_split {o : Oper} {ev : Operand → Value} {h : Heap} {K : Value → Heap → Prop} (hh : vcOp P o ev h K) :
    (∃ v, (∀ w : World, w.heap = h → (execOp ev o).run P w = .ok (.value v) w) ∧ K v h) ∨ (isPure P o.op = false ∧ isLoad o.op = false ∧ vcEff P o ev h K) := by
  unfold vcOp at hh
  split at hh
  · obtain ⟨v, hv, hk⟩ := pure_sound hh
    exact .inl ⟨v, fun w _ => hv w, hk⟩
  · rename_i hp
    split at hh
    · rename_i t a ho
      obtain ⟨v, hv, hk⟩ := ld_sound hh
      obtain ⟨dst, op, ty, pos, after, guard⟩ := o
      dsimp only at ho
      subst ho
      exact .inl ⟨v, fun w hw => val_ok (hv w hw), hk⟩
    · rename_i ho
      refine .inr ⟨hp, ?_, hh⟩
      obtain ⟨dst, op, ty, pos, after, guard⟩ := o
      cases op <;> first | rfl | exact absurd rfl (ho _ _)
theorem noSel_eff {o : Oper} {ev : Operand → Value} {h : Heap} {K : Value → Heap → Prop} (hh : vcOp P o ev h K) : ∀ cs b, o.op ≠ .select cs b := by
  intro cs b e
  unfold vcOp at hh
  rw [e] at hh
  simp only [isPure, vcEff, e] at hh
theorem op_sound {n V : Nat} {a : Act} {φ : Fr} {o : Oper} {w : World} {h : Heap} {K : Value → Heap → Prop} {Q : Exit → Act → World → Prop}
    (hV : FrOf n V a φ) (hok : okOp n V o = true) (hw : w.heap = h) (hh : vcOp P o (evf φ) h K) : o.wp P a w (Then o a w K) Q := by
  have he := hV.exec hok (noSel_eff hh)
  rcases vcOp_split hh with ⟨v, hv, hk⟩ | ⟨_, _, he'⟩
  · exact wp_val (by rw [he]; exact hv w hw) (Kin.refl w) (by rw [hw]; exact hk)
  · exact eff_sound he (fun _ => rfl) hw he'
theorem okOp_dst {n V : Nat} {o : Oper} (h : okOp n V o = true) : (match o.dst with | some d => Nat.blt d n | none => true) = true := by
  simp only [okOp, Bool.and_eq_true] at h; exact h.1
theorem up_same {φ : Fr} {g : Nat} {v : Value} (hv : φ g = v) : up φ (some g) v = φ := by
  funext t
  simp only [up]
  cases hq : Nat.beq t g with
  | true => have := Nat.eq_of_beq_eq_true hq; subst this; exact hv.symm
  | false => rfl
theorem gd_sound {n V : Nat} {a : Act} {φ : Fr} {ops : Array Oper} {o : Oper} {run skip : Fr → Prop} (hV : FrOf n V a φ)
    (hh : GdP ops o V φ run skip) : (Region.wanted o (yielded ops a.tmps) = true ∧ run φ) ∨ (Region.wanted o (yielded ops a.tmps) = false ∧ skip φ) := by
  unfold GdP guardSlot at hh
  cases hg : o.guard with
  | none =>
    rw [hg] at hh
    exact .inl ⟨by simp [Region.wanted, hg], hh⟩
  | some jw =>
    obtain ⟨j, want⟩ := jw
    rw [hg] at hh
    dsimp only at hh
    cases hd : (ops[j]?).bind (·.dst) with
    | none => rw [hd] at hh; exact hh.elim
    | some g =>
      rw [hd] at hh
      dsimp only at hh
      have key : ∀ b, a.tmps[g]? = some (.bool b) → Region.wanted o (yielded ops a.tmps) = (b == want) := by
        intro b hb
        simp only [Region.wanted, hg, yielded, hd, Option.bind_some, hb]
        rfl
      split at hh
      · rename_i hbit
        have hs := hV.slot g hbit
        have hcell : ∀ b, φ g = .bool b → a.tmps[g]? = some (.bool b) := by
          intro b hb
          rw [hb, Array.getD_eq_getD_getElem?] at hs
          cases hx : a.tmps[g]? with
          | none => rw [hx] at hs; simp [undef] at hs
          | some u => rw [hx] at hs; simp at hs; rw [hs]
        rcases live_or hh with hh | ⟨hu, hh⟩
        rotate_left
        · refine .inr ⟨?_, hh⟩
          rw [hu, Array.getD_eq_getD_getElem?] at hs
          cases hx : a.tmps[g]? with
          | none => simp [Region.wanted, hg, yielded, hd, hx]
          | some u => rw [hx] at hs; simp at hs; subst hs; simp [Region.wanted, hg, yielded, hd, hx, undef]
        cases want with
        | true =>
          dsimp only at hh
          unfold CdP at hh
          split at hh
          · rename_i hv
            exact .inl ⟨by rw [key _ (hcell _ hv)]; rfl, by rw [up_same hv] at hh; exact hh⟩
          · rename_i hv
            exact .inr ⟨by rw [key _ (hcell _ hv)]; rfl, by rw [up_same hv] at hh; exact hh⟩
          · exact hh.elim
        | false =>
          dsimp only at hh
          unfold CdP at hh
          split at hh
          · rename_i hv
            exact .inr ⟨by rw [key _ (hcell _ hv)]; rfl, by rw [up_same hv] at hh; exact hh⟩
          · rename_i hv
            exact .inl ⟨by rw [key _ (hcell _ hv)]; rfl, by rw [up_same hv] at hh; exact hh⟩
          · exact hh.elim
      · exact hh.elim
theorem okOp_of_skip {n V : Nat} {o : Oper} {K : Nat → Prop} (h : skipK n V o K) : (match o.dst with | some d => Nat.blt d n | none => true) = true ∧ K (bitOf o.dst V) := by
  unfold skipK at h
  cases hd : o.dst with
  | none => rw [hd] at h; exact ⟨rfl, h⟩
  | some d =>
    rw [hd] at h
    dsimp only at h
    split at h
    · rename_i hb; exact ⟨hb, h⟩
    · exact h.elim
def Unch (W : Nat) (φ φ' : Fr) : Prop := ∀ t, W.testBit t = false → φ' t = φ t
theorem Unch.refl (W : Nat) (φ : Fr) : Unch W φ φ := fun _ _ => rfl
theorem Unch.up {W : Nat} {φ0 φ : Fr} (h : Unch W φ0 φ) {d : Option Tmp} (hd : ∀ k, d = some k → W.testBit k = true) (v : Value) : Unch W φ0 (up φ d v) := by
  cases d with
  | none => exact h
  | some d =>
    intro t ht
    simp only [Vc.up]
    have : Nat.beq t d = false := by
      cases hq : Nat.beq t d with
      | false => rfl
      | true => rw [Nat.eq_of_beq_eq_true hq, hd d rfl] at ht; cases ht
    rw [this]
    exact h t ht
theorem ops_sound {n W : Nat} {φ0 : Fr} {ops : Array Oper} {K : Nat → Fr → Heap → Prop} {Q : Exit → Act → World → Prop} {w0 : World}
    (hQ : ∀ V a φ w, FrOf n V a φ → Unch W φ0 φ → Kin w0 w → K V φ w.heap → Q .normal a w) : ∀ (os : List Oper) (V : Nat) (a : Act) (φ : Fr) (w : World),
      (∀ o, o ∈ os → ∀ d, o.dst = some d → W.testBit d = true) →
      FrOf n V a φ → Unch W φ0 φ → Kin w0 w → vcOps P n ops os V φ w.heap K → wpList P ops Q os a w
  | [], V, a, φ, w, hW, hV, hu, hw, hh => hQ V a φ w hV hu hw hh
  | o :: os, V, a, φ, w, hW, hV, hu, hw, hh => by
    have hW' : ∀ o, o ∈ os → ∀ d, o.dst = some d → W.testBit d = true := fun o ho => hW o (List.mem_cons_of_mem _ ho)
    have hWo := hW o (List.mem_cons_self ..)
    unfold vcOps at hh
    unfold wpList
    rcases gd_sound hV hh with ⟨hwt, hr⟩ | ⟨hwt, hr⟩
    · rw [if_pos hwt]
      refine .inl ?_
      split at hr
      · rename_i hok
        refine Oper.wp_mono (fun a' w' ⟨v, ha, hkin, hn⟩ => ?_) (op_sound hV hok rfl hr)
        subst ha
        exact ops_sound hQ os _ _ _ w' hW' (hV.put (okOp_dst hok) v) (hu.up hWo v) (hw.trans hkin) hn
      · exact hr.elim
    · rw [if_neg (by rw [hwt]; decide)]
      obtain ⟨hd, hn⟩ := okOp_of_skip hr
      exact ops_sound hQ os _ _ _ w hW' (hV.put hd undef) (hu.up hWo undef) hw hn
end Go.Vc
