/- Part W1 of a claim: a machine over the model on plain data, what it makes of the program, plain laws. -/
import Derived.WalkKit
import Derived.Orders
import Derived.Laws.AppendOwn
import Derived.Laws.MakeOwn
import Derived.Laws.OwnMore
/-
A machine over the model's Code, on plain data by value: types, values, what memory holds.
-/
set_option linter.unusedVariables false
set_option linter.unusedSimpArgs false
namespace Go.VM
open Go.RowKit

/-- Types of plain data: whole numbers, bools, structs (cell by cell), slices. -/
inductive Ty where
  | int (k : IntKind)
  | bool
  | prod (a b : Ty)
  | slice (a : Ty)
  deriving DecidableEq, Inhabited

def Ty.den : Ty → Type
  | .int _ => Int
  | .bool => Bool
  | .prod a b => a.den × b.den
  | .slice a => List a.den

def Ty.size : Ty → Nat
  | .prod a b => a.size + b.size
  | _ => 1

/-- A symbolic value: a concrete one, or one that names a key of the own memory. -/
inductive SV where
  | v (x : Value)
  | ptr (j off : Nat)
  | xptr (j off : Nat) (i : Int) (k o : Nat)
  | sl (j off len cap : Nat)
  | own (j : Nat)
  | eptr (j : Nat) (i : Int) (k o : Nat)
  | fn (f : Fn) (first caps : List SV)
  | agg (cs : List SV)
  | tup (cs : List SV)
  | yf (j : Nat)
  deriving Inhabited

/-- What a key of the own memory stands for: a block, a slice value; which blocks are never written again; the blocks of whoever ranges over this function, the number of rounds done. -/
structure Env where
  blk : Nat → Nat
  slv : Nat → Option Addr × Nat × Nat
  fz : Nat → Prop
  rb : List Nat
  ri : Nat
  pb : List Nat
  deriving Inhabited

mutual
def den (E : Env) : SV → Value
  | .v x => x
  | .ptr j off => .pointer (some ⟨E.blk j, off, none⟩)
  | .xptr j off i k o => .pointer (some ⟨E.blk j, off + i.toNat * k + o, none⟩)
  | .sl j off len cap => .slice (some ⟨E.blk j, off, none⟩) len cap
  | .own j => .slice (E.slv j).1 (E.slv j).2.1 (E.slv j).2.2
  | .eptr j i k o => .pointer (some (((E.slv j).1.getD ⟨0, 0, none⟩).add (i.toNat * k + o)))
  | .fn f x y => .func f (denL E x).toArray (denL E y).toArray
  | .agg cs => .agg (denL E cs).toArray
  | .tup cs => .tuple (denL E cs).toArray
  | .yf j => .func (.yield (E.blk j)) #[] #[]
def denL (E : Env) : List SV → List Value
  | [] => []
  | x :: r => den E x :: denL E r
end

mutual
/-- All keys that a symbolic value names are among p. -/
def SV.ok (p : Nat → Prop) : SV → Prop
  | .v _ => True
  | .ptr j _ => p j
  | .xptr j _ _ _ _ => p j
  | .sl j _ _ _ => p j
  | .own j => p j
  | .eptr j _ _ _ => p j
  | .fn _ x y => okL p x ∧ okL p y
  | .agg cs => okL p cs
  | .tup cs => okL p cs
  | .yf j => p j
def okL (p : Nat → Prop) : List SV → Prop
  | [] => True
  | x :: r => x.ok p ∧ okL p r
end

/-- What lies at a key: a box (rw: it may be written), a slice that is read only, what a pointer that is read only points to, a row of one's own, the mark of a range over a function, an object that stays. -/
inductive Atom where
  | box (cs : List SV) (t : Nat) (rw : Bool)
  | ro (t : Ty) (l : List t.den)
  | rop (cs : List SV)
  | own (ty : Nat) (t : Ty) (l : List t.den)
  | mark
  | pin
  | rnd (t : Ty) (l : List t.den)

structure TI where
  size : Nat
  bytes : Nat
  agg : Bool
  zero : List Value
  fields : List (Nat × Nat)
  elem : Nat
  esize : Nat
  len : Nat
  kind : Nat
  eq : Bool
  cts : List (Option Ty)
  ty : Option Ty

def findTI (t : Nat) : List (Nat × TI) → Option TI
  | [] => none
  | (k, i) :: r => match Nat.beq k t with
    | true => some i
    | false => findTI t r

/-- What an operation did: its value, the keys that it set or struck, how many new keys are in use, the keys that it read, whether it looked at all of the memory. -/
structure Res where
  sv : SV
  upd : List (Nat × Option Atom)
  nk : Nat
  rd : List Nat
  full : Bool

def Res.val (s : SV) : Res := ⟨s, [], 0, [], false⟩

/-- A call: the world as it began, the foreign blocks that may change, those that another one may change later, the slots, the round that it stands in, a size that the heap has at least, blocks that stay, what lies there; who ranges over this function, what it yields, its number; what is frozen already; slots that stay. -/
structure Ctx where
  w0 : World
  S : List Nat
  U : Nat → Prop
  nt : Nat
  rd : Option Nat
  sz : Nat
  pv : List Nat := []
  pobj : Nat → Option Obj := fun _ => none
  J : Nat → List Nat → World → Prop := fun _ _ _ => True
  xs : List (List Value) := []
  yl : Nat := 0
  pf : Nat → Option Obj := fun _ => none
  tm : Nat → Option Value := fun _ => none
  mkb : Nat → Option Nat := fun _ => none

def look (t : Nat) : List (Nat × SV) → Option SV
  | [] => none
  | (k, s) :: r => match Nat.beq k t with
    | true => some s
    | false => look t r

def ev (fr : List (Nat × SV)) : Operand → Option SV
  | .tmp t => look t fr
  | .const x => some (.v x)
  | .global g => some (.v (.pointer (some ⟨g, 0, none⟩)))
  | .func f => some (.v (.func (.func f) #[] #[]))

def evL (fr : List (Nat × SV)) : List Operand → Option (List SV)
  | [] => some []
  | x :: r => match ev fr x with
    | none => none
    | some s => match evL fr r with
      | none => none
      | some l => some (s :: l)

def getM (k : Nat) : List (Nat × Atom) → Option Atom
  | [] => none
  | (j, A) :: r => match Nat.beq j k with
    | true => some A
    | false => getM k r

def erM (k : Nat) : List (Nat × Atom) → List (Nat × Atom)
  | [] => []
  | (j, A) :: r => match Nat.beq j k with
    | true => erM k r
    | false => (j, A) :: erM k r

def updM (M : List (Nat × Atom)) : List (Nat × Option Atom) → List (Nat × Atom)
  | [] => M
  | (k, none) :: r => erM k (updM M r)
  | (k, some A) :: r => (k, A) :: erM k (updM M r)

def keysM : List (Nat × Atom) → List Nat
  | [] => []
  | (j, _) :: r => j :: keysM r

def dropN : Nat → List SV → List SV
  | 0, l => l
  | n + 1, l => match l with
    | [] => []
    | _ :: r => dropN n r

def takeN : Nat → List SV → Option (List SV)
  | 0, _ => some []
  | n + 1, l => match l with
    | [] => none
    | x :: r => match takeN n r with
      | none => none
      | some q => some (x :: q)

def nthN : Nat → List SV → Option SV
  | 0, l => match l with
    | [] => none
    | x :: _ => some x
  | n + 1, l => match l with
    | [] => none
    | _ :: r => nthN n r

def nth2 : Nat → List (Nat × Nat) → Option (Nat × Nat)
  | 0, l => match l with
    | [] => none
    | x :: _ => some x
  | n + 1, l => match l with
    | [] => none
    | _ :: r => nth2 n r

/-- The list with some elements from a place on replaced. -/
def setAt : Nat → List SV → List SV → Option (List SV)
  | _, [], l => some l
  | 0, x :: xs, l => match l with
    | [] => none
    | _ :: r => match setAt 0 xs r with
      | none => none
      | some q => some (x :: q)
  | n + 1, x :: xs, l => match l with
    | [] => none
    | y :: r => match setAt n (x :: xs) r with
      | none => none
      | some q => some (y :: q)

def vals : List Value → List SV
  | [] => []
  | x :: r => .v x :: vals r

def SV.cells : SV → List SV
  | .agg cs => cs
  | .v (.agg xs) => vals xs.toList
  | s => [s]

def SV.one : SV → Bool
  | .agg _ | .tup _ => false
  | .v (.agg _) | .v (.tuple _) => false
  | _ => true

def allOne : List SV → Bool
  | [] => true
  | x :: r => match x.one with
    | true => allOne r
    | false => false

def unV : List SV → Option (List Value)
  | [] => some []
  | .v x :: r => match unV r with
    | none => none
    | some q => some (x :: q)
  | _ :: _ => none

def lenL : List SV → Nat
  | [] => 0
  | _ :: r => Nat.succ (lenL r)

/-! ### What memory holds -/
/-- From w to w' no block of w has turned but those of S. -/
structure Fr (S : List Nat) (w w' : World) : Prop where
  os : w'.os = w.os
  tape : w'.tape = w.tape
  output : w'.output = w.output
  size : w.heap.size ≤ w'.heap.size
  block : ∀ k, k < w.heap.size → k ∉ S → w'.heap[k]? = w.heap[k]?

/-- A slice whose elements are told by a list. -/
structure SlT {α : Type} (B : Nat → Prop) (W : World) (R : α → List Value → Prop) (k : Nat) (A : Option Addr) (n q : Nat) (l : List α) : Prop where
  len : l.length = n
  cap : n ≤ q
  nil : A = none → n = 0 ∧ q = 0
  at_ : ∀ i x, l[i]? = some x → ∃ a vs, A = some a ∧ B a.block ∧ R x vs ∧ ∀ j u, vs[j]? = some u → W.cell? (a.add (i * k + j)) = some u

/-- The cells of plain data; B: blocks that stay as they are. -/
def Reps (B : Nat → Prop) (W : World) : (t : Ty) → t.den → List Value → Prop
  | .int k, z, vs => vs = [.int k z]
  | .bool, b, vs => vs = [.bool b]
  | .prod a b, x, vs => ∃ v1 v2, vs = v1 ++ v2 ∧ Reps B W a x.1 v1 ∧ Reps B W b x.2 v2
  | .slice a, l, vs => ∃ A n q, vs = [.slice A n q] ∧ SlT B W (Reps B W a) a.size A n q l

def RepsL (B : Nat → Prop) (W : World) (t : Ty) : List t.den → List Value → Prop
  | [], vs => vs = []
  | x :: r, vs => ∃ v1 v2, vs = v1 ++ v2 ∧ Reps B W t x v1 ∧ RepsL B W t r v2

/-- The values that are yielded. -/
def itemV : (t : Ty) → t.den → List Value
  | .int k, z => [.int k z]
  | .bool, b => [.bool b]
  | .prod a b, x => itemV a x.1 ++ itemV b x.2
  | .slice _, _ => []

def Atom.isRnd : Atom → Prop
  | .rnd _ _ => True
  | _ => False

/-- A block that stays as it is. -/
def still (c : Ctx) (E : Env) (b : Nat) : Prop := (b < c.w0.heap.size ∧ b ∉ c.S ∧ ¬ c.U b) ∨ E.fz b

def footOf (E : Env) (k : Nat) : Atom → List Nat
  | .box _ _ _ => [E.blk k]
  | .own _ _ _ => match (E.slv k).1 with
    | some a => [a.block]
    | none => []
  | .mark => [E.blk k]
  | .pin => E.pb
  | .ro _ _ => []
  | .rop _ => []
  | .rnd _ _ => E.rb

def Atom.ok (p : Nat → Prop) : Atom → Prop
  | .box cs _ _ => okL p cs
  | .rop cs => okL p cs
  | _ => True

def AtomAt (c : Ctx) (E : Env) (k : Nat) (W : World) : Atom → Prop
  | .box cs t _ => W.heap[E.blk k]? = some (.cells (denL E cs).toArray t (0, 0))
  | .ro t l => SlT (still c E) W (Reps (still c E) W t) t.size (E.slv k).1 (E.slv k).2.1 (E.slv k).2.2 l
  | .rop cs => ∃ a, (E.slv k).1 = some a ∧ still c E a.block ∧ ∀ i s, cs[i]? = some s → W.cell? (a.add i) = some (den E s)
  | .own ty t l => ∃ vs, W.ownsRow c.w0.heap.size ty t.size (den E (.own k)) l.length vs ∧ RepsL (still c E) W t l vs
  | .mark => (∀ b, c.mkb k = some b → E.blk k = b) ∧ W.heap[E.blk k]? = some (.deferred (some []))
  | .pin => E.pb = c.pv ∧ ∀ b, b ∈ c.pv → W.heap[b]? = c.pobj b
  | .rnd t l => (k = 0 ∧ E.blk k = c.yl ∧ ∀ b, b ∈ E.rb → b ∈ c.S ∨ c.w0.heap.size ≤ b) ∧ (E.ri ≤ c.xs.length ∧ c.xs.drop E.ri = l.map (itemV t)) ∧ (∀ b, b ∈ c.S → b ∈ E.rb) ∧ c.J E.ri E.rb W ∧ ∀ W', W'.os = W.os → W'.tape = W.tape → W'.output = W.output → W.heap.size ≤ W'.heap.size → (∀ b, b < c.w0.heap.size ∨ b ∈ E.rb → W'.heap[b]? = W.heap[b]?) → c.J E.ri E.rb W'

/-- A box that is frozen lies in a block that stays. -/
def Atom.fzn (E : Env) (k : Nat) : Atom → Prop
  | .box _ _ b => E.fz (E.blk k) ↔ b = false
  | .own _ _ _ => ∀ a, (E.slv k).1 = some a → ¬ E.fz a.block
  | .mark => ¬ E.fz (E.blk k)
  | .pin => ∀ b, b ∈ E.pb → ¬ E.fz b
  | .rnd _ _ => ∀ b, b ∈ E.rb → ¬ E.fz b
  | _ => True

/-- The memory: what lies at the keys, apart from each other; all else that was there when the call began is as it was. -/
structure SatM (c : Ctx) (E : Env) (p : Nat → Prop) (g : Nat → Option Atom) (W : World) : Prop where
  fr : Fr c.S c.w0 W
  size : c.sz ≤ W.heap.size
  pf : ∀ b o, c.pf b = some o → E.fz b ∧ W.heap[b]? = some o
  fz : ∀ b, E.fz b → c.w0.heap.size ≤ b ∧ b < W.heap.size
  at_ : ∀ k A, g k = some A → p k ∧ A.ok p ∧ AtomAt c E k W A ∧ A.fzn E k ∧ ∀ b, b ∈ footOf E k A → b < W.heap.size ∧ (A.isRnd ∨ c.w0.heap.size ≤ b)
  dj : ∀ k k' A A', g k = some A → g k' = some A' → k ≠ k' → ∀ b, b ∈ footOf E k A → b ∉ footOf E k' A'

def Agree (p : Nat → Prop) (E E' : Env) : Prop := ∀ k, p k → E'.blk k = E.blk k ∧ E'.slv k = E.slv k

def keysU : List (Nat × Option Atom) → List Nat
  | [] => []
  | (k, _) :: r => k :: keysU r

/-- The function has a body: a call of it enters it. -/
def Enters (P : Program) (f : Nat) : Prop := ∀ (args : Array Value) (w : World), (callFunc f args).run P w = .ok (.enter f args) w

/-- The fence of a walk: none, but for the round that it stands in. -/
def Ctx.F (c : Ctx) : Fence := { Fence.wide with round := c.rd }

def kindsOK : List Value → List Value → Bool
  | [], [] => true
  | .int k _ :: r, .int k' _ :: r' => match decide (k = k') with
    | true => kindsOK r r'
    | false => false
  | .bool _ :: r, .bool _ :: r' => kindsOK r r'
  | _, _ => false

structure St where
  fr : List (Nat × SV)
  M : List (Nat × Atom)
  next : Nat
  mks : List Nat

/-- What an operation of a region touched: keys that it read, keys that it set, whether it looked at all of the memory. -/
structure Fp where
  rd : List Nat
  wr : List Nat
  full : Bool

def putF (d : Option Nat) (s : SV) (fr : List (Nat × SV)) : List (Nat × SV) :=
  match d with
  | some t => (t, s) :: fr
  | none => fr
end Go.VM

/-
What memory holds: how it lasts.
-/
set_option linter.unusedVariables false
set_option linter.unusedSimpArgs false
namespace Go.VM
open Go.RowKit

theorem denL_eq (E : Env) : ∀ l : List SV, denL E l = l.map (den E)
  | [] => rfl
  | x :: r => by simp [denL, denL_eq E r]
theorem okL_iff (p : Nat → Prop) : ∀ l : List SV, okL p l ↔ ∀ s, s ∈ l → s.ok p
  | [] => by simp [okL]
  | x :: r => by simp [okL, okL_iff p r]

mutual
theorem den_agree {p : Nat → Prop} {E E' : Env} (h : Agree p E E') : ∀ s : SV, s.ok p → den E' s = den E s
  | .v _, _ => rfl
  | .ptr j _, hk => by simp only [den, (h j hk).1]
  | .xptr j _ _ _ _, hk => by simp only [den, (h j hk).1]
  | .sl j _ _ _, hk => by simp only [den, (h j hk).1]
  | .own j, hk => by simp only [den, (h j hk).2]
  | .eptr j _ _ _, hk => by simp only [den, (h j hk).2]
  | .fn _ x y, hk => by simp only [den, denL_agree h x hk.1, denL_agree h y hk.2]
  | .agg cs, hk => by simp only [den, denL_agree h cs hk]
  | .tup cs, hk => by simp only [den, denL_agree h cs hk]
  | .yf j, hk => by simp only [den, (h j hk).1]
theorem denL_agree {p : Nat → Prop} {E E' : Env} (h : Agree p E E') : ∀ l : List SV, okL p l → denL E' l = denL E l
  | [], _ => rfl
  | x :: r, hk => by simp only [denL, den_agree h x hk.1, denL_agree h r hk.2]
end
mutual
theorem ok_mono {p p' : Nat → Prop} (h : ∀ k, p k → p' k) : ∀ s : SV, s.ok p → s.ok p'
  | .v _, _ => trivial
  | .ptr j _, hk => h j hk
  | .xptr j _ _ _ _, hk => h j hk
  | .sl j _ _ _, hk => h j hk
  | .own j, hk => h j hk
  | .eptr j _ _ _, hk => h j hk
  | .fn _ x y, hk => ⟨okL_mono h x hk.1, okL_mono h y hk.2⟩
  | .agg cs, hk => okL_mono h cs hk
  | .tup cs, hk => okL_mono h cs hk
  | .yf j, hk => h j hk
theorem okL_mono {p p' : Nat → Prop} (h : ∀ k, p k → p' k) : ∀ l : List SV, okL p l → okL p' l
  | [], _ => trivial
  | x :: r, hk => ⟨ok_mono h x hk.1, okL_mono h r hk.2⟩
end
theorem Atom.ok_mono {p p' : Nat → Prop} (h : ∀ k, p k → p' k) : ∀ A : Atom, A.ok p → A.ok p'
  | .box cs _ _, hk => okL_mono h cs hk
  | .rop cs, hk => okL_mono h cs hk
  | .ro _ _, _ => trivial
  | .own _ _ _, _ => trivial
  | .mark, _ => trivial
  | .pin, _ => trivial
  | .rnd _ _, _ => trivial

theorem denL_vals (E : Env) : ∀ xs : List Value, denL E (vals xs) = xs
  | [] => rfl
  | x :: r => by simp [vals, denL, den, denL_vals E r]
theorem okL_vals (p : Nat → Prop) : ∀ xs : List Value, okL p (vals xs)
  | [] => trivial
  | x :: r => ⟨trivial, okL_vals p r⟩

theorem Agree.refl (p : Nat → Prop) (E : Env) : Agree p E E := fun _ _ => ⟨rfl, rfl⟩
theorem Agree.trans {p p' : Nat → Prop} {E E' E'' : Env} (h : Agree p E E') (h' : Agree p' E' E'') (hp : ∀ k, p k → p' k) : Agree p E E'' := fun k hk =>
  ⟨(h' k (hp k hk)).1.trans (h k hk).1, (h' k (hp k hk)).2.trans (h k hk).2⟩

def Ext (p p' : Nat → Prop) (E E' : Env) : Prop := (∀ k, p k → p' k) ∧ Agree p E E'
theorem Ext.refl (p : Nat → Prop) (E : Env) : Ext p p E E := ⟨fun _ h => h, Agree.refl p E⟩
theorem Ext.trans {p p' p'' : Nat → Prop} {E E' E'' : Env} (h : Ext p p' E E') (h' : Ext p' p'' E' E'') : Ext p p'' E E'' := ⟨fun k hk => h'.1 k (h.1 k hk), h.2.trans h'.2 h.1⟩

theorem Fr.refl (S : List Nat) (w : World) : Fr S w w := ⟨rfl, rfl, rfl, Nat.le_refl _, fun _ _ _ => rfl⟩
theorem Fr.step {S : List Nat} {w W W' : World} {T : List Nat} (h : Fr S w W) (h' : Fr T W W') (hT : ∀ b, b ∈ T → w.heap.size ≤ b ∨ b ∈ S) : Fr S w W' :=
  ⟨h'.os.trans h.os, h'.tape.trans h.tape, h'.output.trans h.output, Nat.le_trans h.size h'.size, fun k hk hS => (h'.block k (Nat.lt_of_lt_of_le hk h.size) fun hm => by
    rcases hT k hm with h1 | h1
    · omega
    · exact hS h1).trans (h.block k hk hS)⟩
theorem Fr.of_below {w W : World} (h : Below w.heap.size w W) : Fr [] w W := ⟨h.os, h.tape, h.output, h.size, fun k hk _ => h.block k hk⟩
theorem Fr.below {w W : World} (h : Fr [] w W) : Below w.heap.size w W := ⟨h.os, h.tape, h.output, h.size, fun k hk => h.block k hk (by simp)⟩
theorem Fr.drew {S : List Nat} {w W : World} (h : Fr S w W) : Fr S w { W with drawn := W.drawn + 1 } := ⟨h.os, h.tape, h.output, h.size, h.block⟩
theorem Fr.alloc (w : World) (o : Obj) : Fr [] w (w.alloc o) := ⟨rfl, rfl, rfl, by simp, fun k hk _ => Below.heap_alloc w o k hk⟩
theorem Fr.of_grownBy {w w' : World} {row : Option Nat} (h : w.grownBy w' row) : Fr row.toList w w' :=
  ⟨h.os, h.tape, h.output, h.size, fun k hk hS => h.block k hk fun e => hS (by simp [e])⟩
theorem heap_alloc_new (w : World) (o : Obj) : (w.alloc o).heap[w.heap.size]? = some o := by
  show (w.heap.push o)[w.heap.size]? = _
  simp
theorem cell_block {w w' : World} {a : Addr} (h : w'.heap[a.block]? = w.heap[a.block]?) : w'.cell? a = w.cell? a := World.cell?_of_block h
theorem Addr.add_block (a : Addr) (m : Nat) : (a.add m).block = a.block := by unfold Addr.add; split <;> rfl
theorem Addr.add_add (a : Addr) (m n : Nat) : (a.add m).add n = a.add (m + n) := by
  unfold Addr.add
  (repeat' split) <;> simp_all [Nat.add_assoc] <;> omega
theorem Addr.add_lit (b o m : Nat) : (⟨b, o, none⟩ : Addr).add m = ⟨b, o + m, none⟩ := by simp [Addr.add]

theorem ownsRow_of_block {w W : World} {b : Nat} {e : TypeId} {z n : Nat} {A : Option Addr} {l q : Nat} {xs : List Value} (h : w.ownsRow b e z (.slice A l q) n xs)
    (hb : ∀ a, A = some a → W.heap[a.block]? = w.heap[a.block]?) : W.ownsRow b e z (.slice A l q) n xs := by
  obtain ⟨h1, h2⟩ := h
  refine ⟨h1, ?_⟩
  rcases h2 with h2 | ⟨g, cap, cur, hv, hg, hh, r⟩
  · exact .inl h2
  · refine .inr ⟨g, cap, cur, hv, hg, ?_, r⟩
    injection hv with hA _ _
    rw [hb _ hA]
    exact hh

/-! ### Plain data lasts as long as its blocks -/
theorem SlT.mono {α : Type} {B B' : Nat → Prop} {W W' : World} {R R' : α → List Value → Prop} {k : Nat} {A : Option Addr} {n q : Nat} {l : List α} (h : SlT B W R k A n q l)
    (hB : ∀ b, B b → B' b) (hW : ∀ b, B b → W'.heap[b]? = W.heap[b]?) (hR : ∀ x vs, R x vs → R' x vs) : SlT B' W' R' k A n q l where
  len := h.len
  cap := h.cap
  nil := h.nil
  at_ := fun i x hx => by
    obtain ⟨a, vs, h1, h2, h3, h4⟩ := h.at_ i x hx
    exact ⟨a, vs, h1, hB _ h2, hR _ _ h3, fun j u hu => (cell_block (by rw [Addr.add_block]; exact hW _ h2)).trans (h4 j u hu)⟩

theorem Reps.mono {B B' : Nat → Prop} {W W' : World} (hB : ∀ b, B b → B' b) (hW : ∀ b, B b → W'.heap[b]? = W.heap[b]?) : ∀ (t : Ty) (x : t.den) (vs : List Value), Reps B W t x vs → Reps B' W' t x vs
  | .int _, _, _, h => h
  | .bool, _, _, h => h
  | .prod a b, x, vs, h => by
    obtain ⟨v1, v2, h1, h2, h3⟩ := h
    exact ⟨v1, v2, h1, Reps.mono hB hW a _ _ h2, Reps.mono hB hW b _ _ h3⟩
  | .slice a, l, vs, h => by
    obtain ⟨A, n, q, h1, h2⟩ := h
    exact ⟨A, n, q, h1, h2.mono hB hW fun x vs h => Reps.mono hB hW a x vs h⟩
theorem RepsL.mono {B B' : Nat → Prop} {W W' : World} (hB : ∀ b, B b → B' b) (hW : ∀ b, B b → W'.heap[b]? = W.heap[b]?) {t : Ty} : ∀ (l : List t.den) (vs : List Value), RepsL B W t l vs → RepsL B' W' t l vs
  | [], _, h => h
  | x :: r, vs, h => by
    obtain ⟨v1, v2, h1, h2, h3⟩ := h
    exact ⟨v1, v2, h1, h2.mono hB hW, RepsL.mono hB hW r _ h3⟩

theorem Reps.length {B : Nat → Prop} {W : World} : ∀ (t : Ty) (x : t.den) (vs : List Value), Reps B W t x vs → vs.length = t.size
  | .int _, _, _, h => by cases h; rfl
  | .bool, _, _, h => by cases h; rfl
  | .prod a b, x, vs, h => by
    obtain ⟨v1, v2, h1, h2, h3⟩ := h
    rw [h1, List.length_append, Reps.length a _ _ h2, Reps.length b _ _ h3]
    rfl
  | .slice a, l, vs, h => by
    obtain ⟨A, n, q, h1, h2⟩ := h
    rw [h1]
    rfl
theorem RepsL.length {B : Nat → Prop} {W : World} {t : Ty} : ∀ (l : List t.den) (vs : List Value), RepsL B W t l vs → vs.length = l.length * t.size
  | [], vs, h => by cases h; simp
  | x :: r, vs, h => by
    obtain ⟨v1, v2, h1, h2, h3⟩ := h
    rw [h1, List.length_append, h2.length, RepsL.length r _ h3, List.length_cons, Nat.succ_mul, Nat.add_comm]
theorem Ty.size_pos : ∀ t : Ty, 0 < t.size
  | .int _ => Nat.one_pos
  | .bool => Nat.one_pos
  | .slice _ => Nat.one_pos
  | .prod a b => Nat.lt_of_lt_of_le (Ty.size_pos a) (Nat.le_add_right _ _)
theorem Reps.one {B : Nat → Prop} {W : World} : ∀ (t : Ty) (x : t.den) (vs : List Value), Reps B W t x vs → ∀ u, u ∈ vs → u.oneCell' = true
  | .int _, _, _, h => by cases h; simp [Value.oneCell']
  | .bool, _, _, h => by cases h; simp [Value.oneCell']
  | .prod a b, x, vs, h => by
    obtain ⟨v1, v2, h1, h2, h3⟩ := h
    intro u hu
    rw [h1, List.mem_append] at hu
    rcases hu with hu | hu
    · exact Reps.one a _ _ h2 u hu
    · exact Reps.one b _ _ h3 u hu
  | .slice a, l, vs, h => by
    obtain ⟨A, n, q, h1, h2⟩ := h
    rw [h1]
    simp [Value.oneCell']
theorem RepsL.one {B : Nat → Prop} {W : World} {t : Ty} : ∀ (l : List t.den) (vs : List Value), RepsL B W t l vs → ∀ u, u ∈ vs → u.oneCell' = true
  | [], vs, h => by cases h; simp
  | x :: r, vs, h => by
    obtain ⟨v1, v2, h1, h2, h3⟩ := h
    intro u hu
    rw [h1, List.mem_append] at hu
    rcases hu with hu | hu
    · exact Reps.one t x v1 h2 u hu
    · exact RepsL.one r _ h3 u hu
theorem RepsL.append {B : Nat → Prop} {W : World} {t : Ty} : ∀ {l l' : List t.den} {vs vs' : List Value}, RepsL B W t l vs → RepsL B W t l' vs' → RepsL B W t (l ++ l') (vs ++ vs')
  | [], l', vs, vs', h, h' => by cases h; exact h'
  | x :: r, l', vs, vs', h, h' => by
    obtain ⟨v1, v2, h1, h2, h3⟩ := h
    exact ⟨v1, v2 ++ vs', by rw [h1, List.append_assoc], h2, RepsL.append h3 h'⟩
/-- An element's cells in a row. -/
theorem RepsL.get {B : Nat → Prop} {W : World} {t : Ty} : ∀ {l : List t.den} {vs : List Value}, RepsL B W t l vs → ∀ (i : Nat) (x : t.den), l[i]? = some x → ∃ ws, Reps B W t x ws ∧ ∀ j u, ws[j]? = some u → vs[i * t.size + j]? = some u
  | [], vs, h, i, x, hx => by simp at hx
  | y :: r, vs, h, i, x, hx => by
    obtain ⟨v1, v2, h1, h2, h3⟩ := h
    have hl := h2.length
    cases i with
    | zero =>
      simp only [List.getElem?_cons_zero, Option.some.injEq] at hx
      subst hx
      refine ⟨v1, h2, fun j u hu => ?_⟩
      have := (List.getElem?_eq_some_iff.1 hu).1
      rw [h1, Nat.zero_mul, Nat.zero_add, List.getElem?_append_left this]
      exact hu
    | succ i =>
      obtain ⟨ws, q1, q2⟩ := RepsL.get h3 i x (by simpa using hx)
      refine ⟨ws, q1, fun j u hu => ?_⟩
      rw [h1, List.getElem?_append_right (by rw [hl, Nat.succ_mul]; omega), hl, show (i + 1) * t.size + j - t.size = i * t.size + j from by rw [Nat.succ_mul]; omega]
      exact q2 j u hu
/-- A row of cells, as a slice that is read only. -/
theorem SlT.of_cells {B : Nat → Prop} {W : World} {t : Ty} {l : List t.den} {vs : List Value} (h : RepsL B W t l vs) {A : Option Addr} {n q : Nat} (hl : l.length = n) (hq : n ≤ q) (hA : A = none → n = 0 ∧ q = 0)
    (hB : ∀ a, A = some a → l ≠ [] → B a.block) (hc : ∀ a, A = some a → ∀ j u, vs[j]? = some u → W.cell? (a.add j) = some u) : SlT B W (Reps B W t) t.size A n q l where
  len := hl
  cap := hq
  nil := hA
  at_ := fun i x hx => by
    have hlt := (List.getElem?_eq_some_iff.1 hx).1
    cases A with
    | none => have := (hA rfl).1; omega
    | some a =>
      obtain ⟨ws, q1, q2⟩ := h.get i x hx
      exact ⟨a, ws, rfl, hB a rfl (by intro e; subst e; simp at hlt), q1, fun j u hu => hc a rfl _ u (q2 j u hu)⟩

/-! ### Memory -/
theorem footOf_agree2 {p : Nat → Prop} {E E' : Env} (h : Agree p E E') {k : Nat} (hk : p k) (A : Atom) (hr : (A.isRnd → E'.rb = E.rb) ∧ E'.pb = E.pb) : footOf E' k A = footOf E k A := by
  obtain ⟨h1, h2⟩ := h k hk
  cases A with
  | rnd t l => exact hr.1 trivial
  | _ => simp [footOf, h1, h2, hr.2]
theorem footOf_agree {p : Nat → Prop} {E E' : Env} (h : Agree p E E') (hr : E'.rb = E.rb ∧ E'.ri = E.ri ∧ E'.pb = E.pb) {k : Nat} (hk : p k) (A : Atom) : footOf E' k A = footOf E k A :=
  footOf_agree2 h hk A ⟨fun _ => hr.1, hr.2.2⟩

theorem still_same {c : Ctx} {E : Env} {p : Nat → Prop} {g : Nat → Option Atom} {W W' : World} {T : List Nat} (h : SatM c E p g W) (hf : Fr T W W') (hT : ∀ b, b ∈ T → c.w0.heap.size ≤ b ∧ ¬ E.fz b) :
    ∀ b, still c E b → W'.heap[b]? = W.heap[b]? := by
  intro b hb
  rcases hb with ⟨h1, _⟩ | h1
  · exact hf.block b (Nat.lt_of_lt_of_le h1 h.fr.size) fun hm => by have := (hT b hm).1; omega
  · exact hf.block b (h.fz b h1).2 fun hm => (hT b hm).2 h1
theorem still_lt {c : Ctx} {E : Env} {p : Nat → Prop} {g : Nat → Option Atom} {W : World} (h : SatM c E p g W) {b : Nat} (hb : still c E b) : b < W.heap.size := by
  rcases hb with ⟨h1, _⟩ | h1
  · exact Nat.lt_of_lt_of_le h1 h.fr.size
  · exact (h.fz b h1).2

theorem AtomAt.mono2 {c : Ctx} {E E' : Env} {p : Nat → Prop} {k : Nat} {W W' : World} {A : Atom} (ha : Agree p E E') (hr : (A.isRnd → E'.rb = E.rb ∧ E'.ri = E.ri) ∧ E'.pb = E.pb) (hk : p k) (ho : A.ok p) (hf : Fr c.S c.w0 W) (hf' : Fr c.S c.w0 W') (hsz : W.heap.size ≤ W'.heap.size)
    (hb : ∀ b, b ∈ footOf E k A → W'.heap[b]? = W.heap[b]?) (hz : ∀ b, still c E b → W'.heap[b]? = W.heap[b]?) (hzz : ∀ b, still c E b → still c E' b) (h : AtomAt c E k W A) : AtomAt c E' k W' A := by
  obtain ⟨h1, h2⟩ := ha k hk
  cases A with
  | box cs t r =>
    simp only [AtomAt, footOf, List.mem_singleton, forall_eq] at *
    rw [h1, hb, h, denL_agree ha cs ho]
  | own ty t l =>
    simp only [AtomAt, den] at *
    obtain ⟨vs, q1, q2⟩ := h
    refine ⟨vs, ?_, q2.mono hzz hz⟩
    rw [h2]
    refine ownsRow_of_block q1 fun a e => hb _ ?_
    simp [footOf, e]
  | ro t l =>
    simp only [AtomAt] at *
    rw [h2]
    exact h.mono hzz hz fun x vs hr => hr.mono hzz hz
  | rop cs =>
    simp only [AtomAt] at *
    obtain ⟨a, q1, q2, q3⟩ := h
    refine ⟨a, by rw [h2]; exact q1, hzz _ q2, fun i s hs => ?_⟩
    rw [den_agree ha s ((okL_iff p cs).1 ho s (List.mem_of_getElem? hs))]
    exact (cell_block (by rw [Addr.add_block]; exact hz _ q2)).trans (q3 i s hs)
  | mark =>
    simp only [AtomAt, footOf, List.mem_singleton, forall_eq] at *
    rw [h1, hb]
    exact h
  | pin =>
    simp only [AtomAt, footOf] at *
    rw [hr.2]
    exact ⟨h.1, fun b hbb => by rw [hb b (by rw [h.1]; exact hbb)]; exact h.2 b hbb⟩
  | rnd t l =>
    simp only [AtomAt, footOf] at *
    obtain ⟨hr1, hr2⟩ := hr.1 trivial
    rw [hr1, hr2, h1]
    obtain ⟨q0, qx, q1, q2, q3⟩ := h
    have hall : ∀ b, b < c.w0.heap.size ∨ b ∈ E.rb → W'.heap[b]? = W.heap[b]? := by
      intro b hbb
      by_cases hbf : b ∈ E.rb
      · exact hb b hbf
      · have hlt := hbb.resolve_right hbf
        have hnS : b ∉ c.S := fun hS => hbf (q1 b hS)
        rw [hf'.block b hlt hnS, hf.block b hlt hnS]
    have ho := hf'.os.trans hf.os.symm
    have ht := hf'.tape.trans hf.tape.symm
    have hu := hf'.output.trans hf.output.symm
    exact ⟨q0, qx, q1, q3 W' ho ht hu hsz hall, fun W'' e1 e2 e3 e4 e5 => q3 W'' (e1.trans ho) (e2.trans ht) (e3.trans hu) (Nat.le_trans hsz e4) fun b hbb => (e5 b hbb).trans (hall b hbb)⟩

theorem AtomAt.mono {c : Ctx} {E E' : Env} {p : Nat → Prop} {k : Nat} {W W' : World} {A : Atom} (ha : Agree p E E') (hr : E'.rb = E.rb ∧ E'.ri = E.ri ∧ E'.pb = E.pb) (hk : p k) (ho : A.ok p) (hf : Fr c.S c.w0 W) (hf' : Fr c.S c.w0 W') (hsz : W.heap.size ≤ W'.heap.size)
    (hb : ∀ b, b ∈ footOf E k A → W'.heap[b]? = W.heap[b]?) (hz : ∀ b, still c E b → W'.heap[b]? = W.heap[b]?) (hzz : ∀ b, still c E b → still c E' b) (h : AtomAt c E k W A) : AtomAt c E' k W' A :=
  AtomAt.mono2 ha ⟨fun _ => ⟨hr.1, hr.2.1⟩, hr.2.2⟩ hk ho hf hf' hsz hb hz hzz h

theorem Atom.fzn_same {p : Nat → Prop} {E E' : Env} (h : Agree p E E') {k : Nat} (hk : p k) (A : Atom) (hr : (A.isRnd → E'.rb = E.rb) ∧ E'.pb = E.pb) (hz : ∀ b, b ∈ footOf E k A → (E'.fz b ↔ E.fz b)) (hA : A.fzn E k) : A.fzn E' k := by
  obtain ⟨h1, h2⟩ := h k hk
  cases A with
  | box cs t r =>
    simp only [Atom.fzn, h1] at *
    exact (hz _ (by simp [footOf])).trans hA
  | own ty t l =>
    simp only [Atom.fzn, h2] at *
    intro a e hf
    exact hA a e ((hz _ (by simp [footOf, e])).1 hf)
  | mark =>
    simp only [Atom.fzn, h1] at *
    exact fun hf => hA ((hz _ (by simp [footOf])).1 hf)
  | pin =>
    simp only [Atom.fzn, hr.2] at *
    exact fun b hb hf => hA b hb ((hz _ (by simpa [footOf] using hb)).1 hf)
  | rnd t l =>
    simp only [Atom.fzn, hr.1 trivial] at *
    exact fun b hb hf => hA b hb ((hz _ (by simpa [footOf] using hb)).1 hf)
  | _ => trivial

/-- What a step of one's own may put at a key. -/
def Atom.mine : Atom → Prop
  | .box _ _ b => b = true
  | .rnd _ _ => False
  | .pin => False
  | _ => True
theorem Atom.mine.notRnd {A : Atom} (h : A.mine) : ¬ A.isRnd := by cases A <;> simp_all [Atom.mine, Atom.isRnd]
theorem Atom.mine.notPin {A : Atom} (h : A.mine) : A ≠ .pin := by cases A <;> simp_all [Atom.mine]
theorem AtomAt.foot_lt {c : Ctx} {E : Env} {k : Nat} {W : World} {A : Atom} (h : AtomAt c E k W A) (hA : ¬ A.isRnd) (hpb : A ≠ .pin) : ∀ b, b ∈ footOf E k A → b < W.heap.size := by
  cases A with
  | box cs t r =>
    intro b hb
    simp only [footOf, List.mem_singleton] at hb
    subst hb
    exact (Array.getElem?_eq_some_iff.1 h).1
  | own ty t l =>
    intro b hb
    simp only [AtomAt, den] at h
    obtain ⟨vs, ⟨_, h⟩, _⟩ := h
    rcases h with ⟨h2, _⟩ | ⟨g, cap, cur, hv, hg, hh, r⟩
    · injection h2 with h2 _ _
      simp [footOf, h2] at hb
    · injection hv with hA _ _
      simp only [footOf, hA, List.mem_singleton] at hb
      subst hb
      exact (Array.getElem?_eq_some_iff.1 hh).1
  | mark =>
    intro b hb
    simp only [footOf, List.mem_singleton] at hb
    subst hb
    exact (Array.getElem?_eq_some_iff.1 h.2).1
  | pin => exact absurd rfl hpb
  | rnd t l => exact absurd trivial hA
  | _ => intro b hb; simp [footOf] at hb

def gUpd (g : Nat → Option Atom) : List (Nat × Option Atom) → Nat → Option Atom
  | [] => g
  | (k, A) :: r => fun k' => if k' = k then A else gUpd g r k'

/-- What does not change in the memory, changes its world. -/
theorem SatM.world {c : Ctx} {E : Env} {p : Nat → Prop} {g : Nat → Option Atom} {W W' : World} (h : SatM c E p g W) (hf : Fr [] W W') : SatM c E p g W' where
  fr := h.fr.step hf (by simp)
  size := Nat.le_trans h.size hf.size
  pf := fun b o ho => ⟨(h.pf b o ho).1, (hf.block b (h.fz b (h.pf b o ho).1).2 (by simp)).trans (h.pf b o ho).2⟩
  fz := fun b hb => ⟨(h.fz b hb).1, Nat.lt_of_lt_of_le (h.fz b hb).2 hf.size⟩
  at_ := fun k A hk => by
    obtain ⟨h1, h2, h3, h4, h5⟩ := h.at_ k A hk
    exact ⟨h1, h2, h3.mono (Agree.refl p E) ⟨rfl, rfl, rfl⟩ h1 h2 h.fr (h.fr.step hf (by simp)) hf.size (fun b hb => hf.block b (h5 b hb).1 (by simp)) (still_same h hf (by simp)) (fun _ h => h), h4, fun b hb => ⟨Nat.lt_of_lt_of_le (h5 b hb).1 hf.size, (h5 b hb).2⟩⟩
  dj := h.dj

theorem SatM.getter {c : Ctx} {E : Env} {p : Nat → Prop} {g g' : Nat → Option Atom} {W : World} (h : SatM c E p g W) (hg : ∀ k A, g' k = some A → g k = some A) : SatM c E p g' W where
  fr := h.fr
  size := h.size
  pf := h.pf
  fz := h.fz
  at_ := fun k A hk => h.at_ k A (hg k A hk)
  dj := fun k k' A A' h1 h2 => h.dj k k' A A' (hg k A h1) (hg k' A' h2)

theorem SatM.monoP {c : Ctx} {E : Env} {p p' : Nat → Prop} {g : Nat → Option Atom} {W : World} (h : SatM c E p g W) (hp : ∀ k, p k → p' k) : SatM c E p' g W where
  fr := h.fr
  size := h.size
  pf := h.pf
  fz := h.fz
  at_ := fun k A hk => by
    obtain ⟨h1, h2, h3, h4, h5⟩ := h.at_ k A hk
    exact ⟨hp _ h1, A.ok_mono hp h2, h3, h4, h5⟩
  dj := h.dj

theorem SatM.drew {c : Ctx} {E : Env} {p : Nat → Prop} {g : Nat → Option Atom} {W : World} (h : SatM c E p g W) : SatM c E p g { W with drawn := W.drawn + 1 } :=
  h.world (Fr.drew (Fr.refl [] W))

/-- One key is set; T: the blocks touched. -/
theorem SatM.one {c : Ctx} {E E' : Env} {p p' : Nat → Prop} {g g' : Nat → Option Atom} {W W' : World} {T : List Nat} (h : SatM c E p g W) (ha : Agree p E E') (hz : E'.fz = E.fz ∧ E'.rb = E.rb ∧ E'.ri = E.ri ∧ E'.pb = E.pb) (hp : ∀ k, p k → p' k)
    (hf : Fr T W W') (hT : ∀ b, b ∈ T → c.w0.heap.size ≤ b ∧ ¬ E.fz b) (k0 : Nat) (A0 : Atom)
    (hg : ∀ k, k ≠ k0 → ∀ A, g' k = some A → g k = some A ∧ ∀ b, b ∈ footOf E k A → b ∉ T)
    (hg0 : ∀ A, g' k0 = some A → A = A0)
    (h0 : p' k0 ∧ A0.ok p' ∧ AtomAt c E' k0 W' A0 ∧ A0.mine ∧ ∀ b, b ∈ footOf E' k0 A0 → (W.heap.size ≤ b ∨ b ∈ T)) : SatM c E' p' g' W' := by
  obtain ⟨hz, hr⟩ := hz
  have hfr := h.fr.step hf fun b hb => .inl (hT b hb).1
  have hst := still_same h hf hT
  have hss : ∀ b, still c E b → still c E' b := fun b hb => by simpa [still, hz] using hb
  have key : ∀ k, k ≠ k0 → ∀ A, g' k = some A → p k ∧ A.ok p ∧ AtomAt c E k W A ∧ A.fzn E k ∧ (∀ b, b ∈ footOf E k A → b < W.heap.size ∧ (A.isRnd ∨ c.w0.heap.size ≤ b)) ∧ ∀ b, b ∈ footOf E k A → b ∉ T := by
    intro k hk A hA
    obtain ⟨h1, h2⟩ := hg k hk A hA
    obtain ⟨h3, h4, h5, h6, h7⟩ := h.at_ k A h1
    exact ⟨h3, h4, h5, h6, h7, h2⟩
  refine ⟨hfr, Nat.le_trans h.size hf.size, fun b o ho => ⟨by rw [hz]; exact (h.pf b o ho).1, (hst b (.inr (h.pf b o ho).1)).trans (h.pf b o ho).2⟩, fun b hb => ?_, fun k A hk => ?_, fun k k' A A' h1 h2 hne b hb hb' => ?_⟩
  · rw [hz] at hb
    exact ⟨(h.fz b hb).1, Nat.lt_of_lt_of_le (h.fz b hb).2 hf.size⟩
  · by_cases e : k = k0
    · subst e
      obtain rfl := hg0 A hk
      obtain ⟨h1, h2, h3, h4, h5⟩ := h0
      have nf : ∀ b, b ∈ footOf E' k A → ¬ E'.fz b := fun b hb hzb => by
        rw [hz] at hzb
        rcases h5 b hb with h6 | h6
        · have := (h.fz b hzb).2; omega
        · exact (hT b h6).2 hzb
      refine ⟨h1, h2, h3, ?_, fun b hb => ⟨h3.foot_lt h4.notRnd h4.notPin b hb, .inr ?_⟩⟩
      · cases A with
        | box cs t r =>
          cases r with
          | true => simp only [Atom.fzn, Bool.true_eq_false, iff_false]; exact nf _ (by simp [footOf])
          | false => cases h4
        | own ty t l => intro a e; exact nf _ (by simp [footOf, e])
        | mark => exact nf _ (by simp [footOf])
        | pin => exact h4.elim
        | rnd t l => exact h4.elim
        | _ => trivial
      · rcases h5 b hb with h6 | h6
        · exact Nat.le_trans h.fr.size h6
        · exact (hT b h6).1
    · obtain ⟨h3, h4, h5, h6, h7, h8⟩ := key k e A hk
      refine ⟨hp _ h3, A.ok_mono hp h4, h5.mono ha hr h3 h4 h.fr hfr hf.size (fun b hb => hf.block b (h7 b hb).1 (h8 b hb)) hst hss, A.fzn_same ha h3 ⟨fun _ => hr.1, hr.2.2⟩ (fun b _ => by rw [hz]) h6, fun b hb => ?_⟩
      rw [footOf_agree ha hr h3] at hb
      exact ⟨Nat.lt_of_lt_of_le (h7 b hb).1 hf.size, (h7 b hb).2⟩
  · by_cases e : k = k0
    · subst e
      obtain rfl := hg0 A h1
      obtain ⟨h3, h4, h5, h6, h7, h8⟩ := key k' (Ne.symm hne) A' h2
      rw [footOf_agree ha hr h3] at hb'
      rcases h0.2.2.2.2 b hb with h9 | h9
      · have := (h7 b hb').1
        omega
      · exact h8 b hb' h9
    · obtain ⟨h3, h4, h5, h6, h7, h8⟩ := key k e A h1
      rw [footOf_agree ha hr h3] at hb
      by_cases e' : k' = k0
      · subst e'
        obtain rfl := hg0 A' h2
        rcases h0.2.2.2.2 b hb' with h9 | h9
        · have := (h7 b hb).1
          omega
        · exact h8 b hb h9
      · obtain ⟨h3', h4', h5', h6', h7', h8'⟩ := key k' e' A' h2
        rw [footOf_agree ha hr h3'] at hb'
        exact h.dj k k' A A' (hg k e A h1).1 (hg k' e' A' h2).1 hne b hb hb'

/-- The environment with a block, a slice for a key. -/
def Env.setBlk (E : Env) (k b : Nat) : Env := { E with blk := fun j => if j = k then b else E.blk j }
def Env.setSlv (E : Env) (k : Nat) (x : Option Addr × Nat × Nat) : Env := { E with slv := fun j => if j = k then x else E.slv j }
theorem agree_setBlk {p : Nat → Prop} {E : Env} {k b : Nat} (h : ¬ p k) : Agree p E (E.setBlk k b) := fun j hj => ⟨by
  have : j ≠ k := fun e => h (e ▸ hj)
  simp [Env.setBlk, this], rfl⟩
theorem agree_setSlv {p : Nat → Prop} {E : Env} {k : Nat} {x} (h : ¬ p k) : Agree p E (E.setSlv k x) := fun j hj => ⟨rfl, by
  have : j ≠ k := fun e => h (e ▸ hj)
  simp [Env.setSlv, this]⟩

/-- A new box. -/
theorem SatM.newBox {c : Ctx} {E : Env} {p : Nat → Prop} {g : Nat → Option Atom} {W : World} (h : SatM c E p g W) {key : Nat} (hk : ¬ p key) (cs : List SV) (hcs : okL p cs) (t : Nat) :
    SatM c (E.setBlk key W.heap.size) (fun k => p k ∨ key ≤ k ∧ k < key + 1) (gUpd g [(key, some (.box cs t true))]) (W.alloc (.cells (denL E cs).toArray t)) := by
  have ha : Agree p E (E.setBlk key W.heap.size) := agree_setBlk hk
  refine h.one ha ⟨rfl, rfl, rfl, rfl⟩ (fun _ h => .inl h) (Fr.alloc W _) (by simp) key (.box cs t true) (fun k hne A hA => ⟨?_, by simp⟩) (fun A hA => ?_) ⟨.inr ⟨Nat.le_refl _, by omega⟩, okL_mono (fun _ h => .inl h) cs hcs, ?_, (by simp [Atom.mine]), fun b hb => ?_⟩
  · simpa [gUpd, hne] using hA
  · simpa [gUpd] using hA.symm
  · simp only [AtomAt, Env.setBlk, if_pos]
    rw [heap_alloc_new]
    have := denL_agree ha cs hcs
    simp only [Env.setBlk] at this
    rw [this]
  · simp only [footOf, Env.setBlk, if_pos, List.mem_singleton] at hb
    subst hb
    exact .inl (Nat.le_refl _)

/-- A key for a slice that is read only. -/
theorem SatM.addRo {c : Ctx} {E : Env} {p : Nat → Prop} {g : Nat → Option Atom} {W : World} (h : SatM c E p g W) {key : Nat} (hk : ¬ p key) {t : Ty} {l : List t.den} {A : Option Addr} {n q : Nat} (hs : SlT (still c E) W (Reps (still c E) W t) t.size A n q l) :
    SatM c (E.setSlv key (A, n, q)) (fun k => p k ∨ k = key) (gUpd g [(key, some (.ro t l))]) W := by
  refine h.one (T := []) (agree_setSlv hk) ⟨rfl, rfl, rfl, rfl⟩ (fun _ h => .inl h) (Fr.refl _ _) (by simp) key (.ro t l) (fun k hne A hA => ⟨?_, by simp⟩) (fun A hA => ?_) ⟨.inr rfl, trivial, ?_, (by simp [Atom.mine]), by simp [footOf]⟩
  · simpa [gUpd, hne] using hA
  · simpa [gUpd] using hA.symm
  · simp only [AtomAt, Env.setSlv, if_pos]
    exact hs

end Go.VM

/-
The machine of plain data: it runs a function's code on whole numbers, bools, lists; its answers are trees of tests and calls.
-/
set_option linter.unusedVariables false
set_option linter.unusedSimpArgs false
namespace Go.VM
open Go.RowKit

/-! ### Regions whose order is open; results -/
def preds (o : Oper) : List Nat := o.after.toList.filterMap fun e => if Region.binds .any e then some e.on else none

def ancStep (acc : List (List Nat)) (o : Oper) : List (List Nat) :=
  acc ++ [(preds o).foldl (fun s q => q :: (acc.getD q [] ++ s)) []]

/-- Of each operation those that must come before it. -/
def ancs (ops : List Oper) : List (List Nat) := ops.foldl ancStep []

def tmpsOf (xs : List Operand) : List Nat := xs.filterMap fun | .tmp t => some t | _ => none

def names (ops : List Oper) (o : Oper) : List Nat :=
  tmpsOf o.op.operands.toList ++ (match o.guard with
    | some (j, _) => ((ops[j]?).bind (·.dst)).toList
    | none => [])

def meets (a b : List Nat) : Bool := a.any fun x => b.contains x

/-- Two operations that may come in either order. -/
def indep (ops : List Oper) (a b : Oper × Fp) : Bool :=
  !meets a.2.wr (b.2.rd ++ b.2.wr) && !meets b.2.wr a.2.rd && (!a.2.full || b.2.wr.isEmpty) && (!b.2.full || a.2.wr.isEmpty) &&
  !meets a.1.dst.toList (names ops b.1 ++ b.1.dst.toList) && !meets b.1.dst.toList (names ops a.1)

def pairOK (ops : List Oper) (an : List (List Nat)) (l : List (Oper × Fp)) : Bool :=
  l.zipIdx.all fun (b, j) => l.zipIdx.all fun (a, i) => !(i < j) || (an.getD j []).contains i || indep ops a b

def noSel (ops : List Oper) : Bool := ops.all fun o => match o.op with | .select .. => false | _ => true

/-- Whatever order is drawn, the region does what it does in the text's order. -/
def ordOK (ops : List Oper) (tr : List Fp) : Bool :=
  pairOK ops (ancs ops) (ops.zip tr.reverse) && (ops.zipIdx.all fun (o, i) => (preds o).all fun q => q < i) && Nat.beq tr.length ops.length && noSel ops

def dsts : List Oper → List Nat
  | [] => []
  | o :: r => match o.dst with
    | some d => d :: dsts r
    | none => dsts r

/-- The slots that a code may write. -/
def wrs : Code → List Nat
  | .region _ ops _ => dsts ops.toList
  | .seq a b => wrs a ++ wrs b
  | .cond _ a b => wrs a ++ wrs b
  | .block _ a => wrs a
  | .loop a => wrs a
  | .rangeFunc _ ps a b => ps.toList ++ wrs a ++ wrs b
  | _ => []


section
variable (tab : Nat → Option TI)
def resOf (fr : List (Nat × SV)) (M : List (Nat × Atom)) : List ResultVar → Option (List SV)
  | [] => some []
  | .tmp t :: r => match look t fr with
    | none => none
    | some s => match resOf fr M r with
      | none => none
      | some l => some (s :: l)
  | .cell t ty :: r => match look t fr, tab ty with
    | some (.ptr j off), some i => match getM j M with
      | some (.box cs _ _) => match i.agg with
        | true => match takeN i.size (dropN off cs) with
          | some l => match resOf fr M r with
            | none => none
            | some q => some (.agg l :: q)
          | none => none
        | false => match nthN off cs with
          | some s => match resOf fr M r with
            | none => none
            | some q => some (s :: q)
          | none => none
      | _ => none
    | _, _ => none

end

/-! ### Leaves -/
inductive Leaf where
  | int (k : IntKind) (z : Int)
  | bool (b : Bool)
  | sl (t : Ty) (l : List t.den)

def Leaf.as : (t : Ty) → Leaf → Option t.den
  | .int k, .int k' z => match decide (k = k') with
    | true => some z
    | false => none
  | .bool, .bool b => some b
  | .slice a, .sl t l => match decEq t a with
    | isTrue h => some (h ▸ l)
    | isFalse _ => none
  | _, _ => none

def Ty.dflt : (t : Ty) → t.den
  | .int _ => (0 : Int)
  | .bool => false
  | .prod a b => (a.dflt, b.dflt)
  | .slice a => ([] : List a.den)

/-- An element of a list. -/
def rd {α : Type} (d : α) (l : List α) (i : Int) : α := l.getD i.toNat d
/-- A list with an element replaced. -/
def wr {α : Type} (l : List α) (i : Int) (x : α) : List α := l.set i.toNat x
def inB (i : Int) (n : Nat) : Bool := decide (0 ≤ i) && decide (i < (n : Int))
def room (n bytes : Nat) : Bool := decide (n * bytes ≤ 140737488355328 ∧ n ≤ 9223372036854775807)
def mn (a b : Int) : Int := if b < a then b else a
def mx (a b : Int) : Int := if b > a then b else a
def iand (k : IntKind) (a b : Int) : Int := k.wrap ((BitVec.ofInt k.bits a &&& BitVec.ofInt k.bits b).toNat : Int)
def ior (k : IntKind) (a b : Int) : Int := k.wrap ((BitVec.ofInt k.bits a ||| BitVec.ofInt k.bits b).toNat : Int)
def iandNot (k : IntKind) (a b : Int) : Int := k.wrap ((BitVec.ofInt k.bits a &&& ~~~ BitVec.ofInt k.bits b).toNat : Int)
def ishl (k : IntKind) (a b : Int) : Int := k.wrap (a * 2 ^ (min b.toNat k.bits))
def ishr (k : IntKind) (a b : Int) : Int := a.fdiv (2 ^ (min b.toNat k.bits))

/-- The cells of plain data. -/
def flat : (t : Ty) → t.den → List Leaf
  | .int k, z => [.int k z]
  | .bool, b => [.bool b]
  | .prod a b, x => flat a x.1 ++ flat b x.2
  | .slice a, l => [.sl a l]

def unflat : (t : Ty) → List Leaf → Option (t.den × List Leaf)
  | .prod a b, l => match unflat a l with
    | none => none
    | some (x, r) => match unflat b r with
      | none => none
      | some (y, q) => some ((x, y), q)
  | .int k, l => match l with
    | [] => none
    | x :: r => match x.as (.int k) with
      | none => none
      | some z => some (z, r)
  | .bool, l => match l with
    | [] => none
    | x :: r => match x.as .bool with
      | none => none
      | some z => some (z, r)
  | .slice a, l => match l with
    | [] => none
    | x :: r => match x.as (.slice a) with
      | none => none
      | some z => some (z, r)

def tysOf : Ty → List Ty
  | .prod a b => tysOf a ++ tysOf b
  | t => [t]

/-- Several leaves as a product. -/
def pt : List Ty → Type
  | [] => Unit
  | t :: r => match r with
    | [] => t.den
    | _ :: _ => t.den × pt r

def toL : (ts : List Ty) → pt ts → List Leaf
  | [], _ => []
  | [t], x => flat t x
  | t :: u :: r, x => flat t x.1 ++ toL (u :: r) x.2

def ofL : (ts : List Ty) → List Leaf → Option (pt ts)
  | [], l => match l with
    | [] => some ()
    | _ :: _ => none
  | [t], l => match l with
    | [x] => x.as t
    | _ => none
  | t :: u :: r, l => match l with
    | [] => none
    | x :: q => match x.as t with
      | none => none
      | some z => match ofL (u :: r) q with
        | none => none
        | some y => some (z, y)

/-! ### Shapes of values -/
inductive Sk where
  | int (k : IntKind)
  | bool
  | ro (t : Ty)
  | own (ty : Nat) (t : Ty)
  | box (cs : List Sk) (ty : Nat) (off : Nat)
  | ref (k off : Nat)
  | ptr (cs : List Sk) (off : Nat)
  | fn (g : Nat) (first caps : List Sk)
  | agg (cs : List Sk)
  | tup (cs : List Sk)
  | nilp
  | yf

mutual
def Sk.tys : Sk → List Ty
  | .int k => [.int k]
  | .bool => [.bool]
  | .ro t => [.slice t]
  | .own _ t => [.slice t]
  | .box cs _ _ => tysL cs
  | .ref _ _ => []
  | .ptr cs _ => tysL cs
  | .fn _ a b => tysL a ++ tysL b
  | .agg cs => tysL cs
  | .tup cs => tysL cs
  | .nilp => []
  | .yf => []
def tysL : List Sk → List Ty
  | [] => []
  | x :: r => x.tys ++ tysL r
end

mutual
def Sk.beq : Sk → Sk → Bool
  | .int k, .int k' => decide (k = k')
  | .bool, .bool => true
  | .ro t, .ro t' => decide (t = t')
  | .own y t, .own y' t' => match Nat.beq y y' with
    | true => decide (t = t')
    | false => false
  | .box cs y o, .box cs' y' o' => match Nat.beq y y', Nat.beq o o' with
    | true, true => beqL cs cs'
    | _, _ => false
  | .ref k o, .ref k' o' => match Nat.beq k k' with
    | true => Nat.beq o o'
    | false => false
  | .ptr cs o, .ptr cs' o' => match Nat.beq o o' with
    | true => beqL cs cs'
    | false => false
  | .fn g a b, .fn g' a' b' => match Nat.beq g g', beqL a a' with
    | true, true => beqL b b'
    | _, _ => false
  | .agg cs, .agg cs' => beqL cs cs'
  | .tup cs, .tup cs' => beqL cs cs'
  | .nilp, .nilp => true
  | .yf, .yf => true
  | _, _ => false
def beqL : List Sk → List Sk → Bool
  | [], [] => true
  | x :: r, y :: q => match x.beq y with
    | true => beqL r q
    | false => false
  | _, _ => false
end

/-! A shape, filled with leaves: values, what lies at their keys, the next key. -/
mutual
def Sk.fill : Sk → Nat → List Leaf → Option (SV × List (Nat × Atom) × Nat × List Leaf)
  | .int k, n, l => match l with
    | x :: r => match x with
      | .int k' z => match decide (k = k') with
        | true => some (.v (.int k' z), [], n, r)
        | false => none
      | _ => none
    | [] => none
  | .bool, n, l => match l with
    | x :: r => match x with
      | .bool b => some (.v (.bool b), [], n, r)
      | _ => none
    | [] => none
  | .ro t, n, l => match l with
    | x :: r => match x.as (.slice t) with
      | some q => some (.own n, [(n, .ro t q)], n + 1, r)
      | none => none
    | [] => none
  | .own ty t, n, l => match l with
    | x :: r => match x.as (.slice t) with
      | some q => some (.own n, [(n, .own ty t q)], n + 1, r)
      | none => none
    | [] => none
  | .box cs ty off, n, l => match fillL cs (n + 1) l with
    | some (ss, M, m, r) => some (.ptr n off, (n, .box ss ty true) :: M, m, r)
    | none => none
  | .ref k off, n, l => some (.ptr k off, [], n, l)
  | .ptr cs off, n, l => match fillL cs (n + 1) l with
    | some (ss, M, m, r) => some (.eptr n 0 0 off, (n, .rop ss) :: M, m, r)
    | none => none
  | .fn g a b, n, l => match fillL a n l with
    | some (ss, M, m, r) => match fillL b m r with
      | some (qs, M', m', r') => some (.fn (.func g) ss qs, M ++ M', m', r')
      | none => none
    | none => none
  | .agg cs, n, l => match fillL cs n l with
    | some (ss, M, m, r) => some (.agg ss, M, m, r)
    | none => none
  | .tup cs, n, l => match fillL cs n l with
    | some (ss, M, m, r) => some (.tup ss, M, m, r)
    | none => none
  | .nilp, n, l => some (.v (.pointer none), [], n, l)
  | .yf, n, l => some (.yf 0, [], n, l)
def fillL : List Sk → Nat → List Leaf → Option (List SV × List (Nat × Atom) × Nat × List Leaf)
  | [], n, l => some ([], [], n, l)
  | x :: q, n, l => match x.fill n l with
    | some (s, M, m, r) => match fillL q m r with
      | some (ss, M', m', r') => some (s :: ss, M ++ M', m', r')
      | none => none
    | none => none
end

/-! ### From values to leaves -/
/-- The leaf of a cell; v: rows of one's own are seen, too. -/
def leaf0 (M : List (Nat × Atom)) (v : Bool) (t : Option Ty) (s : SV) : Option Leaf :=
  match s with
  | .v x => match x with
    | .int k z => some (.int k z)
    | .bool b => some (.bool b)
    | .slice A n q => match A, n, q with
      | none, 0, 0 => match t with
        | some (.slice a) => some (.sl a [])
        | _ => none
      | _, _, _ => none
    | _ => none
  | .own j => match getM j M with
    | some (.ro a l) => some (.sl a l)
    | some (.own _ a l) => match v with
      | true => some (.sl a l)
      | false => none
    | _ => none
  | _ => none

def leavesOf (M : List (Nat × Atom)) (v : Bool) : List Ty → List SV → Option (List Leaf × List SV)
  | [], ss => some ([], ss)
  | t :: ts, ss => match ss with
    | [] => none
    | s :: r => match leaf0 M v (some t) s with
      | none => none
      | some x => match leavesOf M v ts r with
        | none => none
        | some (l, q) => some (x :: l, q)

/-- So many elements out of cells. -/
def rowOf (M : List (Nat × Atom)) (v : Bool) (t : Ty) : Nat → List SV → Option (List t.den)
  | 0, _ => some []
  | n + 1, ss => match leavesOf M v (tysOf t) ss with
    | none => none
    | some (l, q) => match unflat t l with
      | some (x, []) => match rowOf M v t n q with
        | none => none
        | some xs => some (x :: xs)
      | _ => none

/-- As many elements out of cells as there are, k cells apart. -/
def rowUp (M : List (Nat × Atom)) (t : Ty) (k : Nat) : Nat → List SV → List t.den
  | 0, _ => []
  | n + 1, ss => match leavesOf M false (tysOf t) ss with
    | none => []
    | some (l, q) => match unflat t l with
      | some (x, []) => x :: rowUp M t k n (dropN k ss)
      | _ => []

def leafOf (M : List (Nat × Atom)) (t : Option Ty) (s : SV) : Option Leaf :=
  match s with
  | .sl j off n q => match Nat.ble n q, t, getM j M with
    | true, some (.slice a), some (.box cs _ _) => match rowOf M true a n (dropN off cs) with
      | some l => some (.sl a l)
      | none => none
    | _, _, _ => none
  | s => leaf0 M true t s

/-- The keys of slices among cells. -/
def ownK : List SV → List Nat
  | [] => []
  | s :: r => match s with
    | .own j => j :: ownK r
    | _ => ownK r

/-- What is written no more: rows of one's own among cells. -/
def frzK (M : List (Nat × Atom)) : List SV → List (Nat × Atom)
  | [] => []
  | s :: r => match s with
    | .own j => match getM j M with
      | some (.own _ a l) => (j, .ro a l) :: frzK M r
      | _ => frzK M r
    | _ => frzK M r

def ctsOf (tab : Nat → Option TI) (t : Nat) : List (Option Ty) := match tab t with
  | some i => i.cts
  | none => []

def headT : List (Option Ty) → Option Ty
  | [] => none
  | t :: _ => t
def tailT : List (Option Ty) → List (Option Ty)
  | [] => []
  | _ :: r => r

mutual
/-- A value's shape and leaves, as a call sees it. -/
def skOf (tab : Nat → Option TI) (M : List (Nat × Atom)) : Nat → Option Ty → SV → Option (Sk × List Leaf)
  | 0, _, _ => none
  | d + 1, t, s => match s with
    | .ptr j off => match getM j M with
      | some (.box cs ty _) => match skL tab M d (ctsOf tab ty) cs with
        | some (ss, l) => some (.ptr ss off, l)
        | none => none
      | _ => none
    | .eptr j i k off => match k, getM j M with
      | 0, some (.rop cs) => match skL tab M d [] cs with
        | some (ss, l) => some (.ptr ss off, l)
        | none => none
      | _, _ => none
    | .fn f a b => match f with
      | .func g => match skL tab M d [] a, skL tab M d [] b with
        | some (x, l), some (y, r) => some (.fn g x y, l ++ r)
        | _, _ => none
      | _ => none
    | .v (.func f a b) => match f, a.toList, b.toList with
      | .func g, [], [] => some (.fn g [] [], [])
      | _, _, _ => none
    | s => match leafOf M t s with
      | some x => match x with
        | .int k z => some (.int k, [.int k z])
        | .bool b => some (.bool, [.bool b])
        | .sl a l => some (.ro a, [.sl a l])
      | none => none
def skL (tab : Nat → Option TI) (M : List (Nat × Atom)) : Nat → List (Option Ty) → List SV → Option (List Sk × List Leaf)
  | 0, _, _ => none
  | d + 1, ts, ss => match ss with
    | [] => some ([], [])
    | s :: r => match skOf tab M d (headT ts) s with
      | none => none
      | some (x, l) => match skL tab M d (tailT ts) r with
        | none => none
        | some (xs, l') => some (x :: xs, l ++ l')
end
end Go.VM

/-
The machine's run: operations, regions, code.
-/
set_option linter.unusedVariables false
set_option linter.unusedSimpArgs false
namespace Go.VM
open Go.RowKit

/-! ### Answers: trees -/
inductive Tree (R : Type) : Type 1 where
  | fail
  | ret (r : R)
  | opt (o : Option R)
  | ite (c : Bool) (a b : Tree R)
  | bind {α : Type} (o : Option α) (k : α → Tree R)
  | case {α β : Type} (s : α ⊕ β) (f : α → Tree R) (g : β → Tree R)

def Tree.eval {R : Type} : Tree R → Option R
  | .fail => none
  | .ret r => some r
  | .opt o => o
  | .ite c a b => bif c then a.eval else b.eval
  | .bind o k => o.bind fun x => (k x).eval
  | .case s f g => match s with
    | .inl a => (f a).eval
    | .inr b => (g b).eval

def Tree.chk {R : Type} (c : Bool) (a : Tree R) : Tree R := .ite c a .fail

/-! ### Packing: a state, told by shapes and leaves -/
/-- What packing has met: leaves, backwards; of each new key the old one, if it may be written; the next new key; what is frozen; the number of pins. -/
structure PS where
  lv : List Leaf
  ren : List (Nat × Option Nat)
  n : Nat
  fz : List (Nat × Atom)
  np : Nat

def hasK (j : Nat) : List (Nat × Atom) → Bool
  | [] => false
  | (i, _) :: r => match Nat.beq i j with
    | true => true
    | false => hasK j r

def usedN (j : Nat) : List (Nat × Option Nat) → Bool
  | [] => false
  | (_, x) :: r => match x with
    | some i => match Nat.beq i j with
      | true => true
      | false => usedN j r
    | none => usedN j r

def renOf (k : Nat) : List (Nat × Option Nat) → Option Nat
  | [] => none
  | (i, x) :: r => match Nat.beq i k with
    | true => x
    | false => renOf k r

def tyRefs : Ty → Bool
  | .prod a b => match tyRefs a with
    | true => true
    | false => tyRefs b
  | .slice _ => true
  | _ => false

/-- The slice that append appends to: what it holds; the key that is struck. -/
def dstOf (M : List (Nat × Atom)) (ty : Nat) (t : Ty) (s : SV) : Option (List t.den × List Nat × List Nat) :=
  match s with
  | .own j => match getM j M with
    | some (.own ty' t' l) => match Nat.beq ty ty', (Leaf.sl t' l).as (.slice t) with
      | true, some q => some (q, [j], [j])
      | _, _ => none
    | _ => none
  | .sl j 0 n q => match getM j M, Nat.beq n q with
    | some (.box cs ty' true), true => match Nat.beq ty ty', Nat.beq (lenL cs) (n * t.size), rowOf M false t n cs with
      | true, true, some l => some (l, [j], j :: ownK cs)
      | _, _, _ => none
    | _, _ => none
  | .v (.slice none 0 0) => some ([], [], [])
  | _ => none

/-- A slice that is read only from here on: its elements, what is frozen. -/
def roOf (M : List (Nat × Atom)) (t : Ty) (s : SV) : Option (List t.den × List (Nat × Atom)) :=
  match s with
  | .own j => match getM j M with
    | some (.ro a l) => match (Leaf.sl a l).as (.slice t) with
      | some q => some (q, [])
      | none => none
    | some (.own _ a l) => match (Leaf.sl a l).as (.slice t) with
      | some q => some (q, [(j, .ro a l)])
      | none => none
    | _ => none
  | .sl j off n q => match getM j M, Nat.ble n q with
    | some (.box cs ty _), true => match rowOf M false t n (dropN off cs) with
      | some l => some (l, [(j, .box cs ty false)])
      | none => none
    | _, _ => none
  | .v (.slice none 0 0) => some ([], [])
  | _ => none

/-- No key that is frozen may be written. -/
def notUsed (f : List (Nat × Atom)) (ren : List (Nat × Option Nat)) : Bool := match f with
  | [] => true
  | (j, _) :: r => match usedN j ren with
    | true => false
    | false => notUsed r ren
def appF : List (Nat × Atom) → List (Nat × Atom) → List (Nat × Atom)
  | [], l => l
  | x :: r, l => x :: appF r l
def shortS (s : SV) : Bool := match s with
  | .sl _ _ n _ => Nat.ble n 1000000
  | _ => true

mutual
def Sk.pack (M : List (Nat × Atom)) : Sk → SV → PS → Option PS
  | .int k, s, p => match leaf0 M false none s with
    | some (.int k' z) => match decide (k = k') with
      | true => some { p with lv := .int k' z :: p.lv }
      | false => none
    | _ => none
  | .bool, s, p => match leaf0 M false none s with
    | some (.bool b) => some { p with lv := .bool b :: p.lv }
    | _ => none
  | .ro t, s, p => match roOf M t s with
    | some (l, f) => match notUsed f p.ren with
      | true => some ⟨.sl t l :: p.lv, (p.n, none) :: p.ren, p.n + 1, appF f p.fz, p.np⟩
      | false => none
    | none => none
  | .own ty t, s, p => match dstOf M ty t s, shortS s with
    | some (l, ks, _), true => match ks with
      | [] => some ⟨.sl t l :: p.lv, (p.n, none) :: p.ren, p.n + 1, p.fz, p.np⟩
      | [j] => match usedN j p.ren, hasK j p.fz with
        | false, false => some ⟨.sl t l :: p.lv, (p.n, some j) :: p.ren, p.n + 1, p.fz, p.np⟩
        | _, _ => none
      | _ => none
    | _, _ => none
  | .box cs ty off, s, p => match s with
    | .ptr j off' => match getM j M with
      | some (.box ss ty' true) => match Nat.beq off off', Nat.beq ty ty', usedN j p.ren, hasK j p.fz with
        | true, true, false, false => packL M cs ss ⟨p.lv, (p.n, some j) :: p.ren, p.n + 1, p.fz, p.np⟩
        | _, _, _, _ => none
      | _ => none
    | _ => none
  | .ref k off, s, p => match s with
    | .ptr j off' => match renOf k p.ren with
      | some i => match Nat.beq i j, Nat.beq off off' with
        | true, true => some p
        | _, _ => none
      | none => none
    | _ => none
  | .ptr cs off, s, p => match s with
    | .ptr j off' => match getM j M with
      | some (.box ss ty _) => match Nat.beq off off', usedN j p.ren with
        | true, false => packL M cs ss ⟨p.lv, (p.n, none) :: p.ren, p.n + 1, (j, .box ss ty false) :: p.fz, p.np⟩
        | _, _ => none
      | _ => none
    | .eptr j i k off' => match i, k, getM j M with
      | 0, 0, some (.rop ss) => match Nat.beq off off' with
        | true => packL M cs ss ⟨p.lv, (p.n, none) :: p.ren, p.n + 1, p.fz, p.np⟩
        | false => none
      | _, _, _ => none
    | _ => none
  | .fn g a b, s, p => match s with
    | .fn (.func g') x y => match Nat.beq g g' with
      | true => match packL M a x p with
        | some p' => packL M b y p'
        | none => none
      | false => none
    | .v (.func (.func g') x y) => match Nat.beq g g', x.toList, y.toList, a, b with
      | true, [], [], [], [] => some p
      | _, _, _, _, _ => none
    | _ => none
  | .agg cs, s, p => match s with
    | .agg ss => packL M cs ss p
    | .v (.agg xs) => packL M cs (vals xs.toList) p
    | _ => none
  | .tup cs, s, p => match s with
    | .tup ss => packL M cs ss p
    | _ => none
  | .nilp, s, p => match s with
    | .v (.pointer none) => some p
    | _ => none
  | .yf, s, p => match s, p.np with
    | .yf 0, Nat.succ _ => some p
    | _, _ => none
def packL (M : List (Nat × Atom)) : List Sk → List SV → PS → Option PS
  | [], ss, p => match ss with
    | [] => some p
    | _ :: _ => none
  | x :: q, ss, p => match ss with
    | [] => none
    | s :: r => match x.pack M s p with
      | some p' => packL M q r p'
      | none => none
end

/-- What lies at the first keys, and stays there. -/
inductive PK where
  | mark
  | pin
  | rnd (t : Ty)
  deriving DecidableEq

/-- The shape of a state: its pins, its slots. -/
structure HS where
  pins : List PK
  mks : List Nat
  slots : List (Nat × Sk)
def sksOf : List (Nat × Sk) → List Sk
  | [] => []
  | (_, x) :: r => x :: sksOf r
def HS.sks (h : HS) : List Sk := sksOf h.slots
def pinTys : List PK → List Ty
  | [] => []
  | x :: r => match x with
    | .rnd t => .slice t :: pinTys r
    | _ => pinTys r
def HS.tys (h : HS) : List Ty := pinTys h.pins ++ tysL h.sks
def lookAll (fr : List (Nat × SV)) : List (Nat × Sk) → Option (List SV)
  | [] => some []
  | (t, _) :: r => match look t fr, lookAll fr r with
    | some s, some l => some (s :: l)
    | _, _ => none
def zipT : List (Nat × Sk) → List SV → List (Nat × SV)
  | (t, _) :: r, s :: q => (t, s) :: zipT r q
  | _, _ => []
def lenP : List PK → Nat
  | [] => 0
  | _ :: r => Nat.succ (lenP r)
def packP (M : List (Nat × Atom)) : List PK → Nat → Option (List Leaf)
  | [], _ => some []
  | x :: r, n => match x, getM n M with
    | .mark, some .mark => packP M r (n + 1)
    | .pin, some .pin => packP M r (n + 1)
    | .rnd t, some (.rnd t' l) => match (Leaf.sl t' l).as (.slice t), packP M r (n + 1) with
      | some q, some ls => some (.sl t q :: ls)
      | _, _ => none
    | _, _ => none
def fillP : List PK → Nat → List Leaf → Option (List (Nat × Atom) × List Leaf)
  | [], _, l => some ([], l)
  | x :: r, n, l => match x with
    | .mark => match fillP r (n + 1) l with
      | some (M, q) => some ((n, .mark) :: M, q)
      | none => none
    | .pin => match fillP r (n + 1) l with
      | some (M, q) => some ((n, .pin) :: M, q)
      | none => none
    | .rnd t => match l with
      | [] => none
      | y :: l => match y.as (.slice t), fillP r (n + 1) l with
        | some z, some (M, q) => some ((n, .rnd t z) :: M, q)
        | _, _ => none
def allLt (n : Nat) : List Nat → Bool
  | [] => true
  | x :: r => match Nat.blt x n with
    | true => allLt n r
    | false => false
def eqNs : List Nat → List Nat → Bool
  | [], [] => true
  | x :: r, y :: q => match Nat.beq x y with
    | true => eqNs r q
    | false => false
  | _, _ => false
def packS (h : HS) (st : St) : Option (pt h.tys) := match packP st.M h.pins 0, lookAll st.fr h.slots, Nat.ble (lenP h.pins) 8, allLt (lenP h.pins) st.mks, eqNs st.mks h.mks with
  | some ls, some ss, true, true, true => match packL st.M h.sks ss ⟨[], [], 8, [], lenP h.pins⟩ with
    | some p => ofL h.tys (ls ++ p.lv.reverse)
    | none => none
  | _, _, _, _, _ => none
def fillQ (pins : List PK) (slots : List (Nat × Sk)) (ls : List Leaf) (mks : List Nat) : Option St := match fillP pins 0 ls with
  | some (Mp, l) => match fillL (sksOf slots) 8 l with
    | some (ss, M, n, []) => some ⟨zipT slots ss, Mp ++ M, n, mks⟩
    | _ => none
  | none => none
def fillS (h : HS) (x : pt h.tys) : Option St := fillQ h.pins h.slots (toL h.tys x) h.mks

/-! ### What calls and loops are told to do -/
/-- An answer is of one of some shapes. -/
def RT : List Sk → Type
  | [] => Empty
  | x :: r => match r with
    | [] => pt x.tys
    | _ :: _ => pt x.tys ⊕ RT r
def toldR : (res : List Sk) → RT res → Sk × List Leaf
  | [], r => r.elim
  | [x], r => (x, toL x.tys r)
  | x :: y :: q, r => match r with
    | .inl a => (x, toL x.tys a)
    | .inr r => toldR (y :: q) r
def dispR {R : Type} (K : Sk → List Leaf → Tree R) : (res : List Sk) → RT res → Tree R
  | [], _ => .fail
  | [x], r => K x (toL x.tys r)
  | x :: y :: q, r => .case r (fun a => K x (toL x.tys a)) fun r => dispR K (y :: q) r

structure Spec where
  g : Nat
  args : List Sk
  res : List Sk
  f : pt (tysL args) → Option (RT res)

/-- What is told of an iterator: what it yields. -/
structure ISpec where
  g : Nat
  first : List Sk
  caps : List Sk
  t : Ty
  f : pt (tysL (first ++ caps)) → Option (List t.den)

def LR : List (Exit × HS) → Type
  | [] => Empty
  | (_, h) :: r => match r with
    | [] => pt h.tys
    | _ :: _ => pt h.tys ⊕ LR r

inductive LSpec where
  | loop (hd : HS) (ex : List (Exit × HS)) (f : pt hd.tys → Option (LR ex))
  | range (hd : HS) (t : Ty) (f : List t.den → pt hd.tys → Option (pt hd.tys))

def findO (g : Nat) (sk : List Sk) : List Spec → Option Spec
  | [] => none
  | s :: r => match Nat.beq s.g g, beqL s.args sk with
    | true, true => some s
    | _, _ => findO g sk r

def findI (g : Nat) (first caps : List Sk) : List ISpec → Option ISpec
  | [] => none
  | s :: r => match Nat.beq s.g g, beqL s.first first, beqL s.caps caps with
    | true, true, true => some s
    | _, _, _ => findI g first caps r

/-- What is told of a function that writes into what it is handed: its answers are the memory that it may write, and its result. -/
structure MSpec where
  g : Nat
  args : List Sk
  res : List Sk
  f : pt (tysL args) → Option (RT res)

structure VE where
  tab : Nat → Option TI
  O : List Spec
  I : List ISpec := []
  MS : List MSpec := []

def Sk.isMut : Sk → Bool
  | .box _ _ _ => true
  | .own _ _ => true
  | _ => false
def mutK : List Sk → List Sk
  | [] => []
  | x :: r => match x.isMut with
    | true => x :: mutK r
    | false => mutK r
/-- The values of the arguments that may be written. -/
def mutS : List Sk → List SV → List SV
  | [], _ => []
  | x :: r, ss => match ss with
    | [] => []
    | s :: q => match x.isMut with
      | true => s :: mutS r q
      | false => mutS r q
/-- The old key of each new one. -/
def zipK : List SV → List SV → Option (List (Nat × Nat))
  | [], ss => match ss with
    | [] => some []
    | _ :: _ => none
  | t :: ts, ss => match ss with
    | [] => none
    | s :: q => match t, s with
      | .ptr k o, .ptr j o' => match Nat.beq o o', zipK ts q with
        | true, some l => some ((k, j) :: l)
        | _, _ => none
      | .own k, .own j => match zipK ts q with
        | some l => some ((k, j) :: l)
        | none => none
      | _, _ => none
def phi (l : List (Nat × Nat)) (key k : Nat) : Nat := match l with
  | [] => key + k
  | (i, j) :: r => match Nat.beq i k with
    | true => j
    | false => phi r key k
mutual
def rnS (f : Nat → Nat) : SV → SV
  | .v x => .v x
  | .ptr j off => .ptr (f j) off
  | .xptr j off i k o => .xptr (f j) off i k o
  | .sl j off n q => .sl (f j) off n q
  | .own j => .own (f j)
  | .eptr j i k o => .eptr (f j) i k o
  | .fn g x y => .fn g (rnL f x) (rnL f y)
  | .agg cs => .agg (rnL f cs)
  | .tup cs => .tup (rnL f cs)
  | .yf j => .yf (f j)
def rnL (f : Nat → Nat) : List SV → List SV
  | [] => []
  | x :: r => rnS f x :: rnL f r
end
def rnA (f : Nat → Nat) : Atom → Atom
  | .box cs t b => .box (rnL f cs) t b
  | .rop cs => .rop (rnL f cs)
  | A => A
def rnM (f : Nat → Nat) : List (Nat × Atom) → List (Nat × Atom)
  | [] => []
  | (k, A) :: r => (f k, rnA f A) :: rnM f r
mutual
/-- Which keys a value uses as blocks, which ones as slices. -/
def SV.uses (kb ks : Nat → Bool) : SV → Bool
  | .v _ => true
  | .ptr j _ => kb j
  | .xptr j _ _ _ _ => kb j
  | .sl j _ _ _ => kb j
  | .own j => ks j
  | .eptr j _ _ _ => ks j
  | .fn _ x y => match usesL kb ks x with
    | true => usesL kb ks y
    | false => false
  | .agg cs => usesL kb ks cs
  | .tup cs => usesL kb ks cs
  | .yf j => kb j
def usesL (kb ks : Nat → Bool) : List SV → Bool
  | [] => true
  | x :: r => match x.uses kb ks with
    | true => usesL kb ks r
    | false => false
end
def Atom.uses (kb ks : Nat → Bool) (k : Nat) : Atom → Bool
  | .box cs _ _ => match kb k with
    | true => usesL kb ks cs
    | false => false
  | .rop cs => match ks k with
    | true => usesL kb ks cs
    | false => false
  | .ro _ _ => ks k
  | .own _ _ _ => ks k
  | _ => false
def usesM (kb ks : Nat → Bool) : List (Nat × Atom) → Bool
  | [] => true
  | (k, A) :: r => match A.uses kb ks k with
    | true => usesM kb ks r
    | false => false
/-- The keys of pointers, of slices. -/
def ptrK : List SV → List Nat
  | [] => []
  | s :: r => match s with
    | .ptr k _ => k :: ptrK r
    | _ => ptrK r
def sndN : List (Nat × Nat) → List Nat
  | [] => []
  | (_, j) :: r => j :: sndN r
def fstN : List (Nat × Nat) → List Nat
  | [] => []
  | (k, _) :: r => k :: fstN r
def notN (l : List Nat) (k : Nat) : Bool := match elemN' k l with
  | true => false
  | false => true
where elemN' (k : Nat) : List Nat → Bool
  | [] => false
  | x :: r => match Nat.beq x k with
    | true => true
    | false => elemN' k r
def distN : List Nat → Bool
  | [] => true
  | x :: r => match notN r x with
    | true => distN r
    | false => false
def allLtN (key : Nat) : List Nat → Bool
  | [] => true
  | x :: r => match Nat.blt x key with
    | true => allLtN key r
    | false => false
/-- What comes back can be told by the old keys. -/
def backOK (key : Nat) (ts : List SV) (t : SV) (M2 : List (Nat × Atom)) (l : List (Nat × Nat)) : Bool :=
  match distN (sndN l), distN (fstN l), allLtN key (sndN l), t.uses (notN (ownK ts)) (notN (ptrK ts)), usesM (notN (ownK ts)) (notN (ptrK ts)) M2 with
  | true, true, true, true, true => true
  | _, _, _, _, _ => false
def frzB : Atom → Atom
  | .own _ t l => .ro t l
  | .box cs ty _ => .box cs ty false
  | A => A
/-- What is written no more, as it is. -/
def frzM (M : List (Nat × Atom)) : List (Nat × Atom) → List (Nat × Atom)
  | [] => []
  | (j, _) :: r => match getM j M with
    | some B => (j, frzB B) :: frzM M r
    | none => frzM M r
def lastS : List SV → Option (List SV × SV)
  | [] => none
  | x :: r => match r with
    | [] => some ([], x)
    | _ :: _ => match lastS r with
      | some (q, y) => some (x :: q, y)
      | none => none
def renJ : List (Nat × Option Nat) → List Nat
  | [] => []
  | (_, x) :: r => match x with
    | some j => j :: renJ r
    | none => renJ r
def findM (g : Nat) : List MSpec → List MSpec
  | [] => []
  | s :: r => match Nat.beq s.g g with
    | true => s :: findM g r
    | false => findM g r

section
variable (V : VE) {R : Type}

def exEq : Exit → Exit → Bool
  | .ret, .ret => true
  | .exit n, .exit m => Nat.beq n m
  | .normal, .normal => true
  | _, _ => false

/-- Leaves as a value; a new key for a slice. -/
def svOf (key : Nat) : List Leaf → List SV × List (Nat × Option Atom) × Nat
  | [] => ([], [], key)
  | x :: r => match x with
    | .int k z => match svOf key r with
      | (ss, u, n) => (.v (.int k z) :: ss, u, n)
    | .bool b => match svOf key r with
      | (ss, u, n) => (.v (.bool b) :: ss, u, n)
    | .sl t l => match svOf (key + 1) r with
      | (ss, u, n) => (.own key :: ss, (key, some (.ro t l)) :: u, n)

def takeL : Nat → List Leaf → Option (List Leaf)
  | 0, _ => some []
  | n + 1, l => match l with
    | [] => none
    | x :: r => match takeL n r with
      | none => none
      | some q => some (x :: q)
def dropL : Nat → List Leaf → List Leaf
  | 0, l => l
  | n + 1, l => match l with
    | [] => []
    | _ :: r => dropL n r
def setL : Nat → List Leaf → List Leaf → List Leaf
  | _, [], l => l
  | 0, x :: xs, l => match l with
    | [] => []
    | _ :: r => x :: setL 0 xs r
  | n + 1, xs, l => match l with
    | [] => []
    | y :: r => y :: setL n xs r

/-- The cells of an element, from its place o on: i. -/
def ldT (key : Nat) (rds : List Nat) (i : TI) (t : Ty) (l : List t.den) (x : Int) (o : Nat) (K : Res → Tree R) : Tree R :=
  .ite (inB x l.length) (match takeL i.size (dropL o (flat t (rd t.dflt l x))) with
    | none => .fail
    | some ls => match svOf key ls with
      | (ss, u, n) => match Nat.ble (n - key) 8, i.agg with
        | true, true => K ⟨.agg ss, u, n - key, rds, false⟩
        | true, false => match ss with
          | [s] => K ⟨s, u, n - key, rds, false⟩
          | _ => .fail
        | false, _ => .fail) .fail

def eqL : List Leaf → List Leaf → Option Bool
  | [], [] => some true
  | x :: r, y :: q => match x, y with
    | .int _ a, .int _ b => match r, q with
      | [], [] => some (decide (a = b))
      | _, _ => match eqL r q with
        | some c => some (decide (a = b) && c)
        | none => none
    | .bool a, .bool b => match r, q with
      | [], [] => some (a == b)
      | _, _ => match eqL r q with
        | some c => some (a == b && c)
        | none => none
    | _, _ => none
  | _, _ => none

def kindsL (xs : List SV) (z : List Value) : Bool := match unV xs with
  | some us => kindsOK us z
  | none => false

def leafL : List SV → Option (List Leaf)
  | [] => some []
  | s :: r => match leaf0 [] false none s, leafL r with
    | some x, some l => some (x :: l)
    | _, _ => none

def arithV (op : BinOp) (k : IntKind) (a b : Int) (K : SV → Tree R) : Tree R :=
  match op with
  | .add => K (.v (.int k (k.wrap (a + b))))
  | .sub => K (.v (.int k (k.wrap (a - b))))
  | .mul => K (.v (.int k (k.wrap (a * b))))
  | .quo => .ite (decide (b ≠ 0)) (K (.v (.int k (k.wrap (a.tdiv b))))) .fail
  | .rem => .ite (decide (b ≠ 0)) (K (.v (.int k (a.tmod b)))) .fail
  | .and => K (.v (.int k (iand k a b)))
  | .or => K (.v (.int k (ior k a b)))
  | .andNot => K (.v (.int k (iandNot k a b)))
  | .eql => K (.v (.bool (decide (a = b))))
  | .neq => K (.v (.bool (decide (a ≠ b))))
  | .lss => K (.v (.bool (decide (a < b))))
  | .leq => K (.v (.bool (decide (a ≤ b))))
  | .gtr => K (.v (.bool (decide (b < a))))
  | .geq => K (.v (.bool (decide (b ≤ a))))
  | _ => .fail

/-- The slice that is appended: its elements, the keys that are read, what is written no more. -/
def srcOf' (M : List (Nat × Atom)) (t : Ty) (s : SV) : Option (List t.den × List Nat × List (Nat × Atom)) :=
  match leafOf M (some (.slice t)) s with
  | some x => match x.as (.slice t) with
    | some l => match s with
      | .own j => some (l, [j], [])
      | .sl j _ _ _ => match getM j M with
        | some (.box cs _ _) => some (l, j :: ownK cs, frzK M cs)
        | _ => none
      | _ => some (l, [], [])
    | none => none
  | none => none

def someU : List (Nat × Atom) → List (Nat × Option Atom)
  | [] => []
  | (k, A) :: r => (k, some A) :: someU r

def hasKs : List Nat → List (Nat × Atom) → Bool
  | [], _ => false
  | j :: r, l => match hasK j l with
    | true => true
    | false => hasKs r l

def undoL : List Nat → List (Nat × Option Atom)
  | [] => []
  | j :: r => (j, none) :: undoL r

def SV.isAgg : SV → Bool
  | .agg _ => true
  | .v (.agg _) => true
  | _ => false

def skArgs (tab : Nat → Option TI) (M : List (Nat × Atom)) : List Nat → List SV → Option (List Sk × List Leaf)
  | ts, ss => match ss with
    | [] => some ([], [])
    | s :: r => match ts with
      | [] => none
      | t :: ts => match (match tab t with
          | some i => match i.agg with
            | true => match s.isAgg with
              | true => match skL tab M 100 i.cts s.cells with
                | some (x, l) => some (Sk.agg x, l)
                | none => none
              | false => none
            | false => skOf tab M 100 (headT i.cts) s
          | none => none) with
        | none => none
        | some (x, l) => match skArgs tab M ts r with
          | none => none
          | some (xs, l') => some (x :: xs, l ++ l')

def skExtra (tab : Nat → Option TI) (M : List (Nat × Atom)) (l : List SV) : Option (List Sk × List Leaf) := skL tab M 100 [] l

/-- An operand that is a number of the text. -/
def litOf : Operand → Option Nat
  | .const x => match x with
    | .int _ n => match n with
      | .ofNat m => some m
      | _ => none
    | _ => none
  | _ => none

mutual
/-- A value of this shape may share memory with others. -/
def Sk.refs : Sk → Bool
  | .int _ => false
  | .bool => false
  | .ro _ => true
  | .own _ t => tyRefs t
  | .box _ _ _ => true
  | .ref _ _ => true
  | .ptr _ _ => true
  | .fn _ a b => match refsL a with
    | true => true
    | false => refsL b
  | .agg cs => refsL cs
  | .tup cs => refsL cs
  | .nilp => false
  | .yf => true
def refsL : List Sk → Bool
  | [] => false
  | x :: r => match x.refs with
    | true => true
    | false => refsL r
end

mutual
/-- No key of a value may be written. -/
def SV.still (M : List (Nat × Atom)) : Nat → SV → Bool
  | 0, _ => false
  | d + 1, s => match s with
    | .v _ => true
    | .own j => match getM j M with
      | some (.ro _ _) => true
      | _ => false
    | .eptr j _ _ _ => match getM j M with
      | some (.rop cs) => stillL M d cs
      | _ => false
    | .ptr j _ => match getM j M with
      | some (.box cs _ false) => stillL M d cs
      | _ => false
    | .sl j _ _ _ => match getM j M with
      | some (.box cs _ false) => stillL M d cs
      | _ => false
    | .fn _ a b => match stillL M d a with
      | true => stillL M d b
      | false => false
    | .agg cs => stillL M d cs
    | _ => false
def stillL (M : List (Nat × Atom)) : Nat → List SV → Bool
  | 0, _ => false
  | d + 1, l => match l with
    | [] => true
    | s :: r => match s.still M d with
      | true => stillL M d r
      | false => false
end

/-- A slice of a box among cells: it is read only from here on. -/
def melt1 (M : List (Nat × Atom)) (key : Nat) (t : Option Ty) (s : SV) : Option (SV × List (Nat × Option Atom) × List Nat) :=
  match s, t with
  | .sl j off n q, some (.slice a) => match getM j M, Nat.ble n q with
    | some (.box cs ty _), true => match rowOf M false a n (dropN off cs) with
      | some l => some (.own key, [(key, some (.ro a l)), (j, some (.box cs ty false))], j :: ownK cs)
      | none => none
    | _, _ => none
  | _, _ => none
/-- Cells with no slices of boxes; what is set; the next key; what is read. -/
def meltL (M : List (Nat × Atom)) (key : Nat) : List (Option Ty) → List SV → List SV × List (Nat × Option Atom) × Nat × List Nat
  | ts, ss => match ss with
    | [] => ([], [], key, [])
    | s :: r => match meltL M key (tailT ts) r with
      | (r', u, n, rd) => match melt1 (updM M u) n (headT ts) s with
        | some (s', u', rd') => (s' :: r', u' ++ u, Nat.succ n, rd' ++ rd)
        | none => (s :: r', u, n, rd)

/-- A call: by what is told of the function at arguments of these shapes. -/
def callV (M : List (Nat × Atom)) (key : Nat) (g : Nat) (args : List SV) (sks : List Sk) (ls : List Leaf) (rd : List Nat) (full : Bool) (K : Res → Tree R) : Tree R :=
  match findO g sks V.O with
  | none => .fail
  | some s => match ofL (tysL s.args) ls, refsL s.res, stillL M 100 args with
    | none, _, _ => .fail
    | some _, true, false => .fail
    | some x, _, _ => .bind (s.f x) (dispR (fun sk ls => match sk.fill key ls with
      | some (sv, M', n, []) => match Nat.ble (n - key) 8 with
        | true => K ⟨sv, someU M', n - key, rd, full⟩
        | false => .fail
      | _ => .fail) s.res)

mutual
/-- The keys that a value leads to. -/
def rchS (M : List (Nat × Atom)) : Nat → SV → List Nat
  | 0, _ => []
  | d + 1, s => match s with
    | .own j => [j]
    | .ptr j _ => match getM j M with
      | some (.box cs _ _) => j :: rchL M d cs
      | _ => [j]
    | .xptr j _ _ _ _ => match getM j M with
      | some (.box cs _ _) => j :: rchL M d cs
      | _ => [j]
    | .sl j _ _ _ => match getM j M with
      | some (.box cs _ _) => j :: rchL M d cs
      | _ => [j]
    | .eptr j _ _ _ => match getM j M with
      | some (.rop cs) => j :: rchL M d cs
      | _ => [j]
    | .fn _ a b => rchL M d a ++ rchL M d b
    | .agg cs => rchL M d cs
    | .tup cs => rchL M d cs
    | .yf j => [j]
    | .v _ => []
def rchL (M : List (Nat × Atom)) : Nat → List SV → List Nat
  | 0, _ => []
  | d + 1, l => match l with
    | [] => []
    | s :: r => rchS M d s ++ rchL M d r
end
def memN (k : Nat) : List Nat → Bool
  | [] => false
  | x :: r => match Nat.beq x k with
    | true => true
    | false => memN k r
/-- The memory at some keys. -/
def restrM (ks : List Nat) : List (Nat × Atom) → List (Nat × Atom)
  | [] => []
  | (k, A) :: r => match memN k ks with
    | true => (k, A) :: restrM ks r
    | false => restrM ks r

mutual
/-- What is written no more, if a value is handed out for good. -/
def fzS (M : List (Nat × Atom)) : Nat → SV → List (Nat × Atom)
  | 0, _ => []
  | d + 1, s => match s with
    | .own j => match getM j M with
      | some (.own _ a l) => [(j, .ro a l)]
      | _ => []
    | .sl j _ _ _ => match getM j M with
      | some (.box cs t _) => (j, .box cs t false) :: fzL M d cs
      | _ => []
    | .ptr j _ => match getM j M with
      | some (.box cs t _) => (j, .box cs t false) :: fzL M d cs
      | _ => []
    | .eptr j _ _ _ => match getM j M with
      | some (.rop cs) => fzL M d cs
      | _ => []
    | .fn _ a b => fzL M d a ++ fzL M d b
    | .agg cs => fzL M d cs
    | .tup cs => fzL M d cs
    | _ => []
def fzL (M : List (Nat × Atom)) : Nat → List SV → List (Nat × Atom)
  | 0, _ => []
  | d + 1, l => match l with
    | [] => []
    | s :: r => fzS M d s ++ fzL M d r
end
/-- A call whose result may share memory with what it is handed: that is written no more. -/
def callZ (M : List (Nat × Atom)) (key : Nat) (g : Nat) (args : List SV) (mk : List (Nat × Atom) → Option (List Sk × List Leaf)) (K : Res → Tree R) : Tree R :=
  match mk (restrM (rchL M 100 args) M) with
  | none => .fail
  | some (sks, ls) => match findO g sks V.O with
    | none => callV V (restrM (rchL M 100 args) M) key g args sks ls (rchL M 100 args) false K
    | some s => match refsL s.res, stillL M 100 args with
      | true, false => match mk (updM M (someU (fzL M 100 args))) with
        | some (sks', ls') => callV V (updM M (someU (fzL M 100 args))) key g args sks' ls' [] true fun r => K ⟨r.sv, r.upd ++ someU (fzL M 100 args), r.nk, r.rd, true⟩
        | none => .fail
      | _, _ => callV V (restrM (rchL M 100 args) M) key g args sks ls (rchL M 100 args) false K

/-- A call of a function that writes into what it is handed. -/
def callM (M : List (Nat × Atom)) (key : Nat) (args : List SV) (K : Res → Tree R) : List MSpec → Tree R
  | [] => .fail
  | s :: r => match packL M s.args args ⟨[], [], 1, [], 0⟩ with
    | none => callM M key args K r
    | some p => match ofL (tysL s.args) p.lv.reverse with
      | none => .fail
      | some x => .bind (s.f x) (dispR (fun sk ls => match sk with
        | .tup sks => match fillL sks 0 ls with
          | some (svs, M2, n, []) => match lastS svs, Nat.ble n 8 with
            | some (ts, t), true => match zipK ts (mutS s.args args) with
              | some l => match backOK key ts t M2 l, allLtN key (renJ p.ren) with
                | true, true => K ⟨rnS (phi l key) t, someU (rnM (phi l key) M2) ++ (undoL (renJ p.ren) ++ someU (frzM M p.fz)), n, [], true⟩
                | _, _ => .fail
              | none => .fail
            | _, _ => .fail
          | _ => .fail
        | _ => .fail) s.res)

def eqInt (a b : Int) : Bool := decide (a = b)
def eqBool (a b : Bool) : Bool := a == b
/-- Equal, number by number. -/
def eqD : (t : Ty) → t.den → t.den → Bool
  | .int _, x, y => eqInt x y
  | .bool, x, y => eqBool x y
  | .prod a b, x, y => eqD a x.1 y.1 && eqD b x.2 y.2
  | .slice _, _, _ => false

/-- A call of yield: what comes next is yielded. -/
def yieldV (M : List (Nat × Atom)) (j : Nat) (args : List SV) (K : Res → Tree R) : Tree R :=
  match getM j M, leafL args with
  | some (.rnd t l), some ls => match unflat t ls, tyRefs t with
    | some (x, []), false => .ite (inB 0 l.length) (.ite (eqD t x (rd t.dflt l 0)) (K ⟨.v (.bool true), [(j, some (.rnd t (l.drop 1)))], 0, [], true⟩) .fail) .fail
    | _, _ => .fail
  | _, _ => .fail

def vmOp (key : Nat) (fr : List (Nat × SV)) (M : List (Nat × Atom)) (o : Op) (K : Res → Tree R) : Tree R :=
  match o with
  | .move x => match ev fr x with
    | some s => K (.val s)
    | none => .fail
  | .assign x => match ev fr x with
    | some s => K (.val s)
    | none => .fail
  | .pick x a b => match ev fr x with
    | some (.v (.bool t)) => match ev fr a, ev fr b with
      | some s, some s' => .ite t (K (.val s)) (K (.val s'))
      | _, _ => .fail
    | _ => .fail
  | .alloc t => match V.tab t with
    | some i => K ⟨.ptr key 0, [(key, some (.box (vals i.zero) t true))], 1, [], false⟩
    | none => .fail
  | .box t x => match ev fr x with
    | some s => K ⟨.ptr key 0, [(key, some (.box s.cells t true))], 1, [], false⟩
    | none => .fail
  | .load t a => match V.tab t with
    | none => .fail
    | some i => match ev fr a with
      | some (.ptr j off) => match getM j M with
        | some (.box cs _ _) => match i.agg with
          | true => match takeN i.size (dropN off cs) with
            | some l => K ⟨.agg l, [], 0, [j], false⟩
            | none => .fail
          | false => match nthN off cs with
            | some s => K ⟨s, [], 0, [j], false⟩
            | none => .fail
        | _ => .fail
      | some (.eptr j x k o) => match getM j M with
        | some (.ro t l) => match Nat.beq k t.size with
          | true => ldT key [j] i t l x o K
          | false => .fail
        | some (.own _ t l) => match Nat.beq k t.size with
          | true => ldT key [j] i t l x o K
          | false => .fail
        | some (.rop cs) => match k with
          | 0 => match i.agg with
            | true => match takeN i.size (dropN o cs) with
              | some l => K ⟨.agg l, [], 0, [j], false⟩
              | none => .fail
            | false => match nthN o cs with
              | some s => K ⟨s, [], 0, [j], false⟩
              | none => .fail
          | Nat.succ _ => match i.ty with
            | some t => ldT key (j :: ownK cs) i t (rowUp M t k (lenL cs) (dropN o cs)) x 0 K
            | none => .fail
        | _ => .fail
      | some (.xptr j off x k o) => match getM j M, i.ty with
        | some (.box cs _ _), some t => ldT key (j :: ownK cs) i t (rowUp M t k (lenL cs) (dropN (off + o) cs)) x 0 K
        | _, _ => .fail
      | _ => .fail
  | .store t a x => match V.tab t with
    | none => .fail
    | some i => match ev fr x with
      | none => .fail
      | some s => match allOne s.cells, Nat.beq (lenL s.cells) i.size, i.size with
        | true, true, Nat.succ _ => match ev fr a with
          | some (.ptr j off) => match getM j M with
            | some (.box cs ty true) => match setAt off s.cells cs with
              | some cs' => K ⟨.v undef, [(j, some (.box cs' ty true))], 0, [], false⟩
              | none => .fail
            | _ => .fail
          | some (.eptr j q k o) => match getM j M with
            | some (.own ty t l) => match Nat.beq k t.size, Nat.ble (o + i.size) t.size, leafL s.cells with
              | true, true, some ls => match unflat t (setL o ls (flat t (rd t.dflt l q))) with
                | some (e, []) => .ite (inB q l.length) (K ⟨.v undef, [(j, some (.own ty t (wr l q e)))], 0, [], false⟩) .fail
                | _ => .fail
              | _, _, _ => .fail
            | _ => .fail
          | _ => .fail
        | _, _, _ => .fail
  | .nilCheck x => match ev fr x with
    | some (.ptr j off) => K (.val (.ptr j off))
    | some (.eptr j i k o) => match k, getM j M with
      | 0, some (.rop _) => K ⟨.eptr j i 0 o, [], 0, [j], false⟩
      | _, _ => .fail
    | some (.fn f a b) => match f with
      | .func g => K (.val (.fn (.func g) a b))
      | _ => .fail
    | _ => .fail
  | .binOp op xt x y _ => match ev fr x with
    | some (.v (.int k a)) => match ev fr y with
      | some (.v (.int k' b)) => match op with
        | .shl => .ite (decide (0 ≤ b)) (K (.val (.v (.int k (ishl k a b))))) .fail
        | .shr => .ite (decide (0 ≤ b)) (K (.val (.v (.int k (ishr k a b))))) .fail
        | op => match decide (k = k') with
          | true => arithV op k a b fun s => K (.val s)
          | false => .fail
      | _ => .fail
    | some (.v (.bool a)) => match ev fr y with
      | some (.v (.bool b)) => match V.tab xt with
        | none => .fail
        | some i => match Nat.beq i.kind 4, op with
          | true, .eql => K (.val (.v (.bool (a == b))))
          | true, .neq => K (.val (.v (.bool (!(a == b)))))
          | _, _ => .fail
      | _ => .fail
    | some (.agg xs) => match ev fr y with
      | some (.agg ys) => match V.tab xt with
        | none => .fail
        | some i => match i.eq, leafL xs, leafL ys with
          | true, some us, some vs => match eqL us vs with
            | some c => match kindsL xs i.zero, kindsL ys i.zero with
              | true, true => match op with
                | .eql => K (.val (.v (.bool c)))
                | .neq => K (.val (.v (.bool (!c))))
                | _ => .fail
              | _, _ => .fail
            | none => .fail
          | _, _, _ => .fail
      | _ => .fail
    | _ => .fail
  | .unOp op _ x => match op with
    | .not => match ev fr x with
      | some (.v (.bool b)) => K (.val (.v (.bool (!b))))
      | _ => .fail
    | .neg => match ev fr x with
      | some (.v (.int k a)) => K (.val (.v (.int k (k.wrap (0 - a)))))
      | _ => .fail
    | _ => .fail
  | .fieldAddr s x f => match V.tab s with
    | none => .fail
    | some i => match Nat.beq i.kind 1, nth2 f i.fields with
      | true, some (off, Nat.succ _) => match ev fr x with
        | some (.ptr j q) => K (.val (.ptr j (q + off)))
        | some (.xptr j q x k o) => K (.val (.xptr j q x k (o + off)))
        | some (.eptr j x k o) => K (.val (.eptr j x k (o + off)))
        | _ => .fail
      | _, _ => .fail
  | .indexAddr t x q => match V.tab t with
    | none => .fail
    | some i => match ev fr q with
      | some (.v (.int _ n)) => match i.kind with
        | 2 => match ev fr x with
          | some (.ptr j off) => match litOf q with
            | some m => match Nat.blt m i.len with
              | true => K (.val (.ptr j (off + m * i.esize)))
              | false => .fail
            | none => .ite (inB n i.len) (K (.val (.xptr j off n i.esize 0))) .fail
          | some (.eptr j x 0 off) => .ite (inB n i.len) (K (.val (.eptr j n i.esize off))) .fail
          | some (.eptr j x (Nat.succ k) off) => match litOf q with
            | some m => match Nat.blt m i.len with
              | true => K (.val (.eptr j x (Nat.succ k) (off + m * i.esize)))
              | false => .fail
            | none => .fail
          | _ => .fail
        | 3 => match ev fr x with
          | some (.sl j off len _) => .ite (inB n len) (K (.val (.xptr j off n i.esize 0))) .fail
          | some (.own j) => match getM j M with
            | some (.ro t l) => .ite (inB n l.length) (K ⟨.eptr j n i.esize 0, [], 0, [j], false⟩) .fail
            | some (.own _ t l) => .ite (inB n l.length) (K ⟨.eptr j n i.esize 0, [], 0, [j], false⟩) .fail
            | _ => .fail
          | _ => .fail
        | _ => .fail
      | _ => .fail
  | .index t x q => match V.tab t with
    | none => .fail
    | some i => match ev fr q with
      | some (.v (.int _ n)) => match Nat.beq i.kind 2, V.tab i.elem with
        | true, some e => match ev fr x, e.agg, Nat.beq e.size 1 with
          | some (.agg cs), false, true => match litOf q with
            | some m => match Nat.blt m i.len, nthN m cs with
              | true, some s => K (.val s)
              | _, _ => .fail
            | none => match e.ty with
              | some (.int k) => match rowOf [] false (.int k) i.len cs with
                | some l => .ite (inB n l.length) (K (.val (.v (.int k (rd (α := Int) 0 l n))))) .fail
                | none => .fail
              | some .bool => match rowOf [] false .bool i.len cs with
                | some l => .ite (inB n l.length) (K (.val (.v (.bool (rd (α := Bool) false l n))))) .fail
                | none => .fail
              | _ => .fail
          | _, _, _ => .fail
        | _, _ => .fail
      | _ => .fail
  | .slice t x lo hi mx => match mx, V.tab t with
    | none, some i => match i.kind with
      | 2 => match ev fr x, lo, hi with
        | some (.ptr j off), none, some h => match ev fr h, getM j M, V.tab i.elem with
          | some (.v (.int _ b)), some (.box cs ty _), some e => match e.ty with
            | some t => match rowOf M false t i.len (dropN off cs) with
              | some l => .ite (decide (0 ≤ b) && decide (b ≤ (i.len : Int))) (K ⟨.own key, [(key, some (.ro t (l.take b.toNat))), (j, some (.box cs ty false))], 1, j :: ownK cs, false⟩) .fail
              | none => .fail
            | none => .fail
          | _, _, _ => .fail
        | some (.eptr j x 0 off), none, hi => match getM j M, V.tab i.elem with
          | some (.rop cs), some e => match e.ty, optV fr hi (i.len : Int) with
            | some t, some b => match rowOf M false t i.len (dropN off cs) with
              | some l => .ite (decide (0 ≤ b) && decide (b ≤ (i.len : Int))) (K ⟨.own key, [(key, some (.ro t (l.take b.toNat)))], 1, j :: ownK cs, false⟩) .fail
              | none => .fail
            | _, _ => .fail
          | _, _ => .fail
        | some (.ptr j off), none, none => K (.val (.sl j off i.len i.len))
        | _, _, _ => .fail
      | 3 => match ev fr x with
        | some (.own j) => match getM j M with
          | some (.ro t l) => match optV fr lo (0 : Int), optV fr hi (l.length : Int) with
            | some a, some b => match Nat.beq i.esize t.size with
              | true => .ite (decide (0 ≤ a) && decide (a ≤ b) && decide (b ≤ (l.length : Int))) (K ⟨.own key, [(key, some (.ro t ((l.take b.toNat).drop a.toNat)))], 1, [j], false⟩) .fail
              | false => .fail
            | _, _ => .fail
          | some (.own ty t l) => match lo, hi with
            | none, some h => match ev fr h with
              | some (.v (.int _ b)) => .ite (decide (0 ≤ b) && decide (b ≤ (l.length : Int))) (K ⟨.own key, [(key, some (.own ty t (l.take b.toNat))), (j, none)], 1, [j], false⟩) .fail
              | _ => .fail
            | _, _ => .fail
          | _ => .fail
        | _ => .fail
      | _ => .fail
    | _, _ => .fail
  | .extract x n => match ev fr x with
    | some (.tup cs) => match nthN n cs with
      | some s => K (.val s)
      | none => .fail
    | _ => .fail
  | .makeFunc f a b => match evL fr a.toList, evL fr b.toList with
    | some x, some y => K (.val (.fn f x y))
    | _, _ => .fail
  | .build t parts => match V.tab t with
    | none => .fail
    | some i => match i.kind with
      | 1 => bldV fr (fun f => nth2 f i.fields) (vals i.zero) parts.toList fun l => K (.val (.agg l))
      | 2 => bldV fr (fun f => some (f * i.esize, i.esize)) (vals i.zero) parts.toList fun l => K (.val (.agg l))
      | _ => .fail
  | .buildSlice t len parts => match V.tab t with
    | none => .fail
    | some i => match Nat.beq i.kind 3, V.tab i.elem with
      | true, some e => match Nat.ble (len * i.esize) 1000 with
        | true => bldV fr (fun f => some (f * i.esize, i.esize)) (vals (List.replicate len e.zero).flatten) parts.toList fun l => match meltL M (key + 1) (List.replicate len e.cts).flatten l with
          | (l', u, n, rd) => match Nat.ble (n - key) 8 with
            | true => K ⟨.sl key 0 len len, (key, some (.box l' i.elem true)) :: u, n - key, rd, false⟩
            | false => .fail
        | false => .fail
      | _, _ => .fail
  | .makeSlice t n m => match V.tab t with
    | none => .fail
    | some i => match Nat.beq i.kind 3, V.tab i.elem with
      | true, some e => match e.ty with
        | some t => match ev fr n with
          | some (.v (.int .i64 x)) => match ev fr m with
            | some (.v (.int .i64 y)) => .ite (decide (x = y) && decide (0 ≤ x) && room x.toNat e.bytes) (K ⟨.own key, [(key, some (.own i.elem t (List.replicate x.toNat t.dflt)))], 1, [], false⟩) .fail
            | _ => .fail
          | _ => .fail
        | none => .fail
      | _, _ => .fail
  | .convert src dst x => match V.tab src, V.tab dst, ev fr x with
    | some _, some i, some (.v (.int _ a)) => match i.kind with
      | 10 => K (.val (.v (.int .i64 (IntKind.wrap .i64 a))))
      | 11 => K (.val (.v (.int .u64 (IntKind.wrap .u64 a))))
      | _ => .fail
    | _, _, _ => .fail
  | .call cl => match cl.callee with
    | .builtin b => match evL fr cl.args.toList with
      | none => .fail
      | some args => match b with
        | .len => match cl.argTypes.toList with
          | [t] => match V.tab t with
            | some i => match Nat.beq i.kind 3 with
              | true => match args with
                | [.own j] => match getM j M with
                  | some (.ro _ l) => K ⟨.v (.int .i64 (l.length : Int)), [], 0, [j], false⟩
                  | some (.own _ _ l) => K ⟨.v (.int .i64 (l.length : Int)), [], 0, [j], false⟩
                  | _ => .fail
                | [.sl _ _ n _] => K (.val (.v (.int .i64 (n : Int))))
                | [.v (.slice _ n _)] => K (.val (.v (.int .i64 (n : Int))))
                | _ => .fail
              | false => .fail
            | none => .fail
          | _ => .fail
        | .min => match args with
          | [.v (.int k a), .v (.int _ b)] => K (.val (.v (.int k (mn a b))))
          | _ => .fail
        | .max => match args with
          | [.v (.int k a), .v (.int _ b)] => K (.val (.v (.int k (VM.mx a b))))
          | _ => .fail
        | .append => match cl.argTypes.toList, args with
          | [t, u], [d, s] => match Nat.beq t u, V.tab t with
            | true, some i => match Nat.beq i.kind 3, V.tab i.elem with
              | true, some e => match e.ty with
                | some t => match dstOf M i.elem t d, srcOf' M t s with
                  | some (l, ks, r1), some (xs, r2, fz) => match hasKs r1 fz with
                    | false => .ite (room (l ++ xs).length e.bytes) (K ⟨.own key, (key, some (.own i.elem t (l ++ xs))) :: (undoL ks ++ someU fz), 1, r1 ++ r2, false⟩) .fail
                    | true => .fail
                  | _, _ => .fail
                | none => .fail
              | _, _ => .fail
            | _, _ => .fail
          | _, _ => .fail
        | _ => .fail
    | .value f => match ev fr f, evL fr cl.args.toList with
      | some (.v (.func (.func g) a b)), some args => match a.toList, b.toList with
        | [], [] => match findM g V.MS with
          | [] => callZ V M key g args (fun M => skArgs V.tab M cl.argTypes.toList args) K
          | l => callM M key args K l
        | _, _ => .fail
      | some (.yf j), some args => yieldV M j args K
      | some (.fn (.func g) a b), some args => match findM g V.MS with
        | _ :: _ => callM M key (a ++ args ++ b) K (findM g V.MS)
        | [] => callZ V M key g (a ++ args ++ b) (fun M => match skExtra V.tab M a, skArgs V.tab M cl.argTypes.toList args, skExtra V.tab M b with
        | some (x, l), some (y, q), some (z, r) => some (x ++ y ++ z, l ++ q ++ r)
        | _, _, _ => none) K
      | _, _ => .fail
    | _ => .fail
  | _ => .fail
where
  optV (fr : List (Nat × SV)) (x : Option Operand) (d : Int) : Option Int :=
    match x with
    | none => some d
    | some x => match ev fr x with
      | some (.v (.int _ b)) => some b
      | _ => none
  bldV (fr : List (Nat × SV)) (place : Nat → Option (Nat × Nat)) (cs : List SV) (parts : List (Nat × Operand)) (K : List SV → Tree R) : Tree R :=
    match parts with
    | [] => K cs
    | (f, x) :: r => match ev fr x, place f with
      | some s, some (off, sz) => match Nat.beq (lenL s.cells) sz, sz with
        | true, Nat.succ _ => match setAt off s.cells cs with
          | some cs' => bldV fr place cs' r K
          | none => .fail
        | _, _ => .fail
      | _, _ => .fail

/-- A bool that is computed is parted at once. -/
def part (K : Res → Tree R) (r : Res) : Tree R :=
  match r.sv with
  | .v (.bool b) => .ite b (K { r with sv := .v (.bool true) }) (K { r with sv := .v (.bool false) })
  | _ => K r

def vmOps (all : List Oper) : List Oper → Nat → List (Nat × SV) → List (Nat × Atom) → List Fp → (List (Nat × SV) → List (Nat × Atom) → List Fp → Tree R) → Tree R
  | [], _, fr, M, tr, K => K fr M tr
  | o :: rest, key, fr, M, tr, K =>
    match o.guard with
    | none => vmOp V key fr M o.op (part fun r => vmOps all rest (key + 8) (putF o.dst r.sv fr) (updM M r.upd) (⟨r.rd, keysU r.upd, r.full⟩ :: tr) K)
    | some (j, want) => match (all[j]?).bind (·.dst) with
      | none => .fail
      | some t => match look t fr with
        | some (.v (.bool b)) => match want with
          | true => .ite b (vmOp V key fr M o.op (part fun r => vmOps all rest (key + 8) (putF o.dst r.sv fr) (updM M r.upd) (⟨r.rd, keysU r.upd, r.full⟩ :: tr) K)) (vmOps all rest (key + 8) (putF o.dst (.v undef) fr) M (⟨[], [], false⟩ :: tr) K)
          | false => .ite b (vmOps all rest (key + 8) (putF o.dst (.v undef) fr) M (⟨[], [], false⟩ :: tr) K) (vmOp V key fr M o.op (part fun r => vmOps all rest (key + 8) (putF o.dst r.sv fr) (updM M r.upd) (⟨r.rd, keysU r.upd, r.full⟩ :: tr) K))
        | some (.v _) => vmOps all rest (key + 8) (putF o.dst (.v undef) fr) M (⟨[], [], false⟩ :: tr) K
        | _ => .fail

def nl : Code → Nat
  | .seq a b => nl a + nl b
  | .cond _ a b => nl a + nl b
  | .block _ a => nl a
  | .loop a => nl a + 1
  | .rangeFunc _ _ a b => nl a + nl b + 1
  | _ => 0

def nthS : Nat → List LSpec → Option LSpec
  | 0, l => match l with
    | [] => none
    | x :: _ => some x
  | n + 1, l => match l with
    | [] => none
    | _ :: r => nthS n r

/-- A loop's answer. -/
def disp (K : Exit → St → Tree R) : (ex : List (Exit × HS)) → LR ex → Tree R
  | [], _ => .fail
  | [(e, h)], r => match fillS h r with
    | some st => K e st
    | none => .fail
  | (e, h) :: y :: q, r => .case r (fun x => match fillS h x with
    | some st => K e st
    | none => .fail) fun r => disp K (y :: q) r

def lenN : List Nat → Nat
  | [] => 0
  | _ :: r => Nat.succ (lenN r)
def elemN (k : Nat) : List Nat → Bool
  | [] => false
  | x :: r => match Nat.beq x k with
    | true => true
    | false => elemN k r
def nodupN : List Nat → Bool
  | [] => true
  | x :: r => match elemN x r with
    | true => false
    | false => nodupN r
def addP (l : List PK) (x : PK) : List PK := match l with
  | [] => [x]
  | y :: r => y :: addP r x
def noPin : List PK → Bool
  | [] => true
  | x :: r => match x with
    | .pin => false
    | _ => noPin r
def hasR : Code → Bool
  | .seq a b => match hasR a with
    | true => true
    | false => hasR b
  | .cond _ a b => match hasR a with
    | true => true
    | false => hasR b
  | .block _ a => hasR a
  | .loop a => hasR a
  | .rangeFunc _ _ _ _ => true
  | _ => false
def keptOK (w : List Nat) : List (Nat × Sk) → Bool
  | [] => true
  | (t, _) :: r => match elemN t w with
    | true => false
    | false => keptOK w r
def allMark (M : List (Nat × Atom)) : List Nat → Bool
  | [] => true
  | k :: r => match getM k M with
    | some .mark => allMark M r
    | _ => false

/-- What a range over a function asks of its text. -/
def rangeOK (ps : List Nat) (a b : Code) (hd : HS) (t : Ty) : Bool :=
  match Nat.beq (lenN ps) t.size, nodupN ps, noPin hd.pins, Nat.blt (lenP hd.pins) 8, tyRefs t with
  | true, true, true, true, false => match hasR a, hasR b, keptOK (ps ++ wrs a ++ wrs b) hd.slots with
    | false, false, true => true
    | _, _, _ => false
  | _, _, _, _, _ => false

/-- What is ranged over. -/
def rangeI (st : St) (g : Option SV) (t : Ty) (K : List t.den → Tree R) : Tree R :=
  match g with
  | some (.fn (.func gf) first caps) => match skExtra V.tab st.M first, skExtra V.tab st.M caps, stillL st.M 100 first, stillL st.M 100 caps with
    | some (x, l), some (y, q), true, true => match findI gf x y V.I with
      | some s => match ofL (tysL (s.first ++ s.caps)) (l ++ q) with
        | some z => .bind (s.f z) fun l => match (Leaf.sl s.t l).as (.slice t) with
          | some l => K l
          | none => .fail
        | none => .fail
      | none => .fail
    | _, _, _, _ => .fail
  | _ => .fail

def vmCode (L : List LSpec) : Code → Nat → St → (Exit → St → Tree R) → Tree R
  | .skip, _, st, K => K .normal st
  | .label _, _, st, K => K .normal st
  | .ret, _, st, K => K .ret st
  | .exit n, _, st, K => K (.exit n) st
  | .region _ ops draw, _, st, K => vmOps V ops.toList ops.toList st.next st.fr st.M [] fun fr M tr => match draw with
    | false => K .normal ⟨fr, M, st.next + 8 * lenO ops.toList, st.mks⟩
    | true => .ite (ordOK ops.toList tr) (K .normal ⟨fr, M, st.next + 8 * lenO ops.toList, st.mks⟩) .fail
  | .seq a b, i, st, K => vmCode L a i st fun e st' => match e with
    | .normal => vmCode L b (i + nl a) st' K
    | e => K e st'
  | .cond x a b, i, st, K => match ev st.fr x with
    | some (.v (.bool t)) => .ite t (vmCode L a i st K) (vmCode L b (i + nl a) st K)
    | _ => .fail
  | .block n a, i, st, K => vmCode L a i st fun e st' => match e with
    | .exit m => match Nat.beq m n with
      | true => K .normal st'
      | false => K (.exit m) st'
    | e => K e st'
  | .loop a, i, st, K => match nthS i L with
    | some (.loop hd ex f) => match packS hd st with
      | some x => .bind (f x) (disp K ex)
      | none => .fail
    | _ => .fail
  | .rangeFunc g ps a b, i, st, K => match nthS i L with
    | some (.range hd t f) => match packS hd st with
      | some x => match fillS hd x, rangeOK ps.toList a b hd t with
        | some st1, true => rangeI V st1 (ev st1.fr g) t fun l => .bind (f l x) fun y => match fillQ (addP hd.pins .mark) hd.slots (toL hd.tys y) (lenP hd.pins :: hd.mks) with
          | some st2 => K .normal st2
          | none => .fail
        | _, _ => .fail
      | none => .fail
    | _ => .fail
  | _, _, _, _ => .fail
where
  lenO : List Oper → Nat
  | [] => 0
  | _ :: r => Nat.succ (lenO r)

/-- A function's results, packed. -/
def packR (M : List (Nat × Atom)) (s : SV) (x : Sk) : Option (pt x.tys) := match x.pack M s ⟨[], [], 0, [], 0⟩ with
  | some p => ofL x.tys p.lv.reverse
  | none => none
def resAlt (M : List (Nat × Atom)) (s : SV) : (res : List Sk) → Option (RT res)
  | [] => none
  | [x] => packR M s x
  | x :: y :: q => match packR M s x with
    | some a => some (.inl a)
    | none => match resAlt M s (y :: q) with
      | some r => some (.inr r)
      | none => none
def resV (res : List Sk) (fr : List (Nat × SV)) (M : List (Nat × Atom)) (rs : List ResultVar) : Tree (RT res) :=
  match resOf V.tab fr M rs with
  | none => .fail
  | some l => match resAlt M (match l with
      | [s] => s
      | l => .tup l) res with
    | none => .fail
    | some x => .ret x

/-- The marks of the ranges over functions are struck. -/
def closeM : List Nat → List (Nat × Atom) → Option (List (Nat × Atom))
  | [], M => some M
  | k :: r, M => match getM k M with
    | some .mark => closeM r (erM k M)
    | _ => none

def argsF' : Nat → List SV → List (Nat × SV)
  | _, [] => []
  | n, s :: r => (n, s) :: argsF' (n + 1) r

def resC (res : List Sk) (st : St) (rs : List ResultVar) : Tree (RT res) := match closeM st.mks st.M with
  | some M => resV V res st.fr M rs
  | none => .fail

def vmFun (L : List LSpec) (code : Code) (rs : List ResultVar) (args : List Sk) (res : List Sk) (x : pt (tysL args)) : Tree (RT res) :=
  match fillL args 0 (toL (tysL args) x) with
  | some (ss, M, n, []) => vmCode V L code 0 ⟨argsF' 0 ss, M, n, []⟩ fun e st => match e with
    | .normal => resC V res st rs
    | .ret => resC V res st rs
    | _ => .fail
  | _ => .fail

/-- The arguments that may be written, by their slots. -/
def mutT : Nat → List Sk → List Nat
  | _, [] => []
  | t, x :: r => match x.isMut with
    | true => t :: mutT (t + 1) r
    | false => mutT (t + 1) r
def lookT (fr : List (Nat × SV)) : List Nat → Option (List SV)
  | [] => some []
  | t :: r => match look t fr, lookT fr r with
    | some s, some l => some (s :: l)
    | _, _ => none
def noneIn (w : List Nat) : List Nat → Bool
  | [] => true
  | t :: r => match elemN t w with
    | true => false
    | false => noneIn w r
def appS : List SV → SV → List SV
  | [], y => [y]
  | x :: r, y => x :: appS r y
def resM (args res : List Sk) (st : St) (rs : List ResultVar) : Tree (RT res) := match closeM st.mks st.M with
  | some M => match getM 0 M, resOf V.tab st.fr M rs, lookT st.fr (mutT 0 args) with
    | some .pin, some l, some ms => match resAlt M (.tup (appS ms (match l with
        | [s] => s
        | l => .tup l))) res with
      | some x => .ret x
      | none => .fail
    | _, _, _ => .fail
  | none => .fail
def vmFunM (L : List LSpec) (code : Code) (rs : List ResultVar) (args : List Sk) (res : List Sk) (x : pt (tysL args)) : Tree (RT res) :=
  match fillL args 1 (toL (tysL args) x) with
  | some (ss, M, n, []) => vmCode V L code 0 ⟨argsF' 0 ss, (0, .pin) :: M, n, []⟩ fun e st => match e with
    | .normal => resM V args res st rs
    | .ret => resM V args res st rs
    | _ => .fail
  | _ => .fail

def lenS : List SV → Nat
  | [] => 0
  | _ :: r => Nat.succ (lenS r)

/-- An iterator: whether it yields just l. -/
def vmIter (L : List LSpec) (code : Code) (rs : List ResultVar) (first caps : List Sk) (t : Ty) (x : pt (tysL (first ++ caps))) (l : List t.den) : Tree Unit :=
  match fillL (first ++ caps) 1 (toL (tysL (first ++ caps)) x) with
  | some (ss, M, n, []) => vmCode V L code 0 ⟨argsF' 0 (takeS (lenK first) ss ++ .yf 0 :: dropN (lenK first) ss), (0, .rnd t l) :: M, n, []⟩ fun e st => match e with
    | .normal => doneI st rs
    | .ret => doneI st rs
    | _ => .fail
  | _ => .fail
where
  lenK : List Sk → Nat
  | [] => 0
  | _ :: r => Nat.succ (lenK r)
  takeS : Nat → List SV → List SV
  | 0, _ => []
  | n + 1, l => match l with
    | [] => []
    | x :: r => x :: takeS n r
  doneI (st : St) (rs : List ResultVar) : Tree Unit := match closeM st.mks st.M, rs with
    | some M, [] => match getM 0 M with
      | some (.rnd _ l) => .ite (decide (l.length = 0)) (.ret ()) .fail
      | _ => .fail
    | _, _ => .fail

/-- The body of a loop: on to the next round, or out. -/
def exitO (hs : List (Exit × HS)) (e : Exit) (st : St) : Option (LR hs) :=
  match hs with
  | [] => none
  | [(e', h)] => match exEq e e' with
    | true => packS h st
    | false => none
  | (e', h) :: y :: q => match exEq e e', packS h st with
    | true, some x => some (.inl x)
    | _, _ => match exitO (y :: q) e st with
      | some r => some (.inr r)
      | none => none

def vmBody (L : List LSpec) (code : Code) (i : Nat) (hd : HS) (ex : List (Exit × HS)) (next : pt hd.tys → Option (LR ex)) (x : pt hd.tys) : Tree (LR ex) :=
  match fillS hd x with
  | some st => vmCode V L code i st fun e st' => match e with
    | .normal => match packS hd st' with
      | some y => .opt (next y)
      | none => .fail
    | e => match exitO ex e st' with
      | some r => .ret r
      | none => .fail
  | none => .fail

def zipY : List Nat → List Leaf → List (Nat × SV) → List (Nat × SV)
  | t :: ts, x :: xs, fr => (t, .v (match x with
    | .int k z => .int k z
    | .bool b => .bool b
    | .sl _ _ => undef)) :: zipY ts xs fr
  | _, _, fr => fr

/-- A round of a range over a function; a: before the body, b: the body. -/
def vmRound (L : List LSpec) (a b : Code) (i : Nat) (ps : List Nat) (hd : HS) (t : Ty) (next : pt hd.tys → Option (pt hd.tys)) (y : t.den) (x : pt hd.tys) : Tree (pt hd.tys) :=
  match fillQ (addP hd.pins .pin) hd.slots (toL hd.tys x) [] with
  | some st => vmCode V L a i ⟨zipY ps (flat t y) st.fr, st.M, st.next, []⟩ fun e st1 => match e with
    | .normal => match getM (lenP hd.pins) st1.M with
      | some .pin => vmCode V L b (i + nl a) st1 fun e st2 => match e with
        | .normal => match getM (lenP hd.pins) st2.M, allMark st2.M hd.mks with
          | some .pin, true => match packS ⟨hd.pins, [], hd.slots⟩ st2 with
            | some y => .opt (next y)
            | none => .fail
          | _, _ => .fail
        | _ => .fail
      | _ => .fail
    | _ => .fail
  | none => .fail
end
end Go.VM

/-
The operations, first part: values, boxes, loads from boxes.
-/
set_option linter.unusedVariables false
set_option linter.unusedSimpArgs false
namespace Go.VM
open Go.RowKit


/-- The zero cells of plain data. -/
def zeroV : Ty → List Value
  | .int k => [.int k 0]
  | .bool => [.bool false]
  | .prod a b => zeroV a ++ zeroV b
  | .slice _ => [.slice none 0 0]

/-- The table of types tells the program's types. -/
structure TabOK (tab : Nat → Option TI) (P : Program) : Prop where
  info : ∀ t i, tab t = some i → ∃ I, P.info? t = some I ∧ I.size = i.size ∧ I.bytes = i.bytes ∧ ∃ z, I.zero = some z ∧ z.cells = i.zero.toArray
  zlen : ∀ t i, tab t = some i → i.zero.length = i.size
  agg : ∀ t i, tab t = some i → ∀ w, (isAgg t).run P w = .ok i.agg w
  und : ∀ t i, tab t = some i → ∃ d, P.underlying t = some d
  struct : ∀ t i, tab t = some i → i.kind = 1 → ∃ fs, P.underlying t = some (.struct fs) ∧ (fs.toList.mapM fun f => (P.info? f.type).map fun i => (f.offset, i.size)) = some i.fields
  arr : ∀ t i, tab t = some i → i.kind = 2 → P.underlying t = some (.array i.len i.elem) ∧ (P.info? i.elem).map (·.size) = some i.esize
  slice : ∀ t i, tab t = some i → i.kind = 3 → P.underlying t = some (.slice i.elem) ∧ (P.info? i.elem).map (·.size) = some i.esize
  bool : ∀ t i, tab t = some i → i.kind = 4 → P.underlying t = some .bool
  i64 : ∀ t i, tab t = some i → i.kind = 10 → P.underlying t = some (.int .i64)
  u64 : ∀ t i, tab t = some i → i.kind = 11 → P.underlying t = some (.int .u64)
  eq : ∀ t i, tab t = some i → i.eq = true → ∀ us vs, kindsOK us i.zero = true → kindsOK vs i.zero = true → ∀ w, ∃ b, (Op.equal t (.agg us.toArray) (.agg vs.toArray)).run P w = .ok b w ∧ (b = true ↔ us = vs)
  eqg : ∀ t i, tab t = some i → i.eq = true → P.eqGuardType P.depth t = false
  tyz : ∀ t i T, tab t = some i → i.ty = some T → T.size = i.size ∧ i.zero = zeroV T

theorem info_of {tab : Nat → Option TI} {P : Program} (hT : TabOK tab P) {t : Nat} {i : TI} (h : tab t = some i) : (P.info? t).map (·.size) = some i.size := by
  obtain ⟨I, h1, h2, _⟩ := hT.info t i h
  simp [h1, h2]
theorem cellsOf_of {tab : Nat → Option TI} {P : Program} (hT : TabOK tab P) {t : Nat} {i : TI} (h : tab t = some i) : P.cellsOf t = i.size := by
  simp [Program.cellsOf, info_of hT h]

/-- What an operation does, in every memory that agrees with this one on what it touches. -/
def OpOK (P : Program) (c : Ctx) (key : Nat) (o : Oper) (fr : List (Nat × SV)) (M : List (Nat × Atom)) (r : Res) : Prop :=
  r.nk ≤ 8 ∧
  ∀ (E : Env) (p : Nat → Prop) (a : Act) (W : World) (g : Nat → Option Atom), SatM c E p g W → (∀ k, (r.full = true ∨ k ∈ r.rd ∨ k ∈ keysU r.upd) → ¬ (key ≤ k ∧ k < key + 8) → g k = getM k M) → (∀ q, q < 8 → ¬ p (key + q)) →
    (∀ x, x ∈ o.op.operands.toList → ∀ s, ev fr x = some s → s.ok p ∧ a.eval x = den E s) →
    ∀ (next : Act → World → Prop) (Q : Exit → Act → World → Prop),
      (∀ E' W', Agree p E E' → SatM c E' (fun k => p k ∨ key ≤ k ∧ k < key + r.nk) (gUpd g r.upd) W' → r.sv.ok (fun k => p k ∨ key ≤ k ∧ k < key + r.nk) → next (a.put o.dst (den E' r.sv)) W') →
      o.wpIn c.F 9 P a W next Q

theorem Ctx.fn (c : Ctx) (f : FuncId) : c.F.fn f := trivial
theorem Ctx.depth (c : Ctx) : c.F.depth = none := rfl
theorem semAt_of {P : Program} {o : Oper} {ro : Option Nat} {ρ : Operand → Value} {W W' : World} {x : Next} (hd : ∀ d, x ≠ .defer d) (h : (execOp ρ o).run P W = .ok x W') : (o.semAt ro ρ).run P W = .ok x W' := by
  by_cases hc : ∃ cl, o.op = .defer cl
  · obtain ⟨cl, hc⟩ := hc
    simp only [execOp, hc, Sem.run_bind] at h
    cases hr : (resolve ρ cl o.type).run P W with
    | ok d w =>
      rw [hr] at h
      simp at h
      exact absurd h.1.symm (hd d)
    | halt e w =>
      rw [hr] at h
      simp at h
  · rw [Oper.semAt_eq ro ρ o fun cl e => hc ⟨cl, e⟩]
    exact h

theorem wp_val {P : Program} {c : Ctx} {o : Oper} {a : Act} {W W' : World} {v : Value} {next : Act → World → Prop} {Q : Exit → Act → World → Prop}
    (h : (execOp a.eval o).run P W = .ok (.value v) W') (hn : next (a.put o.dst v) W') : o.wpIn c.F 9 P a W next Q := by
  refine ⟨fun f _ => trivial, ?_⟩
  rw [semAt_of (by simp) h]
  exact hn
theorem wp_skip' {P : Program} {c : Ctx} {o : Oper} {a : Act} {W W' : World} {next : Act → World → Prop} {Q : Exit → Act → World → Prop}
    (h : (execOp a.eval o).run P W = .ok .skip W') (hn : next (a.put o.dst undef) W') : o.wpIn c.F 9 P a W next Q := by
  refine ⟨fun f _ => trivial, ?_⟩
  rw [semAt_of (by simp) h]
  exact hn

theorem or_nk0 {p : Nat → Prop} {key : Nat} : (fun k => p k ∨ key ≤ k ∧ k < key + 0) = p := by
  funext k
  exact propext ⟨fun h => h.resolve_right (by omega), .inl⟩

/-- An operation that only yields a value: from its run. -/
theorem OpOK.val {P : Program} {c : Ctx} {key : Nat} {o : Oper} {fr : List (Nat × SV)} {M : List (Nat × Atom)} {s : SV} {rd : List Nat}
    (h : ∀ (E : Env) (p : Nat → Prop) (a : Act) (W : World) (g : Nat → Option Atom), SatM c E p g W → (∀ k, k ∈ rd → ¬ (key ≤ k ∧ k < key + 8) → g k = getM k M) → (∀ q, q < 8 → ¬ p (key + q)) →
      (∀ x, x ∈ o.op.operands.toList → ∀ s, ev fr x = some s → s.ok p ∧ a.eval x = den E s) → s.ok p ∧ (execOp a.eval o).run P W = .ok (.value (den E s)) W) :
    OpOK P c key o fr M ⟨s, [], 0, rd, false⟩ := by
  refine ⟨Nat.zero_le _, fun E p a W g hM hg hk ho next Q hn => ?_⟩
  obtain ⟨h1, h2⟩ := h E p a W g hM (fun k hk => hg k (by simp [hk])) hk ho
  refine wp_val h2 (hn E W (Agree.refl p E) ?_ ?_)
  · simpa only [or_nk0, gUpd] using hM
  · simpa only [or_nk0] using h1

/-- As it is met: nothing read. -/
theorem OpOK.pure {P : Program} {c : Ctx} {key : Nat} {o : Oper} {fr : List (Nat × SV)} {M : List (Nat × Atom)} {s : SV}
    (h : ∀ (E : Env) (p : Nat → Prop) (a : Act) (W : World), c.S = c.S → (Fr c.S c.w0 W) → (∀ x, x ∈ o.op.operands.toList → ∀ s, ev fr x = some s → s.ok p ∧ a.eval x = den E s) → s.ok p ∧ (execOp a.eval o).run P W = .ok (.value (den E s)) W) :
    OpOK P c key o fr M (.val s) :=
  OpOK.val fun E p a W g hM _ _ ho => h E p a W rfl hM.fr ho

section
variable {tab : Nat → Option TI} {P : Program} {c : Ctx} {key : Nat} {fr : List (Nat × SV)} {M : List (Nat × Atom)} {K : Res → Prop} {o : Oper}

theorem snd_move {x : Operand} (ho : o.op = .move x ∨ o.op = .assign x) {s : SV} (hs : ev fr x = some s) : OpOK P c key o fr M (.val s) :=
  .pure fun E p a W _ _ hop => by
    have hx : x ∈ o.op.operands.toList := by rcases ho with h | h <;> simp [h, Op.operands]
    obtain ⟨h1, h2⟩ := hop x hx s hs
    refine ⟨h1, ?_⟩
    rcases ho with h | h <;> simp [execOp, h, h2]

theorem snd_pick {x y z : Operand} (ho : o.op = .pick x y z) {b : Bool} (hb : ev fr x = some (.v (.bool b))) {s : SV} (hs : ev fr (if b then y else z) = some s) : OpOK P c key o fr M (.val s) :=
  .pure fun E p a W _ _ hop => by
    have h1 := (hop x (by simp [ho, Op.operands]) _ hb).2
    simp only [den] at h1
    cases b with
    | true =>
      obtain ⟨h2, h3⟩ := hop y (by simp [ho, Op.operands]) s hs
      exact ⟨h2, by simp [execOp, ho, h1, asBool, h3]⟩
    | false =>
      obtain ⟨h2, h3⟩ := hop z (by simp [ho, Op.operands]) s hs
      exact ⟨h2, by simp [execOp, ho, h1, asBool, h3]⟩


/-- Memory that is made: a new block. -/
theorem snd_box {x : Operand} {t : Nat} (ho : o.op = .box t x) {s : SV} (hs : ev fr x = some s) (hcells : ∀ E, (den E s).cells = (denL E s.cells).toArray) (hok : ∀ p, s.ok p → okL p s.cells) :
    OpOK P c key o fr M ⟨.ptr key 0, [(key, some (.box s.cells t true))], 1, [], false⟩ := by
  refine ⟨by simp, fun E p a W g hM _ hk hop next Q hn => ?_⟩
  obtain ⟨h1, h2⟩ := hop x (by simp [ho, Op.operands]) s hs
  have hk0 : ¬ p key := hk 0 (by omega)
  refine wp_val (v := .pointer (some ⟨W.heap.size, 0, none⟩)) (W' := W.alloc (.cells (denL E s.cells).toArray t)) ?_ ?_
  · simp [execOp, ho, h2, Instr.box, newVar, newRow, hcells E]
  · have := hn _ _ (agree_setBlk (b := W.heap.size) hk0) (hM.newBox hk0 s.cells (hok p h1) t) (by exact .inr ⟨Nat.le_refl _, Nat.lt_succ_self _⟩)
    simpa [den, Env.setBlk] using this

theorem snd_alloc {t : Nat} (hT : TabOK tab P) (ho : o.op = .alloc t) {i : TI} (hi : tab t = some i) :
    OpOK P c key o fr M ⟨.ptr key 0, [(key, some (.box (vals i.zero) t true))], 1, [], false⟩ := by
  refine ⟨by simp, fun E p a W g hM _ hk hop next Q hn => ?_⟩
  obtain ⟨I, h1, _, _, z, hz, hzc⟩ := hT.info t i hi
  have hk0 : ¬ p key := hk 0 (by omega)
  refine wp_val (v := .pointer (some ⟨W.heap.size, 0, none⟩)) (W' := W.alloc (.cells (denL E (vals i.zero)).toArray t)) ?_ ?_
  · simp [execOp, ho, Instr.alloc, zeroValue, run_typeInfo W h1, hz, newVar, newRow, hzc, denL_vals]
  · have := hn _ _ (agree_setBlk (b := W.heap.size) hk0) (hM.newBox hk0 (vals i.zero) (okL_vals p _) t) (by exact .inr ⟨Nat.le_refl _, Nat.lt_succ_self _⟩)
    simpa [den, Env.setBlk] using this

/-! ### Cells -/
theorem cell_of_heap {W : World} {b off : Nat} {cs : List Value} {t : Nat} (h : W.heap[b]? = some (.cells cs.toArray t (0, 0))) : W.cell? ⟨b, off, none⟩ = cs[off]? := by
  simp [World.cell?, h]
theorem frozen_of_heap {W : World} {b off : Nat} {cs : List Value} {t : Nat} (h : W.heap[b]? = some (.cells cs.toArray t (0, 0))) : W.frozen? ⟨b, off, none⟩ = false := by
  simp [World.frozen?, h]

/-- A variable is read, cell by cell. -/
theorem run_loadVar_agg (hT : TabOK tab P) {t : Nat} {i : TI} (hi : tab t = some i) (ha : i.agg = true) {W : World} {a : Addr} {xs : List Value} (hl : xs.length = i.size)
    (h : ∀ n x, xs[n]? = some x → W.cell? (a.add n) = some x) : (loadVar t a).run P W = .ok (.agg xs.toArray) W := by
  obtain ⟨I, h1, h2, _⟩ := hT.info t i hi
  have := run_loadCells_list (P := P) (w := W) a xs h
  rw [hl] at this
  simp [loadVar, hT.agg t i hi, ha, sizeOf, run_typeInfo W h1, h2, this]
theorem run_loadVar_one (hT : TabOK tab P) {t : Nat} {i : TI} (hi : tab t = some i) (ha : i.agg = false) {W : World} {a : Addr} {x : Value}
    (h : W.cell? a = some x) : (loadVar t a).run P W = .ok x W := by
  simp [loadVar, hT.agg t i hi, ha, h]

/-! ### Lists -/
theorem dropN_eq : ∀ (n : Nat) (l : List SV), dropN n l = l.drop n
  | 0, l => by simp [dropN]
  | n + 1, [] => by simp [dropN]
  | n + 1, _ :: r => by simp [dropN, dropN_eq n r]
theorem takeN_eq : ∀ (n : Nat) (l q : List SV), takeN n l = some q → q = l.take n ∧ q.length = n
  | 0, l, q, h => by simp [takeN] at h; simp [← h]
  | n + 1, [], q, h => by simp [takeN] at h
  | n + 1, x :: r, q, h => by
    simp only [takeN] at h
    cases hr : takeN n r with
    | none => simp [hr] at h
    | some q' =>
      simp only [hr, Option.some.injEq] at h
      obtain ⟨h1, h2⟩ := takeN_eq n r q' hr
      subst h
      simp [h2, ← h1]
theorem nthN_eq : ∀ (n : Nat) (l : List SV), nthN n l = l[n]?
  | 0, [] => rfl
  | 0, _ :: _ => rfl
  | n + 1, [] => rfl
  | n + 1, _ :: r => by simp [nthN, nthN_eq n r]
theorem nth2_eq : ∀ (n : Nat) (l : List (Nat × Nat)), nth2 n l = l[n]?
  | 0, [] => rfl
  | 0, _ :: _ => rfl
  | n + 1, [] => rfl
  | n + 1, _ :: r => by simp [nth2, nth2_eq n r]
theorem lenL_eq : ∀ l : List SV, lenL l = l.length
  | [] => rfl
  | _ :: r => by simp [lenL, lenL_eq r]
theorem setAt_eq : ∀ (n : Nat) (xs l q : List SV), xs ≠ [] → setAt n xs l = some q → n + xs.length ≤ l.length ∧ q = l.take n ++ xs ++ l.drop (n + xs.length)
  | _, [], _, _, h, _ => absurd rfl h
  | 0, x :: xs, [], q, _, h => by simp [setAt] at h
  | 0, x :: xs, y :: r, q, _, h => by
    simp only [setAt] at h
    cases hr : setAt 0 xs r with
    | none => simp [hr] at h
    | some q' =>
      simp only [hr, Option.some.injEq] at h
      subst h
      by_cases hx : xs = []
      · subst hx
        have : q' = r := by cases r <;> simp [setAt] at hr <;> simp [hr]
        simp [this]
      · obtain ⟨h1, h2⟩ := setAt_eq 0 xs r q' hx hr
        simp at h1 h2
        refine ⟨by simp; omega, ?_⟩
        simp [h2]
  | n + 1, x :: xs, [], q, _, h => by simp [setAt] at h
  | n + 1, x :: xs, y :: r, q, _, h => by
    simp only [setAt] at h
    cases hr : setAt n (x :: xs) r with
    | none => simp [hr] at h
    | some q' =>
      simp only [hr, Option.some.injEq] at h
      subst h
      obtain ⟨h1, h2⟩ := setAt_eq n (x :: xs) r q' (by simp) hr
      refine ⟨by simp at h1 ⊢; omega, ?_⟩
      rw [h2]
      have : n + 1 + (x :: xs).length = (n + (x :: xs).length) + 1 := by omega
      rw [this, List.drop_succ_cons]
      simp
theorem unV_eq : ∀ (l : List SV) (xs : List Value), unV l = some xs → l = vals xs
  | [], xs, h => by simp [unV] at h; simp [h, vals]
  | s :: r, xs, h => by
    cases s with
    | v x =>
      simp only [unV] at h
      cases hr : unV r with
      | none => simp [hr] at h
      | some q =>
        simp only [hr, Option.some.injEq] at h
        subst h
        simp [vals, unV_eq r q hr]
    | _ => simp [unV] at h
theorem vals_length : ∀ xs : List Value, (vals xs).length = xs.length
  | [] => rfl
  | _ :: r => by simp [vals, vals_length r]
theorem denL_length (E : Env) (l : List SV) : (denL E l).length = l.length := by simp [denL_eq]
theorem denL_take (E : Env) (n : Nat) (l : List SV) : denL E (l.take n) = (denL E l).take n := by simp [denL_eq]
theorem denL_drop (E : Env) (n : Nat) (l : List SV) : denL E (l.drop n) = (denL E l).drop n := by simp [denL_eq]
theorem denL_append (E : Env) (l q : List SV) : denL E (l ++ q) = denL E l ++ denL E q := by simp [denL_eq]
theorem okL_sub {p : Nat → Prop} {l q : List SV} (h : ∀ s, s ∈ q → s ∈ l) (hl : okL p l) : okL p q := (okL_iff p q).2 fun s hs => (okL_iff p l).1 hl s (h s hs)
theorem one_den (E : Env) : ∀ s : SV, s.one = true → (den E s).oneCell' = true
  | .v x, h => by cases x <;> simp [SV.one] at h <;> rfl
  | .ptr _ _, _ => rfl
  | .xptr _ _ _ _ _, _ => rfl
  | .sl _ _ _ _, _ => rfl
  | .own _, _ => rfl
  | .eptr _ _ _ _, _ => rfl
  | .fn _ _ _, _ => rfl
  | .agg _, h => by simp [SV.one] at h
  | .tup _, h => by simp [SV.one] at h
  | .yf _, _ => rfl
theorem allOne_spec (E : Env) : ∀ l : List SV, allOne l = true → ∀ v, v ∈ denL E l → v.oneCell' = true
  | [], _, v, hv => by simp [denL] at hv
  | x :: r, h, v, hv => by
    simp only [allOne] at h
    cases hx : x.one with
    | false => simp [hx] at h
    | true =>
      simp only [hx] at h
      simp only [denL, List.mem_cons] at hv
      rcases hv with rfl | hv
      · exact one_den E x hx
      · exact allOne_spec E r h v hv
theorem cells_den (E : Env) : ∀ s : SV, (∀ cs, s ≠ .tup cs) → (den E s).cells = (denL E s.cells).toArray
  | .v x, _ => by cases x <;> simp [SV.cells, den, denL, Value.cells, denL_vals]
  | .ptr _ _, _ => rfl
  | .xptr _ _ _ _ _, _ => rfl
  | .sl _ _ _ _, _ => rfl
  | .own _, _ => rfl
  | .eptr _ _ _ _, _ => rfl
  | .fn _ _ _, _ => rfl
  | .agg _, _ => rfl
  | .tup cs, h => absurd rfl (h cs)
  | .yf _, _ => rfl
theorem cells_tup (E : Env) (cs : List SV) : (den E (.tup cs)).cells = (denL E (SV.tup cs).cells).toArray := rfl
theorem cells_den' (E : Env) (s : SV) : (den E s).cells = (denL E s.cells).toArray := by
  by_cases h : ∃ cs, s = .tup cs
  · obtain ⟨cs, rfl⟩ := h
    rfl
  · exact cells_den E s fun cs e => h ⟨cs, e⟩
theorem cells_ok {p : Nat → Prop} : ∀ s : SV, s.ok p → okL p s.cells
  | .v x, _ => by cases x <;> first | exact okL_vals p _ | exact ⟨trivial, trivial⟩
  | .ptr _ _, h => ⟨h, trivial⟩
  | .xptr _ _ _ _ _, h => ⟨h, trivial⟩
  | .sl _ _ _ _, h => ⟨h, trivial⟩
  | .own _, h => ⟨h, trivial⟩
  | .eptr _ _ _ _, h => ⟨h, trivial⟩
  | .fn _ _ _, h => ⟨h, trivial⟩
  | .agg _, h => h
  | .tup _, h => ⟨h, trivial⟩
  | .yf _, h => ⟨h, trivial⟩

/-! ### Loads -/
theorem getM_of {g : Nat → Option Atom} {j : Nat} {A : Atom} {key : Nat} {p : Nat → Prop} {E : Env} {W : World} (hM : SatM c E p g W) (hg : ∀ k, k ∈ [j] → ¬ (key ≤ k ∧ k < key + 8) → g k = getM k M)
    (hj : p j) (hk : ∀ q, q < 8 → ¬ p (key + q)) (h : getM j M = some A) : g j = some A := by
  rw [hg j (by simp) (fun hh => hk (j - key) (by omega) (by rw [show key + (j - key) = j from by omega]; exact hj)), h]

theorem snd_load_box {t : Nat} {x : Operand} (hT : TabOK tab P) (ho : o.op = .load t x) {i : TI} (hi : tab t = some i) {j off : Nat} (hx : ev fr x = some (.ptr j off)) {cs : List SV} {ty : Nat} {b : Bool}
    (hj : getM j M = some (.box cs ty b)) : (∀ l, i.agg = true → takeN i.size (dropN off cs) = some l → OpOK P c key o fr M ⟨.agg l, [], 0, [j], false⟩) ∧
      (∀ s, i.agg = false → nthN off cs = some s → OpOK P c key o fr M ⟨s, [], 0, [j], false⟩) := by
  have base : ∀ (E : Env) (p : Nat → Prop) (a : Act) (W : World) (g : Nat → Option Atom), SatM c E p g W → (∀ k, k ∈ [j] → ¬ (key ≤ k ∧ k < key + 8) → g k = getM k M) → (∀ q, q < 8 → ¬ p (key + q)) →
      (∀ x, x ∈ o.op.operands.toList → ∀ s, ev fr x = some s → s.ok p ∧ a.eval x = den E s) → okL p cs ∧ W.heap[E.blk j]? = some (.cells (denL E cs).toArray ty (0, 0)) ∧ a.eval x = .pointer (some ⟨E.blk j, off, none⟩) := by
    intro E p a W g hM hg hk hop
    obtain ⟨h1, h2⟩ := hop x (by simp [ho, Op.operands]) _ hx
    have hgj := getM_of hM hg h1 hk hj
    obtain ⟨_, h3, h4, _⟩ := hM.at_ j _ hgj
    exact ⟨h3, h4, by simpa [den] using h2⟩
  refine ⟨fun l ha hl => .val fun E p a W g hM hg hk hop => ?_, fun s ha hs => .val fun E p a W g hM hg hk hop => ?_⟩
  · obtain ⟨h1, h2, h3⟩ := base E p a W g hM hg hk hop
    rw [dropN_eq] at hl
    obtain ⟨e1, e2⟩ := takeN_eq _ _ _ hl
    refine ⟨okL_sub (fun s hs => List.mem_of_mem_drop (List.mem_of_mem_take (e1 ▸ hs))) h1, ?_⟩
    have := run_loadVar_agg hT hi ha (W := W) (a := ⟨E.blk j, off, none⟩) (xs := denL E l) (by rw [denL_length, e2]) (fun n y hn => by
      rw [Addr.add_lit, cell_of_heap h2]
      rw [e1, denL_take, denL_drop] at hn
      have hlt : n < i.size := by
        rcases Nat.lt_or_ge n i.size with h | h
        · exact h
        · simp [List.getElem?_take, Nat.not_lt.2 h] at hn
      rw [List.getElem?_take_of_lt hlt, List.getElem?_drop] at hn
      exact hn)
    simp [execOp, ho, h3, Instr.loadAt, Instr.sureAddr, this, den]
  · obtain ⟨h1, h2, h3⟩ := base E p a W g hM hg hk hop
    rw [nthN_eq] at hs
    refine ⟨(okL_iff p cs).1 h1 s (List.mem_of_getElem? hs), ?_⟩
    have := run_loadVar_one hT hi ha (W := W) (a := ⟨E.blk j, off, none⟩) (x := den E s) (by rw [cell_of_heap h2, denL_eq]; simp [hs])
    simp [execOp, ho, h3, Instr.loadAt, Instr.sureAddr, this]

end
end Go.VM

/-
The operations, second part: leaves; loads by value.
-/
set_option linter.unusedVariables false
set_option linter.unusedSimpArgs false
namespace Go.VM
open Go.RowKit

/-- A leaf's cell. -/
def LRep (B : Nat → Prop) (W : World) : Leaf → Value → Prop
  | .int k z, v => v = .int k z
  | .bool b, v => v = .bool b
  | .sl t l, v => ∃ A n q, v = .slice A n q ∧ SlT B W (Reps B W t) t.size A n q l
def LRepL (B : Nat → Prop) (W : World) : List Leaf → List Value → Prop
  | [], vs => vs = []
  | x :: r, vs => ∃ v ws, vs = v :: ws ∧ LRep B W x v ∧ LRepL B W r ws

theorem LRepL.length {B : Nat → Prop} {W : World} : ∀ (ls : List Leaf) (vs : List Value), LRepL B W ls vs → vs.length = ls.length
  | [], vs, h => by cases h; rfl
  | x :: r, vs, h => by
    obtain ⟨v, ws, rfl, _, h2⟩ := h
    simp [LRepL.length r ws h2]
theorem LRepL.append {B : Nat → Prop} {W : World} : ∀ {ls ls' : List Leaf} {vs vs' : List Value}, LRepL B W ls vs → LRepL B W ls' vs' → LRepL B W (ls ++ ls') (vs ++ vs')
  | [], ls', vs, vs', h, h' => by cases h; exact h'
  | x :: r, ls', vs, vs', h, h' => by
    obtain ⟨v, ws, rfl, h1, h2⟩ := h
    exact ⟨v, ws ++ vs', rfl, h1, LRepL.append h2 h'⟩
theorem LRepL.drop {B : Nat → Prop} {W : World} : ∀ (n : Nat) {ls : List Leaf} {vs : List Value}, LRepL B W ls vs → LRepL B W (ls.drop n) (vs.drop n)
  | 0, ls, vs, h => by simpa using h
  | n + 1, [], vs, h => by cases h; simp [LRepL]
  | n + 1, x :: r, vs, h => by
    obtain ⟨v, ws, rfl, h1, h2⟩ := h
    simpa using LRepL.drop n h2
theorem LRepL.take {B : Nat → Prop} {W : World} : ∀ (n : Nat) {ls : List Leaf} {vs : List Value}, LRepL B W ls vs → LRepL B W (ls.take n) (vs.take n)
  | 0, ls, vs, h => by simp [LRepL]
  | n + 1, [], vs, h => by cases h; simp [LRepL]
  | n + 1, x :: r, vs, h => by
    obtain ⟨v, ws, rfl, h1, h2⟩ := h
    exact ⟨v, ws.take n, rfl, h1, LRepL.take n h2⟩
theorem dropL_eq : ∀ (n : Nat) (l : List Leaf), dropL n l = l.drop n
  | 0, l => by simp [dropL]
  | n + 1, [] => by simp [dropL]
  | n + 1, _ :: r => by simp [dropL, dropL_eq n r]
theorem takeL_eq : ∀ (n : Nat) (l q : List Leaf), takeL n l = some q → q = l.take n ∧ q.length = n
  | 0, l, q, h => by simp [takeL] at h; simp [← h]
  | n + 1, [], q, h => by simp [takeL] at h
  | n + 1, x :: r, q, h => by
    simp only [takeL] at h
    cases hr : takeL n r with
    | none => simp [hr] at h
    | some q' =>
      simp only [hr, Option.some.injEq] at h
      obtain ⟨h1, h2⟩ := takeL_eq n r q' hr
      subst h
      simp [h2, ← h1]

theorem reps_flat {B : Nat → Prop} {W : World} : ∀ (t : Ty) (x : t.den) (vs : List Value), Reps B W t x vs → LRepL B W (flat t x) vs
  | .int k, z, vs, h => ⟨_, [], h, rfl, rfl⟩
  | .bool, b, vs, h => ⟨_, [], h, rfl, rfl⟩
  | .prod a b, x, vs, h => by
    obtain ⟨v1, v2, rfl, h2, h3⟩ := h
    exact (reps_flat a _ _ h2).append (reps_flat b _ _ h3)
  | .slice a, l, vs, h => by
    obtain ⟨A, n, q, h1, h2⟩ := h
    exact ⟨_, [], h1, ⟨A, n, q, rfl, h2⟩, rfl⟩

theorem as_int {k : IntKind} {x : Leaf} {z : Int} (h : x.as (.int k) = some z) : x = .int k z := by
  cases x with
  | int k' z' =>
    simp only [Leaf.as] at h
    by_cases e : k = k'
    · subst e
      simp at h
      cases h
      rfl
    · simp [e] at h
  | _ => simp [Leaf.as] at h
theorem as_bool {x : Leaf} {b : Bool} (h : x.as .bool = some b) : x = .bool b := by
  cases x with
  | bool b' => simp [Leaf.as] at h; cases h; rfl
  | _ => simp [Leaf.as] at h
theorem as_slice {a : Ty} {x : Leaf} {l : List a.den} (h : x.as (.slice a) = some l) : x = .sl a l := by
  cases x with
  | sl t q =>
    simp only [Leaf.as] at h
    cases hd : decEq t a with
    | isTrue e =>
      subst e
      simp [hd] at h
      cases h
      rfl
    | isFalse e => simp [hd] at h
  | _ => simp [Leaf.as] at h

theorem unflat_reps {B : Nat → Prop} {W : World} : ∀ (t : Ty) (ls : List Leaf) (x : t.den) (r : List Leaf), unflat t ls = some (x, r) → ∀ vs, LRepL B W ls vs → ∃ v1 v2, vs = v1 ++ v2 ∧ Reps B W t x v1 ∧ LRepL B W r v2
  | .int k, ls, x, r, h, vs, hv => by
    cases ls with
    | nil => simp [unflat] at h
    | cons y q =>
      simp only [unflat] at h
      cases ha : y.as (.int k) with
      | none => simp [ha] at h
      | some z =>
        simp only [ha, Option.some.injEq, Prod.mk.injEq] at h
        obtain ⟨rfl, rfl⟩ := h
        rw [as_int ha] at hv
        obtain ⟨v, ws, rfl, h1, h2⟩ := hv
        exact ⟨[v], ws, rfl, by rw [show v = .int k z from h1]; rfl, h2⟩
  | .bool, ls, x, r, h, vs, hv => by
    cases ls with
    | nil => simp [unflat] at h
    | cons y q =>
      simp only [unflat] at h
      cases ha : y.as .bool with
      | none => simp [ha] at h
      | some z =>
        simp only [ha, Option.some.injEq, Prod.mk.injEq] at h
        obtain ⟨rfl, rfl⟩ := h
        rw [as_bool ha] at hv
        obtain ⟨v, ws, rfl, h1, h2⟩ := hv
        exact ⟨[v], ws, rfl, by rw [show v = .bool z from h1]; rfl, h2⟩
  | .slice a, ls, x, r, h, vs, hv => by
    cases ls with
    | nil => simp [unflat] at h
    | cons y q =>
      simp only [unflat] at h
      cases ha : y.as (.slice a) with
      | none => simp [ha] at h
      | some z =>
        simp only [ha, Option.some.injEq, Prod.mk.injEq] at h
        obtain ⟨rfl, rfl⟩ := h
        rw [as_slice ha] at hv
        obtain ⟨v, ws, rfl, ⟨A, n, q', h1, h3⟩, h2⟩ := hv
        exact ⟨[v], ws, rfl, ⟨A, n, q', by rw [h1], h3⟩, h2⟩
  | .prod a b, ls, x, r, h, vs, hv => by
    simp only [unflat] at h
    cases ha : unflat a ls with
    | none => simp [ha] at h
    | some y =>
      obtain ⟨y, q⟩ := y
      simp only [ha] at h
      cases hb : unflat b q with
      | none => simp [hb] at h
      | some z =>
        obtain ⟨z, q'⟩ := z
        simp only [hb, Option.some.injEq, Prod.mk.injEq] at h
        obtain ⟨rfl, rfl⟩ := h
        obtain ⟨v1, v2, rfl, h1, h2⟩ := unflat_reps a ls y q ha vs hv
        obtain ⟨v3, v4, rfl, h3, h4⟩ := unflat_reps b q z _ hb v2 h2
        exact ⟨v1 ++ v3, v4, by simp, ⟨v1, v3, rfl, h1, h3⟩, h4⟩

theorem tysOf_length : ∀ t : Ty, (tysOf t).length = t.size
  | .int _ => rfl
  | .bool => rfl
  | .slice _ => rfl
  | .prod a b => by simp [tysOf, Ty.size, tysOf_length a, tysOf_length b]

/-! ### The leaves of cells -/
/-- What a row of one's own says, without that it stays. -/
theorem own_slice {c : Ctx} {E : Env} {k : Nat} {W : World} {ty : Nat} {t : Ty} {l : List t.den} (h : AtomAt c E k W (.own ty t l)) (B : Nat → Prop) (hB : ∀ b, still c E b → B b) (hf : ∀ a, (E.slv k).1 = some a → B a.block) :
    SlT B W (Reps B W t) t.size (E.slv k).1 (E.slv k).2.1 (E.slv k).2.2 l := by
  simp only [AtomAt, den] at h
  obtain ⟨vs, ⟨h1, h2⟩, h3⟩ := h
  have h3' : RepsL B W t l vs := h3.mono hB fun _ _ => rfl
  rcases h2 with ⟨hv, hn⟩ | ⟨g, cap, cur, hv, hg, hh, hcap, hmax, hsz, ht⟩
  · injection hv with e1 e2 e3
    have : l = [] := List.eq_nil_of_length_eq_zero hn
    subst this
    rw [e1, e2, e3]
    exact ⟨rfl, Nat.le_refl _, fun _ => ⟨rfl, rfl⟩, fun i x hx => by simp at hx⟩
  · injection hv with e1 e2 e3
    refine SlT.of_cells h3' e2.symm (by rw [e2, e3]; exact hcap) (by simp [e1]) (fun a ha _ => hf a ha) fun a ha j u hu => ?_
    rw [e1] at ha
    injection ha with ha
    subst ha
    rw [Addr.add_lit]
    simp only [World.cell?, hh, Nat.zero_add]
    have hlt : j < l.length * t.size := by rw [← h1]; exact (List.getElem?_eq_some_iff.1 hu).1
    rw [← ht, List.getElem?_take_of_lt hlt] at hu
    simpa using hu

section
variable {tab : Nat → Option TI} {P : Program} {c : Ctx} {key : Nat} {fr : List (Nat × SV)} {M : List (Nat × Atom)} {K : Res → Prop} {o : Oper}

/-- The blocks that stay, and those of rows of one's own. -/
def seen (c : Ctx) (E : Env) (g : Nat → Option Atom) (ks : List Nat) (b : Nat) : Prop :=
  still c E b ∨ ∃ k ty t l a, k ∈ ks ∧ g k = some (.own ty t l) ∧ (E.slv k).1 = some a ∧ a.block = b

theorem leaf0_rep {E : Env} {p : Nat → Prop} {g : Nat → Option Atom} {W : World} (hM : SatM c E p g W) {v : Bool} {t : Option Ty} {s : SV} {x : Leaf} (h : leaf0 M v t s = some x) {ks : List Nat} (hks : v = true → ∀ j, s = .own j → j ∈ ks) (hg : ∀ j, s = .own j → g j = getM j M) : LRep (seen c E g ks) W x (den E s) := by
  cases s with
  | v y =>
    cases y with
    | int k z => simp [leaf0] at h; subst h; rfl
    | bool b => simp [leaf0] at h; subst h; rfl
    | slice A n q =>
      cases A with
      | some a => simp [leaf0] at h
      | none =>
        cases n with
        | succ n => simp [leaf0] at h
        | zero =>
          cases q with
          | succ q => simp [leaf0] at h
          | zero =>
            cases t with
            | none => simp [leaf0] at h
            | some t =>
              cases t with
              | slice a =>
                simp [leaf0] at h
                subst h
                exact ⟨none, 0, 0, rfl, rfl, Nat.le_refl _, fun _ => ⟨rfl, rfl⟩, fun i x hx => by simp at hx⟩
              | _ => simp [leaf0] at h
    | _ => simp [leaf0] at h
  | own j =>
    have hgj := hg j rfl
    simp only [leaf0] at h
    split at h
    · rename_i a l hj
      rw [hj] at hgj
      injection h with h
      subst h
      obtain ⟨_, _, h3, _⟩ := hM.at_ j _ hgj
      exact ⟨_, _, _, rfl, SlT.mono h3 (fun b hb => .inl hb) (fun _ _ => rfl) fun x vs hr => hr.mono (fun b hb => .inl hb) fun _ _ => rfl⟩
    · rename_i ty a l hj
      rw [hj] at hgj
      cases v with
      | false => simp at h
      | true =>
        simp only [Option.some.injEq] at h
        subst h
        obtain ⟨_, _, h3, _⟩ := hM.at_ j _ hgj
        exact ⟨_, _, _, rfl, own_slice h3 _ (fun b hb => .inl hb) fun ad ha => .inr ⟨j, ty, a, l, ad, hks rfl j rfl, hgj, ha, rfl⟩⟩
    · simp at h
  | _ => simp [leaf0] at h

theorem leavesOf_rep {E : Env} {p : Nat → Prop} {g : Nat → Option Atom} {W : World} (hM : SatM c E p g W) {v : Bool} {ks : List Nat} : ∀ (ts : List Ty) (ss : List SV) (ls : List Leaf) (q : List SV), leavesOf M v ts ss = some (ls, q) → (v = true → ∀ j, .own j ∈ ss → j ∈ ks) → (∀ j, .own j ∈ ss → g j = getM j M) →
    LRepL (seen c E g ks) W ls ((denL E ss).take ts.length) ∧ q = ss.drop ts.length ∧ ts.length ≤ ss.length
  | [], ss, ls, q, h, _, _ => by
    simp only [leavesOf, Option.some.injEq, Prod.mk.injEq] at h
    obtain ⟨rfl, rfl⟩ := h
    simp [LRepL]
  | t :: ts, ss, ls, q, h, hks, hg => by
    cases ss with
    | nil => simp [leavesOf] at h
    | cons s r =>
      simp only [leavesOf] at h
      cases hx : leaf0 M v (some t) s with
      | none => simp [hx] at h
      | some x =>
        simp only [hx] at h
        cases hr : leavesOf M v ts r with
        | none => simp [hr] at h
        | some y =>
          obtain ⟨l, q'⟩ := y
          simp only [hr, Option.some.injEq, Prod.mk.injEq] at h
          obtain ⟨rfl, rfl⟩ := h
          obtain ⟨h1, h2, h3⟩ := leavesOf_rep hM ts r l q' hr (fun hv j hj => hks hv j (by simp [hj])) (fun j hj => hg j (by simp [hj]))
          refine ⟨⟨den E s, (denL E r).take ts.length, by simp [denL], leaf0_rep hM hx (fun hv j e => hks hv j (by simp [e])) (fun j e => hg j (by simp [e])), h1⟩, by simpa using h2, by simpa using h3⟩

theorem rowOf_rep {E : Env} {p : Nat → Prop} {g : Nat → Option Atom} {W : World} (hM : SatM c E p g W) {v : Bool} {t : Ty} {ks : List Nat} : ∀ (n : Nat) (ss : List SV) (l : List t.den), rowOf M v t n ss = some l → (v = true → ∀ j, .own j ∈ ss → j ∈ ks) → (∀ j, .own j ∈ ss → g j = getM j M) →
    l.length = n ∧ n * t.size ≤ ss.length ∧ RepsL (seen c E g ks) W t l ((denL E ss).take (n * t.size))
  | 0, ss, l, h, _, _ => by
    simp only [rowOf, Option.some.injEq] at h
    subst h
    simp [RepsL]
  | n + 1, ss, l, h, hks, hg => by
    simp only [rowOf] at h
    cases hr : leavesOf M v (tysOf t) ss with
    | none => simp [hr] at h
    | some y =>
      obtain ⟨ls, q⟩ := y
      simp only [hr] at h
      obtain ⟨h1, h2, h3⟩ := leavesOf_rep hM _ _ _ _ hr hks hg
      rw [tysOf_length] at h1 h2 h3
      cases hu : unflat t ls with
      | none => simp [hu] at h
      | some z =>
        obtain ⟨x, rest⟩ := z
        cases rest with
        | cons _ _ => simp [hu] at h
        | nil =>
          simp only [hu] at h
          cases hq : rowOf M v t n q with
          | none => simp [hq] at h
          | some xs =>
            simp only [hq, Option.some.injEq] at h
            subst h
            obtain ⟨h4, h5, h6⟩ := rowOf_rep hM n q xs hq (fun hv j hj => hks hv j (by rw [h2] at hj; exact List.mem_of_mem_drop hj)) (fun j hj => hg j (by rw [h2] at hj; exact List.mem_of_mem_drop hj))
            obtain ⟨v1, v2, e1, h7, h8⟩ := unflat_reps t ls x [] hu _ h1
            cases h8
            rw [List.append_nil] at e1
            rw [h2, List.length_drop] at h5
            refine ⟨by simp [h4], by rw [Nat.succ_mul]; omega, v1, _, ?_, h7, h6⟩
            rw [← e1, h2, denL_drop, Nat.succ_mul, Nat.add_comm, List.take_add]

/-- Leaves as values, with new keys for slices. -/
theorem svOf_sound : ∀ (ls : List Leaf) (key n : Nat) (ss : List SV) (u : List (Nat × Option Atom)), svOf key ls = (ss, u, n) → ∀ (E : Env) (p : Nat → Prop) (g : Nat → Option Atom) (W : World) (vs : List Value), SatM c E p g W → LRepL (still c E) W ls vs →
    (∀ k, key ≤ k → k < n → ¬ p k) → key ≤ n ∧ (∀ k, k ∈ keysU u → key ≤ k ∧ k < n) ∧
      ∃ E', Agree p E E' ∧ (E'.fz = E.fz ∧ E'.rb = E.rb ∧ E'.ri = E.ri) ∧ SatM c E' (fun k => p k ∨ key ≤ k ∧ k < n) (gUpd g u) W ∧ denL E' ss = vs ∧ okL (fun k => p k ∨ key ≤ k ∧ k < n) ss
  | [], key, n, ss, u, h, E, p, g, W, vs, hM, hl, hk => by
    simp only [svOf, Prod.mk.injEq] at h
    obtain ⟨rfl, rfl, rfl⟩ := h
    cases hl
    exact ⟨Nat.le_refl _, by simp [keysU], E, Agree.refl p E, ⟨rfl, rfl, rfl⟩, (hM.monoP fun k h => .inl h).getter fun k A h => h, rfl, trivial⟩
  | .int k z :: r, key, n, ss, u, h, E, p, g, W, vs, hM, hl, hk => by
    obtain ⟨v, ws, rfl, h1, h2⟩ := hl
    simp only [svOf] at h
    generalize hr : svOf key r = y at h
    obtain ⟨ss', u', n'⟩ := y
    simp only [Prod.mk.injEq] at h
    obtain ⟨rfl, rfl, rfl⟩ := h
    obtain ⟨q1, q2, E', q3, q4, q5, q6, q7⟩ := svOf_sound r key _ ss' _ hr E p g W ws hM h2 hk
    exact ⟨q1, q2, E', q3, q4, q5, by simp only [denL, den, q6]; rw [show v = _ from h1], trivial, q7⟩
  | .bool b :: r, key, n, ss, u, h, E, p, g, W, vs, hM, hl, hk => by
    obtain ⟨v, ws, rfl, h1, h2⟩ := hl
    simp only [svOf] at h
    generalize hr : svOf key r = y at h
    obtain ⟨ss', u', n'⟩ := y
    simp only [Prod.mk.injEq] at h
    obtain ⟨rfl, rfl, rfl⟩ := h
    obtain ⟨q1, q2, E', q3, q4, q5, q6, q7⟩ := svOf_sound r key _ ss' _ hr E p g W ws hM h2 hk
    exact ⟨q1, q2, E', q3, q4, q5, by simp only [denL, den, q6]; rw [show v = _ from h1], trivial, q7⟩
  | .sl t l :: r, key, n, ss, u, h, E, p, g, W, vs, hM, hl, hk => by
    obtain ⟨v, ws, rfl, ⟨A, m, q, h1, h3⟩, h2⟩ := hl
    simp only [svOf] at h
    generalize hr : svOf (key + 1) r = y at h
    obtain ⟨ss', u', n'⟩ := y
    simp only [Prod.mk.injEq] at h
    obtain ⟨rfl, rfl, rfl⟩ := h
    have hlt : key < n' := by
      have : ∀ (r : List Leaf) (k n : Nat) (ss : List SV) (u : List (Nat × Option Atom)), svOf k r = (ss, u, n) → k ≤ n := by
        intro r
        induction r with
        | nil => intro k n ss u h; simp only [svOf, Prod.mk.injEq] at h; omega
        | cons x r ih =>
          intro k n ss u h
          cases x with
          | int _ _ =>
            simp only [svOf] at h
            generalize hr : svOf k r = y at h
            obtain ⟨_, _, _⟩ := y
            simp only [Prod.mk.injEq] at h
            have := ih _ _ _ _ hr
            omega
          | bool _ =>
            simp only [svOf] at h
            generalize hr : svOf k r = y at h
            obtain ⟨_, _, _⟩ := y
            simp only [Prod.mk.injEq] at h
            have := ih _ _ _ _ hr
            omega
          | sl _ _ =>
            simp only [svOf] at h
            generalize hr : svOf (k + 1) r = y at h
            obtain ⟨_, _, _⟩ := y
            simp only [Prod.mk.injEq] at h
            have := ih _ _ _ _ hr
            omega
      have := this r _ _ _ _ hr
      omega
    have hnk : ¬ p key := hk key (Nat.le_refl _) hlt
    have hM1 := hM.addRo hnk h3
    obtain ⟨q1, q2, E', q3, q4, q5, q6, q7⟩ := svOf_sound r (key + 1) _ ss' _ hr (E.setSlv key (A, m, q)) (fun k => p k ∨ k = key) (gUpd g [(key, some (.ro t l))]) W ws hM1 h2 (fun k hk1 hk2 hp => by
      rcases hp with hp | hp
      · exact hk k (by omega) hk2 hp
      · omega)
    have hpp : ∀ k, (p k ∨ k = key) ∨ key + 1 ≤ k ∧ k < n' → p k ∨ key ≤ k ∧ k < n' := by
      intro k hk
      rcases hk with (hk | hk) | hk
      · exact .inl hk
      · exact .inr ⟨by omega, by omega⟩
      · exact .inr ⟨by omega, hk.2⟩
    refine ⟨by omega, fun k hk => ?_, E', (agree_setSlv hnk).trans q3 (fun _ h => .inl h), ⟨q4.1, q4.2.1, q4.2.2⟩, (q5.monoP hpp).getter fun k A hA => ?_, ?_, .inr ⟨Nat.le_refl _, hlt⟩, okL_mono hpp _ q7⟩
    · simp only [keysU, List.mem_cons] at hk
      rcases hk with rfl | hk
      · exact ⟨Nat.le_refl _, hlt⟩
      · have := q2 k hk; exact ⟨by omega, this.2⟩
    · simp only [gUpd] at hA
      by_cases e : k = key
      · subst e
        rw [if_pos rfl] at hA
        have : ∀ (u : List (Nat × Option Atom)) (g : Nat → Option Atom), k ∉ keysU u → gUpd g u k = g k := by
          intro u
          induction u with
          | nil => intro g _; rfl
          | cons y u ih =>
            intro g hn
            obtain ⟨j, B⟩ := y
            simp only [keysU, List.mem_cons, not_or] at hn
            simp only [gUpd, if_neg hn.1]
            exact ih g hn.2
        rw [this u' _ (fun hm => by have := (q2 k hm).1; omega)]
        simpa [gUpd] using hA
      · rw [if_neg e] at hA
        have : ∀ (u : List (Nat × Option Atom)) (g g' : Nat → Option Atom), g k = g' k → gUpd g u k = gUpd g' u k := by
          intro u
          induction u with
          | nil => intro g g' h; exact h
          | cons y u ih =>
            intro g g' h
            obtain ⟨j, B⟩ := y
            simp only [gUpd]
            split
            · rfl
            · exact ih g g' h
        rw [← hA]
        exact this u' _ _ (by simp [gUpd, e])
    · simp only [denL, q6, den]
      have := (q3 key (.inr rfl)).2
      rw [this]
      simp [Env.setSlv, h1]
end
end Go.VM

/-
The operations, third part: loads by value, stores.
-/
set_option linter.unusedVariables false
set_option linter.unusedSimpArgs false
namespace Go.VM
open Go.RowKit

theorem svOf_keys : ∀ (ls : List Leaf) (key n : Nat) (ss : List SV) (u : List (Nat × Option Atom)), svOf key ls = (ss, u, n) → key ≤ n ∧ ∀ k, k ∈ keysU u → key ≤ k ∧ k < n
  | [], key, n, ss, u, h => by
    simp only [svOf, Prod.mk.injEq] at h
    obtain ⟨rfl, rfl, rfl⟩ := h
    simp [keysU]
  | .int k z :: r, key, n, ss, u, h => by
    simp only [svOf] at h
    generalize hr : svOf key r = y at h
    obtain ⟨ss', u', n'⟩ := y
    simp only [Prod.mk.injEq] at h
    obtain ⟨rfl, rfl, rfl⟩ := h
    exact svOf_keys r key _ _ _ hr
  | .bool b :: r, key, n, ss, u, h => by
    simp only [svOf] at h
    generalize hr : svOf key r = y at h
    obtain ⟨ss', u', n'⟩ := y
    simp only [Prod.mk.injEq] at h
    obtain ⟨rfl, rfl, rfl⟩ := h
    exact svOf_keys r key _ _ _ hr
  | .sl t l :: r, key, n, ss, u, h => by
    simp only [svOf] at h
    generalize hr : svOf (key + 1) r = y at h
    obtain ⟨ss', u', n'⟩ := y
    simp only [Prod.mk.injEq] at h
    obtain ⟨rfl, rfl, rfl⟩ := h
    obtain ⟨h1, h2⟩ := svOf_keys r (key + 1) _ _ _ hr
    refine ⟨by omega, fun k hk => ?_⟩
    simp only [keysU, List.mem_cons] at hk
    rcases hk with rfl | hk
    · omega
    · have := h2 k hk; omega

theorem seen_false {c : Ctx} {E : Env} {g : Nat → Option Atom} {b : Nat} (h : seen c E g [] b) : still c E b := by
  rcases h with h | ⟨_, _, _, _, _, h, _⟩
  · exact h
  · cases h
theorem LRepL.mono {B B' : Nat → Prop} {W : World} (hB : ∀ b, B b → B' b) : ∀ {ls : List Leaf} {vs : List Value}, LRepL B W ls vs → LRepL B' W ls vs
  | [], vs, h => h
  | x :: r, vs, h => by
    obtain ⟨v, ws, rfl, h1, h2⟩ := h
    refine ⟨v, ws, rfl, ?_, LRepL.mono hB h2⟩
    cases x with
    | int _ _ => exact h1
    | bool _ => exact h1
    | sl t l =>
      obtain ⟨A, n, q, e, hs⟩ := h1
      exact ⟨A, n, q, e, hs.mono hB (fun _ _ => rfl) fun x vs hr => hr.mono hB fun _ _ => rfl⟩

/-- An operation's answer: what it did, and that the rest comes to it. -/
def Snd (P : Program) (c : Ctx) (key : Nat) (fr : List (Nat × SV)) (M : List (Nat × Atom)) (o : Oper) (Q : Res → Prop) : Prop :=
  ∃ r, OpOK P c key o fr M r ∧ (∀ k, k ∈ keysU r.upd → k < key + 8) ∧ Q r

section
variable {tab : Nat → Option TI} {P : Program} {c : Ctx} {key : Nat} {fr : List (Nat × SV)} {M : List (Nat × Atom)} {K : Res → Prop} {o : Oper}

theorem snd_load_leaves {t : Nat} {x : Operand} (hT : TabOK tab P) (ho : o.op = .load t x) {i : TI} (hi : tab t = some i) {s : SV} (hx : ev fr x = some s) {rd : List Nat} {ls : List Leaf} (hlen : ls.length = i.size)
    (hbase : ∀ (E : Env) (p : Nat → Prop) (W : World) (g : Nat → Option Atom), SatM c E p g W → (∀ k, k ∈ rd → ¬ (key ≤ k ∧ k < key + 8) → g k = getM k M) → (∀ q, q < 8 → ¬ p (key + q)) → s.ok p →
      ∃ ad vs, den E s = .pointer (some ad) ∧ (∀ n y, vs[n]? = some y → W.cell? (ad.add n) = some y) ∧ LRepL (still c E) W ls vs)
    {ss : List SV} {u : List (Nat × Option Atom)} {n : Nat} (h : svOf key ls = (ss, u, n)) (h8 : n - key ≤ 8) :
    (i.agg = true → OpOK P c key o fr M ⟨.agg ss, u, n - key, rd, false⟩) ∧ (∀ s', i.agg = false → ss = [s'] → OpOK P c key o fr M ⟨s', u, n - key, rd, false⟩) := by
  obtain ⟨hkn, _⟩ := svOf_keys ls key n ss u h
  have main : ∀ (E : Env) (p : Nat → Prop) (a : Act) (W : World) (g : Nat → Option Atom), SatM c E p g W → (∀ k, k ∈ rd → ¬ (key ≤ k ∧ k < key + 8) → g k = getM k M) → (∀ q, q < 8 → ¬ p (key + q)) →
      (∀ x, x ∈ o.op.operands.toList → ∀ s, ev fr x = some s → s.ok p ∧ a.eval x = den E s) →
      ∃ ad vs E', a.eval x = .pointer (some ad) ∧ (∀ n y, vs[n]? = some y → W.cell? (ad.add n) = some y) ∧ vs.length = i.size ∧ Agree p E E' ∧ SatM c E' (fun k => p k ∨ key ≤ k ∧ k < key + (n - key)) (gUpd g u) W ∧ denL E' ss = vs ∧ okL (fun k => p k ∨ key ≤ k ∧ k < key + (n - key)) ss := by
    intro E p a W g hM hg hk hop
    obtain ⟨h1, h2⟩ := hop x (by simp [ho, Op.operands]) _ hx
    obtain ⟨ad, vs, h3, h4, h5⟩ := hbase E p W g hM hg hk h1
    obtain ⟨_, _, E', q1, _, q2, q3, q4⟩ := svOf_sound ls key n ss u h E p g W vs hM h5 (fun k hk1 hk2 => by have := hk (k - key) (by omega); rwa [show key + (k - key) = k from by omega] at this)
    have e : key + (n - key) = n := by omega
    exact ⟨ad, vs, E', by rw [h2, h3], h4, by rw [h5.length, hlen], q1, by rw [e]; exact q2, q3, by rw [e]; exact q4⟩
  refine ⟨fun ha => ⟨h8, fun E p a W g hM hg hk hop next Q hn => ?_⟩, fun s' ha hs => ⟨h8, fun E p a W g hM hg hk hop next Q hn => ?_⟩⟩
  · obtain ⟨ad, vs, E', h1, h2, h3, h4, h5, h6, h7⟩ := main E p a W g hM (fun k hk' => hg k (by simp [hk'])) hk hop
    refine wp_val (v := .agg vs.toArray) (W' := W) ?_ ?_
    · have := run_loadVar_agg hT hi ha (W := W) (a := ad) h3 h2
      simp [execOp, ho, h1, Instr.loadAt, Instr.sureAddr, this]
    · have := hn E' W h4 h5 h7
      simpa [den, h6] using this
  · obtain ⟨ad, vs, E', h1, h2, h3, h4, h5, h6, h7⟩ := main E p a W g hM (fun k hk' => hg k (by simp [hk'])) hk hop
    subst hs
    simp only [denL] at h6
    refine wp_val (v := den E' s') (W' := W) ?_ ?_
    · have := run_loadVar_one hT hi ha (W := W) (a := ad) (x := den E' s') (by have := h2 0 (den E' s') (by simp [← h6]); simpa [Addr.add] using this)
      simp [execOp, ho, h1, Instr.loadAt, Instr.sureAddr, this]
    · exact hn E' W h4 h5 h7.1

theorem inB_iff {i : Int} {n : Nat} (h : inB i n = true) : 0 ≤ i ∧ i < (n : Int) := by
  simpa [inB] using h
theorem rd_get {α : Type} {d : α} {l : List α} {i : Int} (h : inB i l.length = true) : l[i.toNat]? = some (rd d l i) := by
  obtain ⟨h0, h1⟩ := inB_iff h
  have hlt : i.toNat < l.length := by omega
  simp [rd, List.getD_eq_getElem?_getD, hlt]

theorem Tree.ite_eval {R : Type} {b : Bool} {x y : Tree R} {r : R} (h : (Tree.ite b x y).eval = some r) : (b = true ∧ x.eval = some r) ∨ (b = false ∧ y.eval = some r) := by
  cases b with
  | true => exact .inl ⟨rfl, h⟩
  | false => exact .inr ⟨rfl, h⟩

/-- A load by value. -/
theorem ldT_sound {R : Type} {ret : R} {t : Nat} {x : Operand} (hT : TabOK tab P) (ho : o.op = .load t x) {i : TI} (hi : tab t = some i) {s : SV} (hx : ev fr x = some s) {rds : List Nat} {T : Ty} {l : List T.den} {z : Int} {off : Nat} {K : Res → Tree R}
    (h : (ldT key rds i T l z off K).eval = some ret)
    (hbase : ∀ y, l[z.toNat]? = some y → 0 ≤ z → z < (l.length : Int) → ∀ (E : Env) (p : Nat → Prop) (W : World) (g : Nat → Option Atom), SatM c E p g W → (∀ k, k ∈ rds → ¬ (key ≤ k ∧ k < key + 8) → g k = getM k M) → (∀ q, q < 8 → ¬ p (key + q)) → s.ok p →
      ∃ ad vs, den E s = .pointer (some ad) ∧ (∀ n u, vs[off + n]? = some u → W.cell? (ad.add n) = some u) ∧ Reps (still c E) W T y vs) :
    Snd P c key fr M o fun r => (K r).eval = some ret := by
  simp only [ldT] at h
  rcases Tree.ite_eval h with ⟨hb, h⟩ | ⟨_, h⟩
  · have hget := rd_get (d := T.dflt) hb
    obtain ⟨z0, z1⟩ := inB_iff hb
    split at h
    · simp [Tree.eval] at h
    · rename_i ls hls
      obtain ⟨e1, e2⟩ := takeL_eq _ _ _ hls
      rw [dropL_eq] at e1
      generalize hsv : svOf key ls = y at h
      obtain ⟨ss, u, n⟩ := y
      obtain ⟨hkn, hku⟩ := svOf_keys ls key n ss u hsv
      simp only at h
      cases h8 : Nat.ble (n - key) 8 with
      | false => simp only [h8] at h; cases hagg : i.agg <;> simp [hagg, Tree.eval] at h
      | true =>
        have h8' := Nat.le_of_ble_eq_true h8
        obtain ⟨q1, q2⟩ := snd_load_leaves (key := key) (M := M) hT ho hi hx (rd := rds) e2 (fun E p W g hM hg hk hok => by
          obtain ⟨ad, vs, p1, p2, p3⟩ := hbase _ hget z0 z1 E p W g hM hg hk hok
          refine ⟨ad, (vs.drop off).take i.size, p1, fun n y hy => p2 n y ?_, ?_⟩
          · have hlt : n < i.size := by
              have := (List.getElem?_eq_some_iff.1 hy).1
              simp only [List.length_take] at this
              omega
            rwa [List.getElem?_take_of_lt hlt, List.getElem?_drop] at hy
          · rw [e1]
            exact ((reps_flat T _ _ p3).drop off).take i.size) hsv h8'
        cases hagg : i.agg with
        | true =>
          simp only [h8, hagg] at h
          exact ⟨_, q1 hagg, fun k hk => by have := hku k hk; omega, h⟩
        | false =>
          simp only [h8, hagg] at h
          split at h
          · rename_i s'
            exact ⟨_, q2 s' hagg rfl, fun k hk => by have := hku k hk; omega, h⟩
          · simp [Tree.eval] at h
  · simp [Tree.eval] at h

/-- A pointer that is read only. -/
theorem snd_load_rop {t : Nat} {x : Operand} (hT : TabOK tab P) (ho : o.op = .load t x) {i : TI} (hi : tab t = some i) {j : Nat} {z : Int} {off : Nat} (hx : ev fr x = some (.eptr j z 0 off)) {cs : List SV}
    (hj : getM j M = some (.rop cs)) : (∀ l, i.agg = true → takeN i.size (dropN off cs) = some l → OpOK P c key o fr M ⟨.agg l, [], 0, [j], false⟩) ∧
      (∀ s, i.agg = false → nthN off cs = some s → OpOK P c key o fr M ⟨s, [], 0, [j], false⟩) := by
  have base : ∀ (E : Env) (p : Nat → Prop) (a : Act) (W : World) (g : Nat → Option Atom), SatM c E p g W → (∀ k, k ∈ [j] → ¬ (key ≤ k ∧ k < key + 8) → g k = getM k M) → (∀ q, q < 8 → ¬ p (key + q)) →
      (∀ x, x ∈ o.op.operands.toList → ∀ s, ev fr x = some s → s.ok p ∧ a.eval x = den E s) → okL p cs ∧ ∃ ad : Addr, a.eval x = .pointer (some (ad.add off)) ∧ ∀ i s, cs[i]? = some s → W.cell? (ad.add i) = some (den E s) := by
    intro E p a W g hM hg hk hop
    obtain ⟨h1, h2⟩ := hop x (by simp [ho, Op.operands]) _ hx
    have hgj := getM_of hM hg h1 hk hj
    obtain ⟨_, h3, ⟨ad, h4, _, h5⟩, _⟩ := hM.at_ j _ hgj
    exact ⟨h3, ad, by simpa [den, h4] using h2, h5⟩
  refine ⟨fun l ha hl => .val fun E p a W g hM hg hk hop => ?_, fun s ha hs => .val fun E p a W g hM hg hk hop => ?_⟩
  · obtain ⟨h1, ad, h2, h3⟩ := base E p a W g hM hg hk hop
    rw [dropN_eq] at hl
    obtain ⟨e1, e2⟩ := takeN_eq _ _ _ hl
    refine ⟨okL_sub (fun s hs => List.mem_of_mem_drop (List.mem_of_mem_take (e1 ▸ hs))) h1, ?_⟩
    have := run_loadVar_agg hT hi ha (W := W) (a := ad.add off) (xs := denL E l) (by rw [denL_length, e2]) (fun n y hn => by
      have hlt : n < i.size := by
        have := (List.getElem?_eq_some_iff.1 hn).1
        rw [denL_length, e2] at this
        exact this
      rw [Addr.add_add]
      rw [denL_eq, List.getElem?_map] at hn
      cases hs : l[n]? with
      | none => simp [hs] at hn
      | some s =>
        simp only [hs, Option.map_some, Option.some.injEq] at hn
        subst hn
        refine h3 _ s ?_
        rw [e1, List.getElem?_take_of_lt hlt, List.getElem?_drop] at hs
        exact hs)
    simp [execOp, ho, h2, Instr.loadAt, Instr.sureAddr, this, den]
  · obtain ⟨h1, ad, h2, h3⟩ := base E p a W g hM hg hk hop
    rw [nthN_eq] at hs
    refine ⟨(okL_iff p cs).1 h1 s (List.mem_of_getElem? hs), ?_⟩
    have := run_loadVar_one hT hi ha (W := W) (a := ad.add off) (h3 _ s hs)
    simp [execOp, ho, h2, Instr.loadAt, Instr.sureAddr, this]

/-- Where elements of slices lie. -/
theorem elt_ro {E : Env} {p : Nat → Prop} {g : Nat → Option Atom} {W : World} (hM : SatM c E p g W) {j : Nat} {T : Ty} {l : List T.den} (hj : g j = some (.ro T l)) {z : Int} {y : T.den} (hy : l[z.toNat]? = some y) (off : Nat) :
    ∃ ad vs, den E (.eptr j z T.size off) = .pointer (some ad) ∧ (∀ n u, vs[off + n]? = some u → W.cell? (ad.add n) = some u) ∧ Reps (still c E) W T y vs := by
  obtain ⟨_, _, h3, _⟩ := hM.at_ j _ hj
  obtain ⟨a, vs, h4, h5, h6, h7⟩ := SlT.at_ h3 _ _ hy
  refine ⟨a.add (z.toNat * T.size + off), vs, by simp [den, h4], fun n u hu => ?_, h6⟩
  rw [Addr.add_add, Nat.add_assoc]
  exact h7 _ u hu
theorem elt_own {E : Env} {p : Nat → Prop} {g : Nat → Option Atom} {W : World} (hM : SatM c E p g W) {j ty : Nat} {T : Ty} {l : List T.den} (hj : g j = some (.own ty T l)) {z : Int} {y : T.den} (hy : l[z.toNat]? = some y) (off : Nat) :
    ∃ ad vs, den E (.eptr j z T.size off) = .pointer (some ad) ∧ (∀ n u, vs[off + n]? = some u → W.cell? (ad.add n) = some u) ∧ Reps (still c E) W T y vs := by
  obtain ⟨_, _, h3, _⟩ := hM.at_ j _ hj
  simp only [AtomAt, den] at h3
  obtain ⟨vs, ⟨h1, h2⟩, h4⟩ := h3
  have hlt := (List.getElem?_eq_some_iff.1 hy).1
  obtain ⟨ws, q1, q2⟩ := h4.get _ _ hy
  rcases h2 with ⟨_, hn⟩ | ⟨b, cap, cur, hv, hg, hh, hcap, hmax, hsz, ht⟩
  · omega
  · injection hv with e1 e2 e3
    refine ⟨(⟨b, 0, none⟩ : Addr).add (z.toNat * T.size + off), ws, by simp [den, e1], fun n u hu => ?_, q1⟩
    have h5 := q2 _ u hu
    rw [Addr.add_add, Addr.add_lit, Nat.add_assoc]
    simp only [World.cell?, hh, Nat.zero_add]
    have hlt : z.toNat * T.size + (off + n) < l.length * T.size := by rw [← h1]; exact (List.getElem?_eq_some_iff.1 h5).1
    rw [← ht, List.getElem?_take_of_lt hlt] at h5
    simpa using h5

/-- The elements of cells that lie in a row, k apart. -/
theorem rowUp_rep {E : Env} {p : Nat → Prop} {g : Nat → Option Atom} {W : World} (hM : SatM c E p g W) {T : Ty} {k : Nat} : ∀ (n : Nat) (ss : List SV), (∀ j, .own j ∈ ss → g j = getM j M) → ∀ (z : Nat) (y : T.den), (rowUp M T k n ss)[z]? = some y →
    ∃ vs, Reps (still c E) W T y vs ∧ ∀ m u, vs[m]? = some u → (denL E ss)[z * k + m]? = some u
  | 0, ss, _, z, y, h => by simp [rowUp] at h
  | n + 1, ss, hg, z, y, h => by
    simp only [rowUp] at h
    cases hr : leavesOf M false (tysOf T) ss with
    | none => simp [hr] at h
    | some w =>
      obtain ⟨ls, q⟩ := w
      simp only [hr] at h
      obtain ⟨h1, h2, h3⟩ := leavesOf_rep (ks := []) hM _ _ _ _ hr (by simp) hg
      rw [tysOf_length] at h1
      cases hu : unflat T ls with
      | none => simp [hu] at h
      | some w =>
        obtain ⟨x, rest⟩ := w
        cases rest with
        | cons _ _ => simp [hu] at h
        | nil =>
          simp only [hu] at h
          obtain ⟨v1, v2, e1, h7, h8⟩ := unflat_reps T ls x [] hu _ h1
          cases h8
          rw [List.append_nil] at e1
          cases z with
          | zero =>
            simp only [List.getElem?_cons_zero, Option.some.injEq] at h
            subst h
            refine ⟨v1, h7.mono (fun b hb => seen_false hb) fun _ _ => rfl, fun m u hm => ?_⟩
            rw [← e1] at hm
            rw [Nat.zero_mul, Nat.zero_add]
            have hlt : m < T.size := by
              have := (List.getElem?_eq_some_iff.1 hm).1
              simp only [List.length_take] at this
              omega
            rwa [List.getElem?_take_of_lt hlt] at hm
          | succ z =>
            simp only [List.getElem?_cons_succ] at h
            obtain ⟨vs, q1, q2⟩ := rowUp_rep hM n (dropN k ss) (fun j hj => hg j (by rw [dropN_eq] at hj; exact List.mem_of_mem_drop hj)) z y h
            refine ⟨vs, q1, fun m u hm => ?_⟩
            have := q2 m u hm
            rw [dropN_eq, denL_drop, List.getElem?_drop] at this
            rw [Nat.succ_mul, show z * k + k + m = k + (z * k + m) from by omega]
            exact this

theorem mem_ownK {j : Nat} : ∀ {ss : List SV}, .own j ∈ ss → j ∈ ownK ss
  | [], h => by simp at h
  | s :: r, h => by
    simp only [List.mem_cons] at h
    rcases h with rfl | h
    · simp [ownK]
    · have := mem_ownK h
      cases s <;> simp_all [ownK]

/-- Keys that are read, and are in use, are as M says. -/
theorem get_own {p : Nat → Prop} {g : Nat → Option Atom} {rds : List Nat} {ss : List SV} (hg : ∀ k, k ∈ rds → ¬ (key ≤ k ∧ k < key + 8) → g k = getM k M) (hk : ∀ q, q < 8 → ¬ p (key + q)) (hok : okL p ss) (hs : ∀ j, j ∈ ownK ss → j ∈ rds) :
    ∀ j, .own j ∈ ss → g j = getM j M := by
  intro j hj
  refine hg j (hs j (mem_ownK hj)) fun hh => ?_
  have hp : p j := (okL_iff p ss).1 hok _ hj
  exact hk (j - key) (by omega) (by rw [show key + (j - key) = j from by omega]; exact hp)
end
end Go.VM

/-
The operations, fourth part: stores.
-/
set_option linter.unusedVariables false
set_option linter.unusedSimpArgs false
namespace Go.VM
open Go.RowKit
section
variable {tab : Nat → Option TI} {P : Program} {c : Ctx} {key : Nat} {fr : List (Nat × SV)} {M : List (Nat × Atom)} {K : Res → Prop} {o : Oper}

/-! ### Stores -/
theorem run_storeAt {t : Nat} (hT : TabOK tab P) {i : TI} (hi : tab t = some i) {E : Env} {s : SV} (h1 : allOne s.cells = true) (hl : lenL s.cells = i.size) {W : World} {b off : Nat} {cur : List Value} {ty : Nat}
    (hb : W.heap[b]? = some (.cells cur.toArray ty (0, 0))) (hlen : off + s.cells.length ≤ cur.length) :
    (Instr.storeAt t (.pointer (some ⟨b, off, none⟩)) (den E s)).run P W = .ok () (W.setRow b (cur.take off ++ denL E s.cells ++ cur.drop (off + s.cells.length)).toArray) := by
  obtain ⟨I, h2, h3, _⟩ := hT.info t i hi
  have := run_storeCells_at (P := P) b off ty (denL E s.cells) 0 cur.toArray W hb (by simp [denL_length]; omega) (allOne_spec E _ h1)
  simp only [Nat.add_zero, denL_length] at this
  rw [lenL_eq] at hl
  simp [Instr.storeAt, Instr.sureAddr, storeVar, cells_den', sizeOf, run_typeInfo W h2, h3, denL_length, hl, this]

theorem Fr.setRow (w : World) (b : Nat) (cs : Array Value) : Fr [b] w (w.setRow b cs) :=
  ⟨rfl, rfl, rfl, by simp, fun k _ hS => setRow_other w b k cs (by simpa using hS)⟩

theorem upd_one {g : Nat → Option Atom} {j : Nat} {A : Atom} {c : Ctx} {E : Env} {p : Nat → Prop} {W : World} (hM : SatM c E p g W) {B : Atom} (hgj : g j = some B) :
    (∀ k, k ≠ j → ∀ A', gUpd g [(j, some A)] k = some A' → g k = some A' ∧ ∀ b, b ∈ footOf E k A' → b ∉ footOf E j B) ∧ (∀ A', gUpd g [(j, some A)] j = some A' → A' = A) := by
  refine ⟨fun k hne A' h => ?_, fun A' h => by simpa [gUpd] using h.symm⟩
  have : g k = some A' := by simpa [gUpd, hne] using h
  exact ⟨this, hM.dj k j A' B this hgj hne⟩

theorem snd_store_box {t : Nat} {x y : Operand} (hT : TabOK tab P) (ho : o.op = .store t x y) {i : TI} (hi : tab t = some i) {s : SV} (hs : ev fr y = some s) (h1 : allOne s.cells = true) (hl : lenL s.cells = i.size) (h0 : i.size ≠ 0)
    {j off : Nat} (hx : ev fr x = some (.ptr j off)) {cs : List SV} {ty : Nat} (hj : getM j M = some (.box cs ty true)) {cs' : List SV} (hcs : setAt off s.cells cs = some cs') :
    OpOK P c key o fr M ⟨.v undef, [(j, some (.box cs' ty true))], 0, [], false⟩ := by
  refine ⟨Nat.zero_le _, fun E p a W g hM hg hk hop next Q hn => ?_⟩
  obtain ⟨h2, h3⟩ := hop x (by simp [ho, Op.operands]) _ hx
  obtain ⟨h4, h5⟩ := hop y (by simp [ho, Op.operands]) _ hs
  have hgj := getM_of hM (fun k hk' => hg k (by simp at hk'; simp [hk', keysU])) h2 hk hj
  obtain ⟨_, h6, h7, hfz, h8⟩ := hM.at_ j _ hgj
  have nfz : ¬ E.fz (E.blk j) := by simpa [Atom.fzn] using hfz
  obtain ⟨e1, e2⟩ := setAt_eq _ _ _ _ (by intro e; rw [e, lenL] at hl; omega) hcs
  have hst := run_storeAt hT hi (E := E) h1 hl (W := W) (b := E.blk j) (off := off) h7 (by rw [denL_length]; exact e1)
  rw [← denL_take, ← denL_drop, ← denL_append, ← denL_append, ← e2] at hst
  obtain ⟨u1, u2⟩ := upd_one (A := .box cs' ty true) hM hgj
  refine wp_skip' (W' := W.setRow (E.blk j) (denL E cs').toArray) ?_ ?_
  · simp [execOp, ho, h3, h5, den, hst]
  · have hw := h8 (E.blk j) (by simp [footOf])
    refine hn E _ (Agree.refl p E) ?_ trivial
    simp only [or_nk0]
    refine hM.one (Agree.refl p E) ⟨rfl, rfl, rfl, rfl⟩ (fun _ h => h) (Fr.setRow W (E.blk j) _) (fun b hb => ?_) j (.box cs' ty true) (fun k hne A hA => ?_) u2 ⟨h2, ?_, setRow_heap W _ _ _ _ _ h7, (by simp [Atom.mine]), fun b hb => ?_⟩
    · simp at hb
      subst hb
      exact ⟨hw.2.resolve_left (by simp [Atom.isRnd]), nfz⟩
    · obtain ⟨q1, q2⟩ := u1 k hne A hA
      exact ⟨q1, by simpa [footOf] using q2⟩
    · rw [e2]
      simp only [Atom.ok]
      refine (okL_iff p _).2 fun s' hs' => ?_
      simp only [List.mem_append] at hs'
      rcases hs' with (hs' | hs') | hs'
      · exact (okL_iff p cs).1 h6 s' (List.mem_of_mem_take hs')
      · exact (okL_iff p _).1 (cells_ok s h4) s' hs'
      · exact (okL_iff p cs).1 h6 s' (List.mem_of_mem_drop hs')
    · simp only [footOf, List.mem_singleton] at hb
      subst hb
      exact .inr (by simp)

theorem take_set_range {α : Type} (cur xs : List α) (off N : Nat) (h : off + xs.length ≤ N) (hN : N ≤ cur.length) :
    (cur.take off ++ xs ++ cur.drop (off + xs.length)).take N = (cur.take N).take off ++ xs ++ (cur.take N).drop (off + xs.length) := by
  rw [List.take_append, List.take_append]
  simp only [List.length_append, List.length_take]
  rw [List.take_take, List.take_take, Nat.min_eq_left (show off ≤ cur.length by omega)]
  rw [List.take_of_length_le (show xs.length ≤ N - off by omega)]
  rw [Nat.min_comm off N, List.drop_take]

end

theorem leafL_rep (E : Env) (B : Nat → Prop) (W : World) : ∀ (ss : List SV) (ls : List Leaf), leafL ss = some ls → LRepL B W ls (denL E ss)
  | [], ls, h => by simp only [leafL, Option.some.injEq] at h; subst h; rfl
  | s :: r, ls, h => by
    simp only [leafL] at h
    cases hx : leaf0 [] false none s with
    | none => simp [hx] at h
    | some x =>
      simp only [hx] at h
      cases hr : leafL r with
      | none => simp [hr] at h
      | some l =>
        simp only [hr, Option.some.injEq] at h
        subst h
        refine ⟨den E s, denL E r, rfl, ?_, leafL_rep E B W r l hr⟩
        cases s with
        | v y =>
          cases y with
          | int k z => simp [leaf0] at hx; subst hx; rfl
          | bool b => simp [leaf0] at hx; subst hx; rfl
          | slice A n q =>
            cases A <;> cases n <;> cases q <;> simp [leaf0] at hx
          | _ => simp [leaf0] at hx
        | own j => simp [leaf0, getM] at hx
        | _ => simp [leaf0] at hx

theorem setL_eq : ∀ (n : Nat) (xs l : List Leaf), n + xs.length ≤ l.length → setL n xs l = l.take n ++ xs ++ l.drop (n + xs.length)
  | _, [], l, h => by simp [setL]
  | 0, x :: xs, [], h => by simp at h
  | 0, x :: xs, _ :: r, h => by
    simp only [List.length_cons] at h
    simp only [setL, setL_eq 0 xs r (by omega)]
    simp
  | n + 1, x :: xs, [], h => by simp at h
  | n + 1, x :: xs, y :: r, h => by
    simp only [List.length_cons] at h
    simp only [setL, setL_eq n (x :: xs) r (by simp; omega)]
    simp only [List.length_cons, List.take_succ_cons, List.cons_append]
    rw [show n + 1 + (xs.length + 1) = (n + (xs.length + 1)) + 1 from by omega, List.drop_succ_cons]

theorem setL_len : ∀ (n : Nat) (xs l : List Leaf), (setL n xs l).length = l.length
  | _, [], l => by simp [setL]
  | 0, x :: xs, [] => by simp [setL]
  | 0, x :: xs, _ :: r => by simp [setL, setL_len 0 xs r]
  | n + 1, x :: xs, [] => by simp [setL]
  | n + 1, x :: xs, y :: r => by simp [setL, setL_len n (x :: xs) r]

theorem RepsL.set {B : Nat → Prop} {W : World} {t : Ty} {e : t.den} {ws : List Value} (he : Reps B W t e ws) : ∀ {l : List t.den} {vs : List Value} (i : Nat), RepsL B W t l vs → i < l.length → RepsL B W t (l.set i e) (vs.take (i * t.size) ++ ws ++ vs.drop (i * t.size + t.size))
  | [], vs, i, h, hi => by simp at hi
  | x :: r, vs, 0, h, hi => by
    obtain ⟨v1, v2, rfl, h2, h3⟩ := h
    refine ⟨ws, v2, ?_, he, h3⟩
    simp [List.drop_left' h2.length]
  | x :: r, vs, i + 1, h, hi => by
    obtain ⟨v1, v2, rfl, h2, h3⟩ := h
    have hl := h2.length
    refine ⟨v1, _, ?_, h2, RepsL.set he i h3 (by simpa using hi)⟩
    rw [Nat.succ_mul, List.take_append, List.drop_append, hl, List.take_of_length_le (by rw [hl]; omega), List.drop_of_length_le (by rw [hl]; omega)]
    simp only [List.nil_append, List.append_assoc]
    rw [show i * t.size + t.size - t.size = i * t.size from by omega, show i * t.size + t.size + t.size - t.size = i * t.size + t.size from by omega]

section
variable {tab : Nat → Option TI} {P : Program} {c : Ctx} {key : Nat} {fr : List (Nat × SV)} {M : List (Nat × Atom)} {K : Res → Prop} {o : Oper}

theorem drop_split {α : Type} (vs : List α) (a m n : Nat) (h : m ≤ n) : vs.drop (a + m) = (vs.drop (a + m)).take (n - m) ++ vs.drop (a + n) := by
  have := (List.take_append_drop (n - m) (vs.drop (a + m))).symm
  rw [List.drop_drop, show a + m + (n - m) = a + n from by omega] at this
  exact this

/-- A store into an element of a row of one's own. -/
theorem snd_store_elt {t : Nat} {x y : Operand} (hT : TabOK tab P) (ho : o.op = .store t x y) {i : TI} (hi : tab t = some i) {s : SV} (hs : ev fr y = some s) (h1 : allOne s.cells = true) (hl : lenL s.cells = i.size) (h0 : i.size ≠ 0)
    {j ty : Nat} {q : Int} {T : Ty} {z : Nat} (hx : ev fr x = some (.eptr j q T.size z)) {l : List T.den} (hj : getM j M = some (.own ty T l)) {ls : List Leaf} (hls : leafL s.cells = some ls) {e : T.den} (he : unflat T (setL z ls (flat T (rd T.dflt l q))) = some (e, []))
    (hb : inB q l.length = true) (hz : z + i.size ≤ T.size) : OpOK P c key o fr M ⟨.v undef, [(j, some (.own ty T (wr l q e)))], 0, [], false⟩ := by
  refine ⟨Nat.zero_le _, fun E p a W g hM hg hk hop next Q hn => ?_⟩
  obtain ⟨h2, h3⟩ := hop x (by simp [ho, Op.operands]) _ hx
  obtain ⟨h4, h5⟩ := hop y (by simp [ho, Op.operands]) _ hs
  have hgj := getM_of hM (fun k hk' => hg k (by simp at hk'; simp [hk', keysU])) h2 hk hj
  obtain ⟨_, _, h7, hfz, h8⟩ := hM.at_ j _ hgj
  simp only [AtomAt, den] at h7
  obtain ⟨vs, ⟨hvl, h9⟩, hreps⟩ := h7
  obtain ⟨q0, q1⟩ := inB_iff hb
  have hget := rd_get (d := T.dflt) hb
  have hql : q.toNat < l.length := by omega
  rcases h9 with ⟨_, hn0⟩ | ⟨b, cap, cur, hval, hlo, hh, hcap, hmax, hsize, ht⟩
  · omega
  · have hval' := hval
    injection hval' with hA hn' hc'
    have hsl : s.cells.length = i.size := by rw [← lenL_eq]; exact hl
    have hrange : q.toNat * T.size + T.size ≤ l.length * T.size := by
      have := Nat.mul_le_mul_right T.size (Nat.succ_le_of_lt hql)
      rwa [Nat.succ_mul] at this
    have hNc : l.length * T.size ≤ cur.toList.length := by
      have : l.length * T.size ≤ cap * T.size := Nat.mul_le_mul_right _ hcap
      simp only [Array.length_toList]
      omega
    have hst := run_storeAt hT hi (E := E) h1 hl (W := W) (b := b) (off := q.toNat * T.size + z) (cur := cur.toList) (by simpa using hh) (by rw [hsl]; omega)
    generalize hnew : cur.toList.take (q.toNat * T.size + z) ++ denL E s.cells ++ cur.toList.drop (q.toNat * T.size + z + s.cells.length) = new at hst
    have hdl : (denL E s.cells).length = i.size := by rw [denL_length, hsl]
    have hnl : new.length = cur.size := by
      rw [← hnew]
      simp only [List.length_append, List.length_take, List.length_drop, Array.length_toList, hdl, hsl] at hNc ⊢
      omega
    have hfoot : ∀ A' : List T.den, footOf E j (.own ty T A') = [b] := fun A' => by simp [footOf, hA]
    have nfz : ¬ E.fz b := hfz ⟨b, 0, none⟩ hA
    have hw := h8 b (by rw [hfoot]; simp)
    have hlo' : c.w0.heap.size ≤ b := hw.2.resolve_left (by simp [Atom.isRnd])
    -- the new element
    obtain ⟨ws, hws, hwc⟩ := hreps.get _ _ hget
    have hwl := hws.length
    have hold := reps_flat T _ _ hws
    have hfl : (flat T (rd T.dflt l q)).length = T.size := by rw [← hold.length, hwl]
    have hlsl : ls.length = i.size := by rw [← (leafL_rep E (still c E) W _ _ hls).length, hdl]
    have hnewe : LRepL (still c E) W (setL z ls (flat T (rd T.dflt l q))) (ws.take z ++ denL E s.cells ++ ws.drop (z + i.size)) := by
      rw [setL_eq _ _ _ (by rw [hlsl, hfl]; omega), hlsl]
      exact ((hold.take z).append (leafL_rep E _ W _ _ hls)).append (hold.drop _)
    obtain ⟨u1, u2, e1, e2, e3⟩ := unflat_reps T _ _ _ he _ hnewe
    cases e3
    rw [List.append_nil] at e1
    have hset := RepsL.set e2 q.toNat hreps hql
    rw [← e1] at hset
    have hwsv : ws = (vs.drop (q.toNat * T.size)).take T.size := by
      apply List.ext_getElem?
      intro n
      rcases Nat.lt_or_ge n T.size with hn | hn
      · rw [List.getElem?_take_of_lt hn, List.getElem?_drop]
        rw [← hwl] at hn
        rw [List.getElem?_eq_getElem hn]
        exact (hwc n _ (List.getElem?_eq_getElem hn)).symm
      · rw [List.getElem?_eq_none (by omega), List.getElem?_eq_none (by simp only [List.length_take, List.length_drop]; omega)]
    have hvs' : vs.take (q.toNat * T.size) ++ (ws.take z ++ denL E s.cells ++ ws.drop (z + i.size)) ++ vs.drop (q.toNat * T.size + T.size) = vs.take (q.toNat * T.size + z) ++ denL E s.cells ++ vs.drop (q.toNat * T.size + z + i.size) := by
      rw [hwsv, List.take_take, Nat.min_eq_left (by omega : z ≤ T.size), List.drop_take, List.drop_drop, List.take_add]
      have : vs.drop (q.toNat * T.size + z + i.size) = (vs.drop (q.toNat * T.size + (z + i.size))).take (T.size - (z + i.size)) ++ vs.drop (q.toNat * T.size + T.size) := by
        rw [Nat.add_assoc]
        exact drop_split vs _ _ _ hz
      rw [this]
      simp only [List.append_assoc]
    rw [hvs'] at hset
    obtain ⟨w1, w2⟩ := upd_one (A := .own ty T (wr l q e)) hM hgj
    refine wp_skip' (W' := W.setRow b new.toArray) ?_ ?_
    · simp [execOp, ho, h3, h5, den, hA, Addr.add_lit, hst]
    · refine hn E _ (Agree.refl p E) ?_ trivial
      simp only [or_nk0]
      have hT' : ∀ b', b' ∈ [b] → c.w0.heap.size ≤ b' ∧ ¬ E.fz b' := fun b' hb' => by simp only [List.mem_singleton] at hb'; subst hb'; exact ⟨hlo', nfz⟩
      refine hM.one (Agree.refl p E) ⟨rfl, rfl, rfl, rfl⟩ (fun _ h => h) (Fr.setRow W b _) hT' j (.own ty T (wr l q e)) (fun k hne A hA' => ?_) w2 ⟨h2, trivial, ?_, (by simp [Atom.mine]), fun b' hb' => ?_⟩
      · obtain ⟨r1, r2⟩ := w1 k hne A hA'
        exact ⟨r1, by rw [hfoot] at r2; exact r2⟩
      · simp only [AtomAt, den]
        refine ⟨vs.take (q.toNat * T.size + z) ++ denL E s.cells ++ vs.drop (q.toNat * T.size + z + i.size), ⟨?_, .inr ⟨b, cap, new.toArray, by rw [hval]; simp [wr], hlo, setRow_heap W _ _ _ _ _ hh, by simpa [wr] using hcap, hmax, by simpa [hnl] using hsize, ?_⟩⟩, ?_⟩
        · simp only [List.length_append, List.length_take, List.length_drop, hdl, hvl, wr, List.length_set]
          omega
        · rw [List.toList_toArray, ← hnew, hsl, wr, List.length_set]
          rw [← hdl, take_set_range _ _ _ _ (by rw [hdl]; omega) hNc, ht]
        · exact hset.mono (fun _ h => h) (still_same hM (Fr.setRow W b _) hT')
      · rw [hfoot] at hb'
        exact .inr hb'
end
end Go.VM

/-
The operations, fifth part: numbers, addresses, values that are built.
-/
set_option linter.unusedVariables false
set_option linter.unusedSimpArgs false
namespace Go.VM
open Go.RowKit
/-! ### Stops of arithmetic -/
def arith (op : BinOp) (k : IntKind) (a b z : Int) : Prop :=
  match op with
  | .add => z = k.wrap (a + b)
  | .sub => z = k.wrap (a - b)
  | .mul => z = k.wrap (a * b)
  | .quo => b ≠ 0 ∧ z = k.wrap (a.tdiv b)
  | .rem => b ≠ 0 ∧ z = a.tmod b
  | .and => z = k.wrap ((BitVec.ofInt k.bits a &&& BitVec.ofInt k.bits b).toNat : Int)
  | .or => z = k.wrap ((BitVec.ofInt k.bits a ||| BitVec.ofInt k.bits b).toNat : Int)
  | .andNot => z = k.wrap ((BitVec.ofInt k.bits a &&& ~~~ BitVec.ofInt k.bits b).toNat : Int)
  | .shl => 0 ≤ b ∧ z = k.wrap (a * 2 ^ (min b.toNat k.bits))
  | .shr => 0 ≤ b ∧ z = a.fdiv (2 ^ (min b.toNat k.bits))
  | _ => False

def cmpB (op : BinOp) (a b : Int) : Prop :=
  match op with
  | .eql => a = b
  | .neq => a ≠ b
  | .lss => a < b
  | .leq => a ≤ b
  | .gtr => b < a
  | .geq => b ≤ a
  | _ => False



theorem mapM_get {α β : Type} (f : α → Option β) : ∀ (l : List α) (q : List β), l.mapM f = some q → ∀ (n : Nat) (y : β), q[n]? = some y → ∃ x, l[n]? = some x ∧ f x = some y
  | [], q, h, n, y, hy => by simp at h; subst h; simp at hy
  | x :: r, q, h, n, y, hy => by
    simp only [List.mapM_cons, Option.bind_eq_bind, Option.pure_def, Option.bind_eq_some_iff] at h
    obtain ⟨b, hb, q', hq', e⟩ := h
    injection e with e
    subst e
    cases n with
    | zero => simp at hy; subst hy; exact ⟨x, by simp, hb⟩
    | succ n =>
      simp at hy
      obtain ⟨z, h1, h2⟩ := mapM_get f r q' hq' n y hy
      exact ⟨z, by simpa using h1, h2⟩

theorem foldl_set (off : Nat) : ∀ (vs : List Value) (k : Nat) (cs : Array Value), off + k + vs.length ≤ cs.size →
    (vs.zipIdx k).foldl (fun cs (x : Value × Nat) => cs.setIfInBounds (off + x.2) x.1) cs = (cs.toList.take (off + k) ++ vs ++ cs.toList.drop (off + k + vs.length)).toArray
  | [], k, cs, _ => by simp
  | v :: r, k, cs, h => by
    simp only [List.length_cons] at h
    simp only [List.zipIdx_cons, List.foldl_cons, List.length_cons]
    rw [foldl_set off r (k + 1) _ (by simp; omega)]
    apply Array.ext'
    simp only [Array.toList_setIfInBounds]
    rw [List.drop_set_of_lt (by omega), show off + (k + 1) + r.length = off + k + (r.length + 1) from by omega]
    rw [List.take_set, show off + (k + 1) = off + k + 1 from by omega, List.take_succ_eq_append_getElem (by simp; omega)]
    rw [List.set_append_right _ _ (by simp; omega)]
    simp [Nat.min_eq_left (show off + k ≤ cs.size by omega)]

/-- 'fill' is what 'bld' does. -/
theorem bld_fill {fr : List (Nat × SV)} {place : Nat → Option (Nat × Nat)} :
    ∀ (parts : List (Nat × Operand)) (cs : List SV) {R : Type} (L : List SV → Tree R) (ret : R), (vmOp.bldV fr place cs parts L).eval = some ret →
      ∃ l, (L l).eval = some ret ∧ ∀ (E : Env) (p : Nat → Prop) (ρ : Operand → Value), okL p cs → (∀ x, x ∈ parts.map (·.2) → ∀ s, ev fr x = some s → s.ok p ∧ ρ x = den E s) →
        okL p l ∧ Instr.fill place (denL E cs).toArray (parts.map fun x => (x.1, ρ x.2)) = some (denL E l).toArray
  | [], cs, _, L, ret, h => ⟨cs, h, fun E p ρ hcs _ => ⟨hcs, rfl⟩⟩
  | (f, x) :: r, cs, _, L, ret, h => by
    simp only [vmOp.bldV] at h
    cases hx : ev fr x with
    | none => simp [hx, Tree.eval] at h
    | some s =>
      simp only [hx] at h
      cases hp : place f with
      | none => simp [hp, Tree.eval] at h
      | some q =>
        obtain ⟨off, sz⟩ := q
        simp only [hp] at h
        cases hb : Nat.beq (lenL s.cells) sz with
        | false => simp [hb, Tree.eval] at h
        | true =>
          cases sz with
          | zero => simp [hb, Tree.eval] at h
          | succ sz' =>
            simp only [hb] at h
            have hl : s.cells.length = sz' + 1 := by rw [← lenL_eq]; exact Nat.eq_of_beq_eq_true hb
            cases hs : setAt off s.cells cs with
            | none => simp [hs, Tree.eval] at h
            | some cs' =>
              simp only [hs] at h
              have hnil : s.cells ≠ [] := by intro e; rw [e] at hl; simp at hl
              obtain ⟨e1, e2⟩ := setAt_eq _ _ _ _ hnil hs
              obtain ⟨l, h3, h4⟩ := bld_fill r cs' L ret h
              refine ⟨l, h3, fun E p ρ hcs hop => ?_⟩
              obtain ⟨h1, h2⟩ := hop x (by simp) s hx
              have hok' : okL p cs' := by
                rw [e2]
                refine (okL_iff p _).2 fun s' hs' => ?_
                simp only [List.mem_append] at hs'
                rcases hs' with (hs' | hs') | hs'
                · exact (okL_iff p cs).1 hcs s' (List.mem_of_mem_take hs')
                · exact (okL_iff p _).1 (cells_ok s h1) s' hs'
                · exact (okL_iff p cs).1 hcs s' (List.mem_of_mem_drop hs')
              obtain ⟨h5, h6⟩ := h4 E p ρ hok' (fun y hy => hop y (by simp at hy ⊢; exact .inr hy))
              refine ⟨h5, ?_⟩
              simp only [List.map_cons, Instr.fill, hp, h2, cells_den']
              rw [if_neg (by simp [denL_length, hl]; omega)]
              have := foldl_set off (denL E s.cells) 0 (denL E cs).toArray (by simp [denL_length]; omega)
              rw [← Array.foldl_toList, Array.toList_zipIdx]
              rw [Nat.add_zero, denL_length] at this
              rw [this]
              rw [e2] at h6
              simpa [denL_append, denL_take, denL_drop] using h6
section
variable {tab : Nat → Option TI} {P : Program} {c : Ctx} {key : Nat} {fr : List (Nat × SV)} {M : List (Nat × Atom)} {K : Res → Prop} {o : Oper}
theorem snd_nilCheck {x : Operand} (ho : o.op = .nilCheck x) {s : SV} (hx : ev fr x = some s) (hs : (∃ j off, s = .ptr j off) ∨ (∃ j q z, s = .eptr j q 0 z ∧ True) ∨ (∃ g a b, s = .fn (.func g) a b)) :
    OpOK P c key o fr M (.val s) :=
  .pure fun E p a W _ _ hop => by
    obtain ⟨h1, h2⟩ := hop x (by simp [ho, Op.operands]) _ hx
    refine ⟨h1, ?_⟩
    rcases hs with ⟨j, off, rfl⟩ | ⟨j, q, z, rfl, _⟩ | ⟨g, y, z, rfl⟩ <;> simp [execOp, ho, h2, den]

theorem snd_arith {op : BinOp} {xt yt : Nat} {x y : Operand} (ho : o.op = .binOp op xt x y yt) {k k' : IntKind} {m n z : Int} (hx : ev fr x = some (.v (.int k m))) (hy : ev fr y = some (.v (.int k' n)))
    (hk : k = k' ∨ op = .shl ∨ op = .shr) (h : arith op k m n z) : OpOK P c key o fr M (.val (.v (.int k z))) :=
  .pure fun E p a W _ _ hop => by
    have h1 := (hop x (by simp [ho, Op.operands]) _ hx).2
    have h2 := (hop y (by simp [ho, Op.operands]) _ hy).2
    simp only [den] at h1 h2
    refine ⟨trivial, ?_⟩
    cases op <;> simp only [arith] at h <;> (try (exact h.elim))
    case add => obtain rfl := hk.resolve_right (by simp); simp [execOp, ho, h1, h2, eqGuard, binOp, Op.intArith, den, h]
    case sub => obtain rfl := hk.resolve_right (by simp); simp [execOp, ho, h1, h2, eqGuard, binOp, Op.intArith, den, h]
    case mul => obtain rfl := hk.resolve_right (by simp); simp [execOp, ho, h1, h2, eqGuard, binOp, Op.intArith, den, h]
    case quo => obtain rfl := hk.resolve_right (by simp); simp [execOp, ho, h1, h2, eqGuard, binOp, Op.intDiv, den, h.1, h.2]
    case rem => obtain rfl := hk.resolve_right (by simp); simp [execOp, ho, h1, h2, eqGuard, binOp, Op.intDiv, den, h.1, h.2]
    case and => obtain rfl := hk.resolve_right (by simp); simp [execOp, ho, h1, h2, eqGuard, binOp, Op.intBits, den, h]
    case or => obtain rfl := hk.resolve_right (by simp); simp [execOp, ho, h1, h2, eqGuard, binOp, Op.intBits, den, h]
    case andNot => obtain rfl := hk.resolve_right (by simp); simp [execOp, ho, h1, h2, eqGuard, binOp, Op.intBits, den, h]
    case shl => simp [execOp, ho, h1, h2, eqGuard, binOp, Op.shift, den, Int.not_lt.2 h.1, h.2]
    case shr => simp [execOp, ho, h1, h2, eqGuard, binOp, Op.shift, den, Int.not_lt.2 h.1, h.2]

theorem snd_cmp {op : BinOp} {xt yt : Nat} {x y : Operand} (ho : o.op = .binOp op xt x y yt) {k : IntKind} {m n : Int} (hx : ev fr x = some (.v (.int k m))) (hy : ev fr y = some (.v (.int k n)))
    (hop' : op = .eql ∨ op = .neq ∨ op = .lss ∨ op = .leq ∨ op = .gtr ∨ op = .geq) {b : Bool} (hb : b = true ↔ cmpB op m n) : OpOK P c key o fr M (.val (.v (.bool b))) :=
  .pure fun E p a W _ _ hop => by
    have h1 := (hop x (by simp [ho, Op.operands]) _ hx).2
    have h2 := (hop y (by simp [ho, Op.operands]) _ hy).2
    simp only [den] at h1 h2
    refine ⟨trivial, ?_⟩
    rcases hop' with rfl | rfl | rfl | rfl | rfl | rfl <;> simp only [cmpB] at hb
    · obtain rfl : b = (m == n) := by rw [Bool.eq_iff_iff, hb, beq_iff_eq]
      simp [execOp, ho, h1, h2, eqGuard, binOp, Op.intCmp, den]
    · obtain rfl : b = (m != n) := by rw [Bool.eq_iff_iff, hb, bne_iff_ne]
      simp [execOp, ho, h1, h2, eqGuard, binOp, Op.intCmp, den]
    · obtain rfl : b = decide (m < n) := by rw [Bool.eq_iff_iff, hb, decide_eq_true_eq]
      simp [execOp, ho, h1, h2, eqGuard, binOp, Op.intCmp, den]
    · obtain rfl : b = decide (m ≤ n) := by rw [Bool.eq_iff_iff, hb, decide_eq_true_eq]
      simp [execOp, ho, h1, h2, eqGuard, binOp, Op.intCmp, den]
    · obtain rfl : b = decide (m > n) := by rw [Bool.eq_iff_iff, hb, decide_eq_true_eq]
      simp [execOp, ho, h1, h2, eqGuard, binOp, Op.intCmp, den]
    · obtain rfl : b = decide (m ≥ n) := by rw [Bool.eq_iff_iff, hb, decide_eq_true_eq]
      simp [execOp, ho, h1, h2, eqGuard, binOp, Op.intCmp, den]

theorem snd_eqBool {op : BinOp} {xt yt : Nat} {x y : Operand} (hT : TabOK tab P) (ho : o.op = .binOp op xt x y yt) {m n : Bool} (hx : ev fr x = some (.v (.bool m))) (hy : ev fr y = some (.v (.bool n)))
    {i : TI} (hi : tab xt = some i) (hk : i.kind = 4) {b : Bool} (hb : (op = .eql ∧ b = (m == n)) ∨ (op = .neq ∧ b = !(m == n))) : OpOK P c key o fr M (.val (.v (.bool b))) :=
  .pure fun E p a W _ _ hop => by
    have h1 := (hop x (by simp [ho, Op.operands]) _ hx).2
    have h2 := (hop y (by simp [ho, Op.operands]) _ hy).2
    simp only [den] at h1 h2
    refine ⟨trivial, ?_⟩
    have hu := hT.bool _ _ hi hk
    rcases hb with ⟨rfl, rfl⟩ | ⟨rfl, rfl⟩
    · simp [execOp, ho, h1, h2, eqGuard, run_eql_bool W xt m n hu, den]
    · simp [execOp, ho, h1, h2, eqGuard, run_neq_bool W xt m n hu, den]

theorem snd_eqAgg {op : BinOp} {xt yt : Nat} {x y : Operand} (hT : TabOK tab P) (ho : o.op = .binOp op xt x y yt) {xs ys : List SV} (hx : ev fr x = some (.agg xs)) (hy : ev fr y = some (.agg ys))
    {i : TI} (hi : tab xt = some i) (he : i.eq = true) {us vs : List Value} (hu : unV xs = some us) (hv : unV ys = some vs) (ku : kindsOK us i.zero = true) (kv : kindsOK vs i.zero = true)
    {b : Bool} (hb : (op = .eql ∧ (b = true ↔ us = vs)) ∨ (op = .neq ∧ (b = true ↔ us ≠ vs))) : OpOK P c key o fr M (.val (.v (.bool b))) :=
  .pure fun E p a W _ _ hop => by
    have h1 := (hop x (by simp [ho, Op.operands]) _ hx).2
    have h2 := (hop y (by simp [ho, Op.operands]) _ hy).2
    rw [unV_eq _ _ hu] at h1
    rw [unV_eq _ _ hv] at h2
    simp only [den, denL_vals] at h1 h2
    refine ⟨trivial, ?_⟩
    obtain ⟨d, h3, h4⟩ := hT.eq _ _ hi he us vs ku kv W
    have hg := hT.eqg _ _ hi he
    rcases hb with ⟨rfl, hb⟩ | ⟨rfl, hb⟩
    · have : b = d := by rw [Bool.eq_iff_iff, hb, h4]
      subst this
      simp [execOp, ho, h1, h2, eqGuard, hg, binOp, h3, den]
    · have : b = !d := by rw [Bool.eq_iff_iff, hb, Bool.not_eq_true', ← Bool.not_eq_true, h4]
      subst this
      simp [execOp, ho, h1, h2, eqGuard, hg, binOp, h3, den]

theorem snd_not {t : Nat} {x : Operand} (ho : o.op = .unOp .not t x) {b : Bool} (hx : ev fr x = some (.v (.bool b))) : OpOK P c key o fr M (.val (.v (.bool !b))) :=
  .pure fun E p a W _ _ hop => by
    have h1 := (hop x (by simp [ho, Op.operands]) _ hx).2
    simp only [den] at h1
    exact ⟨trivial, by simp [execOp, ho, h1, Op.unary, den]⟩

theorem snd_neg {t : Nat} {x : Operand} (ho : o.op = .unOp .neg t x) {k : IntKind} {m z : Int} (hx : ev fr x = some (.v (.int k m))) (h : arith .sub k 0 m z) : OpOK P c key o fr M (.val (.v (.int k z))) :=
  .pure fun E p a W _ _ hop => by
    have h1 := (hop x (by simp [ho, Op.operands]) _ hx).2
    simp only [den] at h1
    simp only [arith] at h
    exact ⟨trivial, by simp [execOp, ho, h1, Op.unary, Op.intArith, den, h]⟩

theorem snd_fieldAddr {t f : Nat} {x : Operand} (hT : TabOK tab P) (ho : o.op = .fieldAddr t x f) {i : TI} (hi : tab t = some i) (hk : i.kind = 1) {off sz : Nat} (hf : nth2 f i.fields = some (off, sz + 1)) {s s' : SV}
    (hx : ev fr x = some s) (hs : (∃ j q, s = .ptr j q ∧ s' = .ptr j (q + off)) ∨ (∃ j q x k z, s = .xptr j q x k z ∧ s' = .xptr j q x k (z + off)) ∨ (∃ j x k z, s = .eptr j x k z ∧ s' = .eptr j x k (z + off))) :
    OpOK P c key o fr M (.val s') :=
  .val fun E p a W g hM hg hkk hop => by
    obtain ⟨h1, h2⟩ := hop x (by simp [ho, Op.operands]) _ hx
    obtain ⟨fs, h3, h4⟩ := hT.struct t i hi hk
    rw [nth2_eq] at hf
    obtain ⟨fd, h5, h6⟩ := mapM_get _ _ _ h4 f _ hf
    have h5' : fs[f]? = some fd := by simpa using h5
    cases hI : P.info? fd.type with
    | none => simp [hI] at h6
    | some I =>
      simp only [hI, Option.map_some, Option.some.injEq, Prod.mk.injEq] at h6
      obtain ⟨h6, h7⟩ := h6
      have hplace : ∀ ad : Addr, (fieldPlace ad fd).run P W = .ok (ad.add off) W := fun ad => by
        simp [fieldPlace, sizeOf, run_typeInfo W hI, h6, h7]
      have hgo : ∀ ad : Addr, den E s = .pointer (some ad) → (execOp a.eval o).run P W = .ok (.value (.pointer (some (ad.add off)))) W := fun ad e => by
        simp [execOp, ho, h2, e, Instr.fieldAt, run_underlying h3 W, h5', Instr.sureAddr, hplace]
      rcases hs with ⟨j, q, rfl, rfl⟩ | ⟨j, q, y, k, z, rfl, rfl⟩ | ⟨j, y, k, z, rfl, rfl⟩
      · exact ⟨h1, by rw [hgo _ (by simp [den]; rfl)]; simp [den, Addr.add_lit]⟩
      · exact ⟨h1, by rw [hgo _ (by simp [den]; rfl)]; simp [den, Addr.add_lit, Nat.add_assoc]⟩
      · refine ⟨h1, by rw [hgo _ (by simp [den]; rfl)]; simp [den]; unfold Addr.add; (repeat' split) <;> simp_all <;> omega⟩

end
end Go.VM

/-
The operations, sixth part: indexing, building.
-/
set_option linter.unusedVariables false
set_option linter.unusedSimpArgs false
namespace Go.VM
open Go.RowKit


theorem mapOpt_size {P : Program} {t n : Nat} (h : (P.info? t).map (·.size) = some n) (W : World) : (Go.sizeOf t).run P W = .ok n W := by
  cases hI : P.info? t with
  | none => simp [hI] at h
  | some I =>
    simp only [hI, Option.map_some, Option.some.injEq] at h
    simp [Go.sizeOf, run_typeInfo W hI, h]

section
variable {tab : Nat → Option TI} {P : Program} {c : Ctx} {key : Nat} {fr : List (Nat × SV)} {M : List (Nat × Atom)} {K : Res → Prop} {o : Oper}

theorem run_indexAt_of {t : Nat} {x : Value} {k : IntKind} {n : Int} {W : World} {a : Addr} {len esize : Nat} {i : TI} (hT : TabOK tab P) (hi : tab t = some i) (he : i.esize = esize) (h0 : 0 ≤ n) (h1 : n < (len : Int))
    (hx : (i.kind = 2 ∧ i.len = len ∧ x = .pointer (some a)) ∨ (i.kind = 3 ∧ ∃ cap, x = .slice (some a) len cap)) : (Instr.indexAt t x (.int k n)).run P W = .ok (.pointer (some (a.add (n.toNat * esize)))) W := by
  rcases hx with ⟨hk, hl, rfl⟩ | ⟨hk, cap, rfl⟩
  · obtain ⟨h3, h4⟩ := hT.arr t i hi hk
    rw [hl] at h3
    rw [he] at h4
    simp [Instr.indexAt, asIntOf, run_underlying h3 W, Instr.sureAddr, h0, h1, mapOpt_size h4 W]
  · obtain ⟨h3, h4⟩ := hT.slice t i hi hk
    rw [he] at h4
    simp [Instr.indexAt, asIntOf, run_underlying h3 W, h0, h1, mapOpt_size h4 W]

theorem snd_indexAddr_box {t : Nat} {x q : Operand} (hT : TabOK tab P) (ho : o.op = .indexAddr t x q) {i : TI} (hi : tab t = some i) (hk : i.kind = 2) {k : IntKind} {n : Int} (hq : ev fr q = some (.v (.int k n))) {j off : Nat}
    (hx : ev fr x = some (.ptr j off)) (h0 : 0 ≤ n) (h1 : n < (i.len : Int)) : OpOK P c key o fr M (.val (.ptr j (off + n.toNat * i.esize))) ∧ OpOK P c key o fr M (.val (.xptr j off n i.esize 0)) := by
  have main : ∀ (E : Env) (p : Nat → Prop) (a : Act) (W : World), (∀ x, x ∈ o.op.operands.toList → ∀ s, ev fr x = some s → s.ok p ∧ a.eval x = den E s) → p j ∧ (execOp a.eval o).run P W = .ok (.value (.pointer (some ⟨E.blk j, off + n.toNat * i.esize, none⟩))) W := by
    intro E p a W hop
    obtain ⟨h2, h3⟩ := hop x (by simp [ho, Op.operands]) _ hx
    have h4 := (hop q (by simp [ho, Op.operands]) _ hq).2
    simp only [den] at h3 h4
    refine ⟨h2, ?_⟩
    have := run_indexAt_of (P := P) (W := W) (k := k) (a := ⟨E.blk j, off, none⟩) (x := .pointer (some ⟨E.blk j, off, none⟩)) hT hi rfl h0 h1 (.inl ⟨hk, rfl, rfl⟩)
    simp [execOp, ho, h3, h4, this, Addr.add_lit]
  exact ⟨.pure fun E p a W _ _ hop => ⟨(main E p a W hop).1, by rw [(main E p a W hop).2]; simp [den]⟩, .pure fun E p a W _ _ hop => ⟨(main E p a W hop).1, by rw [(main E p a W hop).2]; simp [den]⟩⟩

theorem snd_indexAddr_sl {t : Nat} {x q : Operand} (hT : TabOK tab P) (ho : o.op = .indexAddr t x q) {i : TI} (hi : tab t = some i) (hk : i.kind = 3) {k : IntKind} {n : Int} (hq : ev fr q = some (.v (.int k n))) {j off len cap : Nat}
    (hx : ev fr x = some (.sl j off len cap)) (h0 : 0 ≤ n) (h1 : n < (len : Int)) : OpOK P c key o fr M (.val (.xptr j off n i.esize 0)) :=
  .pure fun E p a W _ _ hop => by
    obtain ⟨h2, h3⟩ := hop x (by simp [ho, Op.operands]) _ hx
    have h4 := (hop q (by simp [ho, Op.operands]) _ hq).2
    simp only [den] at h3 h4
    refine ⟨h2, ?_⟩
    have := run_indexAt_of (P := P) (W := W) (k := k) (a := ⟨E.blk j, off, none⟩) (len := len) hT hi rfl h0 h1 (.inr ⟨hk, cap, rfl⟩)
    simp [execOp, ho, h3, h4, this, Addr.add_lit, den]

theorem snd_indexAddr_own {t : Nat} {x q : Operand} (hT : TabOK tab P) (ho : o.op = .indexAddr t x q) {i : TI} (hi : tab t = some i) (hk : i.kind = 3) {k : IntKind} {n : Int} (hq : ev fr q = some (.v (.int k n))) {j : Nat}
    (hx : ev fr x = some (.own j)) {len : Nat} (hj : ∀ (E : Env) (p : Nat → Prop) (W : World) (g : Nat → Option Atom), SatM c E p g W → (∀ k, k ∈ [j] → ¬ (key ≤ k ∧ k < key + 8) → g k = getM k M) → (∀ q, q < 8 → ¬ p (key + q)) → p j → (E.slv j).2.1 = len ∧ ((E.slv j).1 = none → len = 0))
    (h0 : 0 ≤ n) (h1 : n < (len : Int)) : OpOK P c key o fr M ⟨.eptr j n i.esize 0, [], 0, [j], false⟩ :=
  .val fun E p a W g hM hg hkk hop => by
    obtain ⟨h2, h3⟩ := hop x (by simp [ho, Op.operands]) _ hx
    have h4 := (hop q (by simp [ho, Op.operands]) _ hq).2
    simp only [den] at h3 h4
    refine ⟨h2, ?_⟩
    obtain ⟨h5, h6⟩ := hj E p W g hM hg hkk h2
    cases hA : (E.slv j).1 with
    | none => have := h6 hA; omega
    | some b =>
      have := run_indexAt_of (P := P) (W := W) (k := k) (a := b) (x := .slice (some b) len (E.slv j).2.2) (len := len) hT hi rfl h0 h1 (.inr ⟨hk, _, rfl⟩)
      rw [hA, h5] at h3
      simp [execOp, ho, h3, h4, this, den, hA]

theorem snd_indexAddr_rop {t : Nat} {x q : Operand} (hT : TabOK tab P) (ho : o.op = .indexAddr t x q) {i : TI} (hi : tab t = some i) (hk : i.kind = 2) {k : IntKind} {n : Int} (hq : ev fr q = some (.v (.int k n))) {j off : Nat} {z : Int}
    (hx : ev fr x = some (.eptr j z 0 off)) (h0 : 0 ≤ n) (h1 : n < (i.len : Int)) : OpOK P c key o fr M (.val (.eptr j n i.esize off)) :=
  .pure fun E p a W _ _ hop => by
    obtain ⟨h2, h3⟩ := hop x (by simp [ho, Op.operands]) _ hx
    have h4 := (hop q (by simp [ho, Op.operands]) _ hq).2
    simp only [den] at h3 h4
    refine ⟨h2, ?_⟩
    have := run_indexAt_of (P := P) (W := W) (k := k) (a := ((E.slv j).1.getD ⟨0, 0, none⟩).add (z.toNat * 0 + off)) (x := .pointer (some (((E.slv j).1.getD ⟨0, 0, none⟩).add (z.toNat * 0 + off)))) hT hi rfl h0 h1 (.inl ⟨hk, rfl, rfl⟩)
    simp [execOp, ho, h3, h4, this, den, Addr.add_add] at this ⊢
    rw [this]
    simp [Nat.add_comm]

theorem snd_indexAddr_elem {t : Nat} {x q : Operand} (hT : TabOK tab P) (ho : o.op = .indexAddr t x q) {i : TI} (hi : tab t = some i) (hk : i.kind = 2) {k : IntKind} {n : Int} (hq : ev fr q = some (.v (.int k n))) {j s off : Nat} {z : Int}
    (hx : ev fr x = some (.eptr j z s off)) (h0 : 0 ≤ n) (h1 : n < (i.len : Int)) : OpOK P c key o fr M (.val (.eptr j z s (off + n.toNat * i.esize))) :=
  .pure fun E p a W _ _ hop => by
    obtain ⟨h2, h3⟩ := hop x (by simp [ho, Op.operands]) _ hx
    have h4 := (hop q (by simp [ho, Op.operands]) _ hq).2
    simp only [den] at h3 h4
    refine ⟨h2, ?_⟩
    have := run_indexAt_of (P := P) (W := W) (k := k) (a := ((E.slv j).1.getD ⟨0, 0, none⟩).add (z.toNat * s + off)) (x := .pointer (some (((E.slv j).1.getD ⟨0, 0, none⟩).add (z.toNat * s + off)))) hT hi rfl h0 h1 (.inl ⟨hk, rfl, rfl⟩)
    simp only [Addr.add_add, Nat.add_assoc] at this
    simp [execOp, ho, h3, h4, this, den, Addr.add_add, Nat.add_assoc]

theorem snd_extract {x : Operand} {n : Nat} (ho : o.op = .extract x n) {cs : List SV} (hx : ev fr x = some (.tup cs)) {s : SV} (hs : nthN n cs = some s) : OpOK P c key o fr M (.val s) :=
  .pure fun E p a W _ _ hop => by
    obtain ⟨h2, h3⟩ := hop x (by simp [ho, Op.operands]) _ hx
    rw [nthN_eq] at hs
    refine ⟨(okL_iff p cs).1 h2 s (List.mem_of_getElem? hs), ?_⟩
    have hget : (denL E cs)[n]? = some (den E s) := by simp [denL_eq, hs]
    simp [execOp, ho, h3, den, Instr.extract, hget]

theorem evL_spec {E : Env} {p : Nat → Prop} {ρ : Operand → Value} : ∀ (xs : List Operand) (l : List SV), evL fr xs = some l → (∀ x, x ∈ xs → ∀ s, ev fr x = some s → s.ok p ∧ ρ x = den E s) →
    okL p l ∧ xs.map ρ = denL E l
  | [], l, h, _ => by simp [evL] at h; subst h; exact ⟨trivial, rfl⟩
  | x :: r, l, h, hop => by
    simp only [evL] at h
    cases hx : ev fr x with
    | none => simp [hx] at h
    | some s =>
      simp only [hx] at h
      cases hr : evL fr r with
      | none => simp [hr] at h
      | some q =>
        simp only [hr, Option.some.injEq] at h
        subst h
        obtain ⟨h1, h2⟩ := hop x (by simp) s hx
        obtain ⟨h3, h4⟩ := evL_spec r q hr (fun y hy => hop y (by simp [hy]))
        exact ⟨⟨h1, h3⟩, by simp [denL, h2, h4]⟩

theorem snd_makeFunc {f : Fn} {x y : Array Operand} (ho : o.op = .makeFunc f x y) {l q : List SV} (hx : evL fr x.toList = some l) (hy : evL fr y.toList = some q) : OpOK P c key o fr M (.val (.fn f l q)) :=
  .pure fun E p a W _ _ hop => by
    obtain ⟨h1, h2⟩ := evL_spec (E := E) (p := p) (ρ := a.eval) x.toList l hx (fun z hz => hop z (by simp [ho, Op.operands]; exact .inl (by simpa using hz)))
    obtain ⟨h3, h4⟩ := evL_spec (E := E) (p := p) (ρ := a.eval) y.toList q hy (fun z hz => hop z (by simp [ho, Op.operands]; exact .inr (by simpa using hz)))
    refine ⟨⟨h1, h3⟩, ?_⟩
    have e1 : x.map a.eval = (denL E l).toArray := Array.ext' (by simp [← h2])
    have e2 : y.map a.eval = (denL E q).toArray := Array.ext' (by simp [← h4])
    simp [execOp, ho, Instr.makeFunc, den, e1, e2]

theorem partsOp {t : Nat} {parts : Array (Nat × Operand)} (ho : o.op.operands = (parts.toList.map (·.2)).toArray) {E : Env} {p : Nat → Prop} {ρ : Operand → Value} (hop : ∀ x, x ∈ o.op.operands.toList → ∀ s, ev fr x = some s → s.ok p ∧ ρ x = den E s) :
    ∀ x, x ∈ parts.toList.map (·.2) → ∀ s, ev fr x = some s → s.ok p ∧ ρ x = den E s := fun x hx => hop x (by rw [ho]; simpa using hx)

theorem snd_build {t : Nat} {parts : Array (Nat × Operand)} (hT : TabOK tab P) (ho : o.op = .build t parts) {i : TI} (hi : tab t = some i) {place : Nat → Option (Nat × Nat)}
    (hp : (i.kind = 1 ∧ place = fun f => nth2 f i.fields) ∨ (i.kind = 2 ∧ place = fun f => some (f * i.esize, i.esize))) {R : Type} {L : SV → Tree R} {ret : R}
    (h : (vmOp.bldV fr place (vals i.zero) parts.toList fun l => L (.agg l)).eval = some ret) : ∃ s, OpOK P c key o fr M (.val s) ∧ (L s).eval = some ret := by
  obtain ⟨l, h1, h2⟩ := bld_fill _ _ _ _ h
  refine ⟨.agg l, .pure fun E p a W _ _ hop => ?_, h1⟩
  obtain ⟨h3, h4⟩ := h2 E p a.eval (okL_vals p _) (partsOp (t := t) (parts := parts) (by rw [ho]; rfl) hop)
  refine ⟨h3, ?_⟩
  obtain ⟨I, h5, _, _, z, hz, hzc⟩ := hT.info t i hi
  have hb : P.built t (parts.map fun x => (x.1, a.eval x.2)).toList = some (denL E l).toArray := by
    rw [denL_vals] at h4
    rcases hp with ⟨hk, rfl⟩ | ⟨hk, rfl⟩
    · obtain ⟨fs, h6, h7⟩ := hT.struct t i hi hk
      simp only [Program.built, h5, h6, hz, h7, hzc]
      rw [Array.toList_map, ← h4]
      congr 1
      funext f
      simp [nth2_eq]
    · obtain ⟨h6, h7⟩ := hT.arr t i hi hk
      cases hI : P.info? i.elem with
      | none => simp [hI] at h7
      | some I' =>
        simp only [hI, Option.map_some, Option.some.injEq] at h7
        simp only [Program.built, h5, h6, hz, hI, hzc, h7]
        rw [Array.toList_map, ← h4]
  have := run_build (P := P) W t _ _ hb
  simp [execOp, ho, den, this]

end
end Go.VM

/-
The operations, seventh part: slices that are made.
-/
set_option linter.unusedVariables false
set_option linter.unusedSimpArgs false
namespace Go.VM
open Go.RowKit


theorem range_zero_cells (zl : List Value) : ∀ n : Nat, (List.range (n * zl.length)).map (fun j => zl[j % zl.length]!) = (List.replicate n zl).flatten
  | 0 => by simp
  | n + 1 => by
    rw [Nat.succ_mul, List.range_add, List.map_append, range_zero_cells zl n, List.replicate_succ', List.flatten_append]
    congr 1
    simp only [List.flatten_cons, List.flatten_nil, List.append_nil, List.map_map]
    apply List.ext_getElem
    · simp
    · intro i h1 h2
      simp only [List.length_map, List.length_range] at h1
      simp [Nat.mod_eq_of_lt h1, getElem!_pos, h1]

theorem madeCells_eq (zl : List Value) (n s : Nat) (hs : zl.length = s) : (Array.range (n * s)).map (fun j => zl.toArray[j % zl.toArray.size]!) = ((List.replicate n zl).flatten).toArray := by
  subst hs
  apply Array.ext'
  rw [← range_zero_cells zl n]
  simp

section
variable {tab : Nat → Option TI} {P : Program} {c : Ctx} {key : Nat} {fr : List (Nat × SV)} {M : List (Nat × Atom)} {K : Res → Prop} {o : Oper}

theorem reps_dflt {B : Nat → Prop} {W : World} : ∀ t : Ty, Reps B W t t.dflt (zeroV t)
  | .int _ => rfl
  | .bool => rfl
  | .prod a b => ⟨zeroV a, zeroV b, rfl, reps_dflt a, reps_dflt b⟩
  | .slice a => ⟨none, 0, 0, rfl, rfl, Nat.le_refl _, fun _ => ⟨rfl, rfl⟩, fun i x hx => by simp [Ty.dflt] at hx⟩
theorem repsL_dflt {B : Nat → Prop} {W : World} (t : Ty) : ∀ n : Nat, RepsL B W t (List.replicate n t.dflt) (List.replicate n (zeroV t)).flatten
  | 0 => rfl
  | n + 1 => ⟨zeroV t, _, by simp [List.replicate_succ], reps_dflt t, repsL_dflt t n⟩

theorem snd_makeSlice {t : Nat} {x y : Operand} (hT : TabOK tab P) (ho : o.op = .makeSlice t x y) {i e : TI} (hi : tab t = some i) (hk : i.kind = 3) (he : tab i.elem = some e) {T : Ty} (hTy : e.ty = some T) {n : Int} (hx : ev fr x = some (.v (.int .i64 n))) (hy : ev fr y = some (.v (.int .i64 n)))
    (hn0 : 0 ≤ n) (hb : room n.toNat e.bytes = true) : OpOK P c key o fr M ⟨.own key, [(key, some (.own i.elem T (List.replicate n.toNat T.dflt)))], 1, [], false⟩ := by
  obtain ⟨m, rfl⟩ : ∃ m : Nat, n = (m : Int) := ⟨n.toNat, by omega⟩
  rw [Int.toNat_natCast] at hb ⊢
  obtain ⟨hb, hmax⟩ : m * e.bytes ≤ 140737488355328 ∧ m ≤ 9223372036854775807 := by simpa [room] using hb
  refine ⟨by simp, fun E p a W g hM hg hkk hop next Q hn => ?_⟩
  have h1 := (hop x (by simp [ho, Op.operands]) _ hx).2
  have h2 := (hop y (by simp [ho, Op.operands]) _ hy).2
  simp only [den] at h1 h2
  obtain ⟨h5, h6⟩ := hT.slice t i hi hk
  obtain ⟨I, h7, h8, h9, z, hz, hzc⟩ := hT.info _ e he
  obtain ⟨hsz, hzero⟩ := hT.tyz _ e T he hTy
  have hes : e.size = i.esize := by
    have := info_of hT he
    rw [h6] at this
    simpa using this.symm
  have hk0 : ¬ p key := hkk 0 (by omega)
  have hrun := run_make (P := P) W t i.elem I z h5 h7 hz .i64 .i64 (m : Int) (m : Int) (by omega) (Int.le_refl _) (by
    rw [h9]
    have : (e.bytes : Int) * (m : Int) = ((m * e.bytes : Nat) : Int) := by rw [Int.mul_comm]; simp
    rw [this]
    omega) (by omega)
  have hmade : madeCells z.cells ((m : Int).toNat * I.size) = ((List.replicate m (zeroV T)).flatten).toArray := by
    rw [Int.toNat_natCast, h8, hzc, hes, ← hzero]
    exact madeCells_eq e.zero m i.esize (by rw [hT.zlen _ _ he, hes])
  rw [hmade] at hrun
  have hlen : ((List.replicate m (zeroV T)).flatten).length = m * T.size := by
    have := (repsL_dflt (B := fun _ => True) (W := W) T m).length
    simpa using this
  refine wp_val (v := .slice (some ⟨W.heap.size, 0, none⟩) m m) (W' := W.alloc (.cells ((List.replicate m (zeroV T)).flatten).toArray i.elem)) (by simp [execOp, ho, h1, h2, hrun]) ?_
  have ha : Agree p E (E.setSlv key (some ⟨W.heap.size, 0, none⟩, m, m)) := agree_setSlv hk0
  have := hn _ (W.alloc (.cells ((List.replicate m (zeroV T)).flatten).toArray i.elem)) ha ?_ (by exact .inr ⟨Nat.le_refl _, Nat.lt_succ_self _⟩)
  · simpa [den, Env.setSlv] using this
  · refine hM.one (T := []) ha ⟨rfl, rfl, rfl, rfl⟩ (fun _ h => .inl h) (Fr.alloc W _) (by simp) key (.own i.elem T (List.replicate m T.dflt)) (fun k hne A hA => ⟨?_, by simp⟩) (fun A hA => ?_) ⟨.inr ⟨Nat.le_refl _, Nat.lt_succ_self _⟩, trivial, ?_, (by simp [Atom.mine]), fun b hb => ?_⟩
    · simpa [gUpd, hne] using hA
    · simpa [gUpd] using hA.symm
    · simp only [AtomAt, Env.setSlv, if_pos, den, List.length_replicate]
      exact ⟨_, ⟨hlen, .inr ⟨W.heap.size, m, _, rfl, hM.fr.size, heap_alloc_new _ _, Nat.le_refl _, by unfold maxLen; omega, by rw [List.size_toArray]; exact hlen, by rw [List.toList_toArray]; exact List.take_of_length_le (by rw [hlen]; exact Nat.le_refl _)⟩⟩, repsL_dflt T m⟩
    · simp only [footOf, Env.setSlv, if_pos, List.mem_singleton] at hb
      subst hb
      exact .inl (Nat.le_refl _)

theorem snd_convert {s t : Nat} {x : Operand} (hT : TabOK tab P) (ho : o.op = .convert s t x) {k : IntKind} (hu : P.underlying t = some (.int k)) {i : TI} (hs : ∃ d, P.underlying s = some d) {k' : IntKind} {m z : Int} (hx : ev fr x = some (.v (.int k' m))) (hz : z = k.wrap m) :
    OpOK P c key o fr M (.val (.v (.int k z))) :=
  .pure fun E p a W _ _ hop => by
    have h1 := (hop x (by simp [ho, Op.operands]) _ hx).2
    simp only [den] at h1
    obtain ⟨d, hd⟩ := hs
    refine ⟨trivial, ?_⟩
    simp [execOp, ho, h1, convert, run_underlying hu W, run_underlying hd W, Conv.intToInt, den, hz]

theorem snd_len {x : Operand} {t : Nat} {cl : Call} (hT : TabOK tab P) (ho : o.op = .call cl) (hb : cl.callee = .builtin .len) (ha : cl.args.toList = [x]) (hty : cl.argTypes[0]? = some t) {i : TI} (hi : tab t = some i) (hk : i.kind = 3)
    {s : SV} (hx : ev fr x = some s) {n : Nat} {rd : List Nat} (hs : ∀ (E : Env) (p : Nat → Prop) (W : World) (g : Nat → Option Atom), SatM c E p g W → (∀ k, k ∈ rd → ¬ (key ≤ k ∧ k < key + 8) → g k = getM k M) → (∀ q, q < 8 → ¬ p (key + q)) → s.ok p → ∃ A q, den E s = .slice A n q) {z : Int} (hz : z = (n : Int)) :
    OpOK P c key o fr M ⟨.v (.int .i64 z), [], 0, rd, false⟩ :=
  .val fun E p a W g hM hg hkk hop => by
    have hargs : cl.args = #[x] := by rw [← Array.toArray_toList (xs := cl.args), ha]
    obtain ⟨h1, h2⟩ := hop x (by rw [ho]; simp [Op.operands, Call.operands, hb, hargs]) _ hx
    obtain ⟨A, q, h3⟩ := hs E p W g hM hg hkk h1
    obtain ⟨h5, _⟩ := hT.slice t i hi hk
    refine ⟨trivial, ?_⟩
    simp [execOp, ho, resolve, hb, hargs, h2, h3, invoke, builtin, Builtin.len_, hty, run_underlying h5 W, goInt, den, hz]

end
end Go.VM

/-
What is written no more: freezing.
-/
set_option linter.unusedVariables false
set_option linter.unusedSimpArgs false
namespace Go.VM
open Go.RowKit

mutual
theorem okTrue : ∀ s : SV, s.ok fun _ => True
  | .v _ => trivial
  | .ptr _ _ => trivial
  | .xptr _ _ _ _ _ => trivial
  | .sl _ _ _ _ => trivial
  | .own _ => trivial
  | .eptr _ _ _ _ => trivial
  | .fn _ x y => ⟨okLTrue x, okLTrue y⟩
  | .agg cs => okLTrue cs
  | .tup cs => okLTrue cs
  | .yf _ => trivial
theorem okLTrue : ∀ l : List SV, okL (fun _ => True) l
  | [] => trivial
  | x :: r => ⟨okTrue x, okLTrue r⟩
end

/-! ### Freezing -/
def frzA : Atom → Atom
  | .own _ t l => .ro t l
  | .box cs ty _ => .box cs ty false
  | A => A

/-- What may be frozen. -/
def Atom.canFz : Atom → Prop
  | .own _ _ _ => True
  | .box _ _ _ => True
  | .ro _ _ => True
  | _ => False

/-- One key is frozen. -/
theorem SatM.frz1 {c : Ctx} {E : Env} {p : Nat → Prop} {g : Nat → Option Atom} {W : World} (h : SatM c E p g W) {j : Nat} {A : Atom} (hj : g j = some A) (hc : A.canFz) :
    ∃ E', (E'.blk = E.blk ∧ E'.slv = E.slv ∧ E'.rb = E.rb ∧ E'.ri = E.ri ∧ E'.pb = E.pb) ∧ (∀ b, E.fz b → E'.fz b) ∧ (∀ b, E'.fz b → E.fz b ∨ b ∈ footOf E j A) ∧ (∀ b, b ∈ footOf E j A → E'.fz b) ∧ SatM c E' p (fun k => if k = j then some (frzA A) else g k) W := by
  obtain ⟨h1, h2, h3, h4, h5⟩ := h.at_ j A hj
  refine ⟨{ E with fz := fun b => E.fz b ∨ b ∈ footOf E j A }, ⟨rfl, rfl, rfl, rfl, rfl⟩, fun b hb => .inl hb, fun b hb => hb, fun b hb => .inr hb, ?_⟩
  generalize hE' : ({ E with fz := fun b => E.fz b ∨ b ∈ footOf E j A } : Env) = E'
  have eb : E'.blk = E.blk := by rw [← hE']
  have es : E'.slv = E.slv := by rw [← hE']
  have er : E'.rb = E.rb ∧ E'.ri = E.ri ∧ E'.pb = E.pb := by rw [← hE']; exact ⟨rfl, rfl, rfl⟩
  have ef : ∀ b, E'.fz b ↔ E.fz b ∨ b ∈ footOf E j A := by rw [← hE']; exact fun b => Iff.rfl
  have ha : Agree p E E' := fun k _ => by rw [eb, es]; exact ⟨rfl, rfl⟩
  have hA0 : ¬ A.isRnd := by cases A <;> simp_all [Atom.canFz, Atom.isRnd]
  have hss : ∀ b, still c E b → still c E' b := by
    intro b hb
    rcases hb with hb | hb
    · exact .inl hb
    · exact .inr ((ef b).2 (.inl hb))
  have hfoot : ∀ k B, footOf E' k B = footOf E k B := fun k B => by cases B <;> simp [footOf, eb, es, er.1, er.2.2]
  have hden : ∀ s, den E' s = den E s := fun s => den_agree (p := fun _ => True) (fun k _ => by rw [eb, es]; exact ⟨rfl, rfl⟩) s (ok_mono (fun _ _ => trivial) s (by
    have : ∀ s : SV, s.ok fun _ => True := by
      intro s
      exact okTrue s
    exact this s))
  refine ⟨h.fr, h.size, fun b o ho => ⟨(ef b).2 (.inl (h.pf b o ho).1), (h.pf b o ho).2⟩, fun b hb => ?_, fun k B hk => ?_, fun k k' B B' hk hk' hne b hb hb' => ?_⟩
  · rcases (ef b).1 hb with hb | hb
    · exact h.fz b hb
    · exact ⟨(h5 b hb).2.resolve_left hA0, (h5 b hb).1⟩
  · by_cases e : k = j
    · subst e
      simp only [if_true, Option.some.injEq] at hk
      subst hk
      cases A with
      | own ty t l =>
        refine ⟨h1, trivial, ?_, trivial, by simp [frzA, footOf]⟩
        simp only [frzA, AtomAt, es]
        exact own_slice h3 _ hss fun a ea => .inr ((ef _).2 (.inr (by simp [footOf, ea])))
      | box cs ty b =>
        refine ⟨h1, h2, ?_, ?_, fun b hb => ?_⟩
        · simp only [frzA, AtomAt, eb] at h3 ⊢
          rw [denL_agree ha cs h2]
          exact h3
        · simp only [frzA, Atom.fzn, iff_true]
          exact (ef _).2 (.inr (by simp [footOf, eb]))
        · simp only [frzA] at hb ⊢
          rw [hfoot] at hb
          obtain ⟨q1, q2⟩ := h5 b (by simpa [footOf] using hb)
          exact ⟨q1, q2.imp (fun e => by cases e) id⟩
      | ro t l =>
        refine ⟨h1, trivial, ?_, trivial, by simp [frzA, footOf]⟩
        simp only [frzA, AtomAt, es] at h3 ⊢
        exact h3.mono hss (fun _ _ => rfl) fun x vs hr => hr.mono hss fun _ _ => rfl
      | _ => exact hc.elim
    · rw [if_neg e] at hk
      obtain ⟨q1, q2, q3, q4, q5⟩ := h.at_ k B hk
      refine ⟨q1, q2, q3.mono ha er q1 q2 h.fr h.fr (Nat.le_refl _) (fun _ _ => rfl) (fun _ _ => rfl) hss, B.fzn_same ha q1 ⟨fun _ => er.1, er.2.2⟩ (fun b hb => ?_) q4, fun b hb => q5 b (by rw [← hfoot]; exact hb)⟩
      rw [ef]
      exact ⟨fun hh => hh.resolve_right fun hb' => h.dj k j B A hk hj e b hb hb', .inl⟩
  · have hb2 : ∀ k B, (if k = j then some (frzA A) else g k) = some B → b ∈ footOf E' k B → ∃ B0, g k = some B0 ∧ b ∈ footOf E k B0 := by
      intro k B hk hb
      by_cases e : k = j
      · subst e
        simp only [if_true, Option.some.injEq] at hk
        subst hk
        refine ⟨A, hj, ?_⟩
        rw [hfoot] at hb
        cases A <;> first | exact hb | simp [frzA, footOf] at hb
      · rw [if_neg e] at hk
        exact ⟨B, hk, by rw [← hfoot]; exact hb⟩
    obtain ⟨B0, e1, e2⟩ := hb2 k B hk hb
    obtain ⟨B1, e3, e4⟩ := hb2 k' B' hk' hb'
    exact h.dj k k' B0 B1 e1 e3 hne b e2 e4

/-- The getter with keys frozen. -/
def gFz (g : Nat → Option Atom) (l : List (Nat × Atom)) : Nat → Option Atom := gUpd g (someU l)

theorem frzA_idem (A : Atom) : frzA (frzA A) = frzA A := by cases A <;> rfl
theorem canFz_frzA {A : Atom} (h : A.canFz) : (frzA A).canFz := by cases A <;> simp_all [frzA, Atom.canFz]

/-- Some keys are frozen: l tells each one's atom. -/
theorem SatM.frz {c : Ctx} {p : Nat → Prop} {W : World} : ∀ (l : List (Nat × Atom)) (E : Env) (g : Nat → Option Atom), SatM c E p g W → (∀ j A, (j, A) ∈ l → ∃ B, g j = some B ∧ B.canFz ∧ A = frzA B) →
    ∃ E', (E'.blk = E.blk ∧ E'.slv = E.slv ∧ E'.rb = E.rb ∧ E'.ri = E.ri ∧ E'.pb = E.pb) ∧ (∀ b, E.fz b → E'.fz b) ∧ (∀ b, E'.fz b → E.fz b ∨ ∃ j A B, (j, A) ∈ l ∧ g j = some B ∧ b ∈ footOf E j B) ∧ (∀ j A B, (j, A) ∈ l → g j = some B → ∀ b, b ∈ footOf E j B → E'.fz b) ∧ SatM c E' p (gFz g l) W
  | [], E, g, h, _ => ⟨E, ⟨rfl, rfl, rfl, rfl, rfl⟩, fun _ h => h, fun _ h => .inl h, by simp, h⟩
  | (j, A) :: r, E, g, h, hl => by
    obtain ⟨B, hB, hBc, hBA⟩ := hl j A (by simp)
    obtain ⟨E1, e1, e2, e3, e4, e5⟩ := h.frz1 hB hBc
    obtain ⟨E2, f1, f2, f3, f4, f5⟩ := SatM.frz r E1 _ e5 (fun k C hk => by
      obtain ⟨D, hD, hDc, hDC⟩ := hl k C (by simp [hk])
      by_cases e : k = j
      · subst e
        rw [hB] at hD
        injection hD with hD
        subst hD
        exact ⟨frzA B, by simp, canFz_frzA hBc, by rw [hDC, frzA_idem]⟩
      · exact ⟨D, by simp [e, hD], hDc, hDC⟩)
    have hfoot : ∀ k B, footOf E1 k B = footOf E k B := fun k B => by cases B <;> simp [footOf, e1.1, e1.2.1, e1.2.2.1, e1.2.2.2.2]
    have hff : ∀ k C, footOf E k (frzA C) = [] ∨ footOf E k (frzA C) = footOf E k C := fun k C => by cases C <;> simp [frzA, footOf]
    refine ⟨E2, ⟨f1.1.trans e1.1, f1.2.1.trans e1.2.1, f1.2.2.1.trans e1.2.2.1, f1.2.2.2.1.trans e1.2.2.2.1, f1.2.2.2.2.trans e1.2.2.2.2⟩, fun b hb => f2 b (e2 b hb), fun b hb => ?_, fun k C D hk hD b hb => ?_, f5.getter fun k C hC => ?_⟩
    · rcases f3 b hb with hb | ⟨k, C, D, hk, hD, hb⟩
      · rcases e3 b hb with hb | hb
        · exact .inl hb
        · exact .inr ⟨j, A, B, by simp, hB, hb⟩
      · rw [hfoot] at hb
        by_cases e : k = j
        · subst e
          simp only [if_true, Option.some.injEq] at hD
          subst hD
          rcases hff k B with h0 | h0
          · rw [h0] at hb; cases hb
          · rw [h0] at hb; exact .inr ⟨k, A, B, by simp, hB, hb⟩
        · rw [if_neg e] at hD
          exact .inr ⟨k, C, D, by simp [hk], hD, hb⟩
    · simp only [List.mem_cons, Prod.mk.injEq] at hk
      rcases hk with ⟨rfl, rfl⟩ | hk
      · rw [hB] at hD
        injection hD with hD
        subst hD
        exact f2 b (e4 b hb)
      · by_cases e : k = j
        · subst e
          rw [hB] at hD
          injection hD with hD
          subst hD
          exact f2 b (e4 b hb)
        · exact f4 k C D hk (by simp [e, hD]) b (by rw [hfoot]; exact hb)
    · simp only [gFz, someU, gUpd] at hC
      by_cases e : k = j
      · subst e
        rw [if_pos rfl] at hC
        injection hC with hC
        subst hC
        have : ∀ (r : List (Nat × Atom)) (g : Nat → Option Atom), (∀ C, (k, C) ∈ r → C = A) → g k = some A → gUpd g (someU r) k = some A := by
          intro r
          induction r with
          | nil => intro g _ h; exact h
          | cons y r ih =>
            intro g hr h
            obtain ⟨i, D⟩ := y
            simp only [someU, gUpd]
            by_cases e : k = i
            · subst e
              rw [if_pos rfl, hr D (by simp)]
            · rw [if_neg e]
              exact ih g (fun C hC => hr C (by simp [hC])) h
        refine this r _ (fun C hC => ?_) (by simp [hBA])
        obtain ⟨D, hD, _, hDC⟩ := hl k C (by simp [hC])
        rw [hB] at hD
        injection hD with hD
        subst hD
        rw [hDC, hBA]
      · rw [if_neg e] at hC
        rw [← hC]
        have : ∀ (r : List (Nat × Atom)) (g g' : Nat → Option Atom), g k = g' k → gUpd g (someU r) k = gUpd g' (someU r) k := by
          intro r
          induction r with
          | nil => intro g g' h; exact h
          | cons y r ih =>
            intro g g' h
            obtain ⟨i, D⟩ := y
            simp only [someU, gUpd]
            split
            · rfl
            · exact ih g g' h
        exact this r _ _ (by simp [e])

theorem mem_frzK {M : List (Nat × Atom)} : ∀ (ss : List SV) (j : Nat) (A : Atom), (j, A) ∈ frzK M ss → .own j ∈ ss ∧ ∃ ty t l, getM j M = some (.own ty t l) ∧ A = .ro t l
  | [], j, A, h => by simp [frzK] at h
  | s :: r, j, A, h => by
    have rest : (j, A) ∈ frzK M r → .own j ∈ s :: r ∧ ∃ ty t l, getM j M = some (.own ty t l) ∧ A = .ro t l := fun h => by
      obtain ⟨h1, h2⟩ := mem_frzK r j A h
      exact ⟨by simp [h1], h2⟩
    cases s with
    | own i =>
      simp only [frzK] at h
      split at h
      · rename_i ty a l hi
        simp only [List.mem_cons, Prod.mk.injEq] at h
        rcases h with ⟨rfl, rfl⟩ | h
        · exact ⟨by simp, ty, a, l, hi, rfl⟩
        · exact rest h
      · exact rest h
    | _ => exact rest (by simpa [frzK] using h)
theorem frzK_mem {M : List (Nat × Atom)} : ∀ (ss : List SV) (j ty : Nat) (t : Ty) (l : List t.den), .own j ∈ ss → getM j M = some (.own ty t l) → (j, .ro t l) ∈ frzK M ss
  | [], j, ty, t, l, h, _ => by simp at h
  | s :: r, j, ty, t, l, h, hj => by
    simp only [List.mem_cons] at h
    rcases h with rfl | h
    · simp [frzK, hj]
    · have := frzK_mem r j ty t l h hj
      cases s with
      | own i =>
        simp only [frzK]
        split
        · exact List.mem_cons_of_mem _ this
        · exact this
      | _ => simpa [frzK] using this
end Go.VM

/-
The operations, eighth part: cuts.
-/
set_option linter.unusedVariables false
set_option linter.unusedSimpArgs false
namespace Go.VM
open Go.RowKit

theorem ownK_drop : ∀ (n : Nat) (l : List SV) q, q ∈ ownK (l.drop n) → q ∈ ownK l := by
  intro n l
  induction l generalizing n with
  | nil => intro q hq; simp at hq; exact hq
  | cons s r ih =>
    intro q hq
    cases n with
    | zero => exact hq
    | succ n =>
      have := ih n q (by simpa using hq)
      cases s <;> simp_all [ownK]
theorem or_key {p : Nat → Prop} {key : Nat} : ∀ k, p k ∨ k = key → p k ∨ key ≤ k ∧ k < key + 1 := by
  intro k hk
  rcases hk with hk | hk
  · exact .inl hk
  · exact .inr ⟨by omega, by omega⟩

theorem Addr.add_zero' (a : Addr) : a.add 0 = a := by unfold Addr.add; split <;> simp_all <;> (cases a; simp_all)
def sliceFoot : Option Addr → List Nat
  | some a => [a.block]
  | none => []

theorem app_core {tab : Nat → Option TI} {P : Program} (hT : TabOK tab P) {t : Nat} {i e : TI} (hi : tab t = some i) (hk : i.kind = 3) (he : tab i.elem = some e) (hes : e.size = i.esize) (h0 : 0 < i.esize) {ty : TypeId} {lo : Nat} {W : World}
    {A0 : Option Addr} {l0 q0 n : Nat} {cs : List Value} (hown : W.ownsRow lo i.elem i.esize (.slice A0 l0 q0) n cs) {A : Option Addr} {m q : Nat} {news : List Value} (hnil : A = none → m = 0 ∧ q = 0) (hl : news.length = m * i.esize)
    (hr : ∀ a, A = some a → ∀ j u, news[j]? = some u → W.cell? (a.add j) = some u) (h1 : ∀ u, u ∈ news → u.oneCell' = true) (hb : (n + m) * e.bytes ≤ 140737488355328) (hm : n + m ≤ 9223372036854775807) (hlo : lo ≤ W.heap.size) :
    ∃ A' n' q' W', (Builtin.append_ #[t, t] ty #[.slice A0 l0 q0, .slice A m q]).run P W = .ok (.slice A' n' q') W' ∧ W'.ownsRow lo i.elem i.esize (.slice A' n' q') (n + m) (cs ++ news) ∧ Fr (sliceFoot A0) W W' ∧
      ∀ b, b ∈ sliceFoot A' → b ∈ sliceFoot A0 ∨ W.heap.size ≤ b := by
  obtain ⟨ht, _⟩ := hT.slice t i hi hk
  obtain ⟨I, hI, hs, hby, z, hz, hzc⟩ := hT.info _ e he
  rw [hes] at hs
  cases A with
  | none =>
    obtain ⟨rfl, rfl⟩ := hnil rfl
    have hn : news = [] := List.eq_nil_of_length_eq_zero (by simpa using hl)
    subst hn
    refine ⟨A0, l0, q0, W, run_append_owned_none W lo t ty i.elem I i.esize ht hI _ n cs hown, by simpa using hown, ⟨rfl, rfl, rfl, Nat.le_refl _, fun _ _ _ => rfl⟩, fun b hb => .inl hb⟩
  | some a =>
    have hnews := hr a rfl
    have hrow := run_append_own (P := P) W lo t ty i.elem I z i.esize e.bytes ht hI hz hs hby (by rw [hzc]; simp [hT.zlen _ _ he, hes]) h0 _ n cs hown a m q news hl hnews h1 (by simpa [maxLen] using hm) hb hlo
    obtain ⟨v', W', hrun, hown', hgb, hnil'⟩ := hrow
    have hform : ∃ A' n' q', v' = .slice A' n' q' := by
      rcases hown'.2 with ⟨h, _⟩ | ⟨g, cap, cur, h, _⟩
      · exact ⟨_, _, _, h⟩
      · exact ⟨_, _, _, h⟩
    obtain ⟨A', n', q', rfl⟩ := hform
    refine ⟨A', n', q', W', hrun, hown', ?_, ?_⟩
    · have := Fr.of_grownBy hgb
      cases A0 <;> simpa [Value.ownBlock, sliceFoot] using this
    · intro b hbm
      rcases hown.2 with ⟨hv, hn0⟩ | ⟨g, cap, cur, hv, hbg, hg, hnc, hcm, hcs, htake⟩
      · injection hv with e1 e2 e3
        subst e1 e2 e3 hn0
        by_cases hm0 : m = 0
        · obtain h2 := hnil'.2 ⟨rfl, hm0⟩
          injection h2 with h2 _ _
          simp [h2, sliceFoot] at hbm
        · have := run_append_nil (P := P) W t ty i.elem I z ht hI hz a m q news (by rw [hl, hs]) hnews (by omega) (by omega) (by rw [hby]; simp at hb; omega)
          rw [hrun] at this
          injection this with h2 _
          injection h2 with h2 _ _
          simp only [h2, sliceFoot, List.mem_singleton] at hbm
          exact .inr (by omega)
      · injection hv with e1 e2 e3
        subst e1 e2 e3
        by_cases hroom : l0 + m ≤ q0
        · have hfit : l0 * I.size + news.length ≤ cur.size := by rw [hl, hs, hcs, ← Nat.add_mul]; exact Nat.mul_le_mul_right _ hroom
          have := run_append_room (P := P) W t ty i.elem I ht hI g l0 q0 cur hg a m q news (by rw [hl, hs]) hnews h1 hroom hfit
          rw [hrun] at this
          injection this with h2 _
          injection h2 with h2 _ _
          simp only [h2, sliceFoot] at hbm ⊢
          exact .inl hbm
        · have := run_append_grow (P := P) W t ty i.elem I z ht hI hz ⟨g, 0, none⟩ l0 q0 cs (by rw [hown.1, hs]) (fun j v hj => by
            rw [Addr.add_lit]
            simp only [World.cell?, hg]
            have hlt : j < l0 * i.esize := by rw [← hown.1]; exact (List.getElem?_eq_some_iff.1 hj).1
            rw [← htake, List.getElem?_take_of_lt hlt] at hj
            simpa using hj) a m q news (by rw [hl, hs]) hnews (by omega) (by omega) (by rw [hby]; exact growslice_fits (by omega) hb)
          rw [hrun] at this
          injection this with h2 _
          injection h2 with h2 _ _
          simp only [h2, sliceFoot, List.mem_singleton] at hbm
          exact .inr (by omega)

section
variable {tab : Nat → Option TI} {P : Program} {c : Ctx} {key : Nat} {fr : List (Nat × SV)} {M : List (Nat × Atom)} {K : Res → Prop} {o : Oper}
theorem snd_slice_box_all {t : Nat} {x : Operand} (hT : TabOK tab P) (ho : o.op = .slice t x none none none) {i : TI} (hi : tab t = some i) (hk : i.kind = 2) {j off : Nat} (hx : ev fr x = some (.ptr j off)) :
    OpOK P c key o fr M (.val (.sl j off i.len i.len)) :=
  .pure fun E p a W _ _ hop => by
    obtain ⟨h2, h3⟩ := hop x (by simp [ho, Op.operands]) _ hx
    simp only [den] at h3
    obtain ⟨h5, h6⟩ := hT.arr t i hi hk
    refine ⟨h2, ?_⟩
    simp [execOp, ho, h3, Instr.sliceAt, run_underlying h5 W, Instr.sureAddr, Instr.sliceBounds, asIntOf, mapOpt_size h6 W, den, Addr.add]

theorem snd_minmax {cl : Call} {b : Builtin} (ho : o.op = .call cl) (hb : cl.callee = .builtin b) {x y : Operand} (ha : cl.args.toList = [x, y]) {k k' : IntKind} {m n z : Int} (hx : ev fr x = some (.v (.int k m))) (hy : ev fr y = some (.v (.int k' n)))
    (hz : (b = .max ∧ z = if n > m then n else m) ∨ (b = .min ∧ z = if n < m then n else m)) : OpOK P c key o fr M (.val (.v (.int k z))) :=
  .pure fun E p a W _ _ hop => by
    have hargs : cl.args = #[x, y] := by rw [← Array.toArray_toList (xs := cl.args), ha]
    have h1 := (hop x (by rw [ho]; simp [Op.operands, Call.operands, hb, hargs]) _ hx).2
    have h2 := (hop y (by rw [ho]; simp [Op.operands, Call.operands, hb, hargs]) _ hy).2
    simp only [den] at h1 h2
    refine ⟨trivial, ?_⟩
    rcases hz with ⟨rfl, rfl⟩ | ⟨rfl, rfl⟩
    · simp [execOp, ho, resolve, hb, hargs, h1, h2, invoke, builtin, run_max_int2, den]
    · simp [execOp, ho, resolve, hb, hargs, h1, h2, invoke, builtin, run_min_int2, den]


theorem SlT.takeN {α : Type} {B : Nat → Prop} {W : World} {R : α → List Value → Prop} {k : Nat} {A : Option Addr} {n q : Nat} {l : List α} (h : SlT B W R k A n q l) {b : Nat} (hb : b ≤ n) : SlT B W R k A b q (l.take b) where
  len := by have := h.len; simp; omega
  cap := Nat.le_trans hb h.cap
  nil := fun e => by have := h.nil e; omega
  at_ := fun i x hx => by
    have hlt : i < b := by have := (List.getElem?_eq_some_iff.1 hx).1; simp at this; omega
    rw [List.getElem?_take_of_lt hlt] at hx
    exact h.at_ i x hx

/-- Where a slice's length stands. -/
theorem ro_len {E : Env} {p : Nat → Prop} {g : Nat → Option Atom} {W : World} (hM : SatM c E p g W) {j : Nat} {T : Ty} {l : List T.den} (hj : g j = some (.ro T l)) : (E.slv j).2.1 = l.length ∧ ((E.slv j).1 = none → l.length = 0) := by
  obtain ⟨_, _, h3, _⟩ := hM.at_ j _ hj
  simp only [AtomAt] at h3
  exact ⟨h3.len.symm, fun e => by have := (h3.nil e).1; rw [h3.len]; exact this⟩
theorem own_len {E : Env} {p : Nat → Prop} {g : Nat → Option Atom} {W : World} (hM : SatM c E p g W) {j ty : Nat} {T : Ty} {l : List T.den} (hj : g j = some (.own ty T l)) : (E.slv j).2.1 = l.length ∧ ((E.slv j).1 = none → l.length = 0) := by
  obtain ⟨_, _, h3, _⟩ := hM.at_ j _ hj
  simp only [AtomAt, den] at h3
  obtain ⟨vs, ⟨_, h2⟩, _⟩ := h3
  rcases h2 with ⟨hv, hn⟩ | ⟨b, cap, cur, hv, _⟩
  · injection hv with e1 e2 e3
    exact ⟨by rw [e2, hn], fun _ => hn⟩
  · injection hv with e1 e2 e3
    exact ⟨e2, fun e => by rw [e1] at e; cases e⟩

theorem optV_spec {E : Env} {p : Nat → Prop} {ρ : Operand → Value} {d : Int} : ∀ (x : Option Operand) (b : Int), vmOp.optV fr x d = some b → (∀ y, y ∈ x.toList → ∀ s, ev fr y = some s → s.ok p ∧ ρ y = den E s) →
    (x = none ∧ b = d) ∨ ∃ y k, x = some y ∧ ρ y = .int k b
  | none, b, h, _ => by simp [vmOp.optV] at h; exact .inl ⟨rfl, h.symm⟩
  | some y, b, h, hop => by
    simp only [vmOp.optV] at h
    cases hy : ev fr y with
    | none => simp [hy] at h
    | some s =>
      simp only [hy] at h
      split at h
      · rename_i k b' hs
        injection hs with hs
        subst hs
        injection h with h
        subst h
        exact .inr ⟨y, k, rfl, by simpa [den] using (hop y (by simp) _ hy).2⟩
      · simp at h

/-- Elements of cells, as a slice. -/
theorem slT_row {E : Env} {p : Nat → Prop} {g : Nat → Option Atom} {W : World} (hM : SatM c E p g W) {T : Ty} {n q : Nat} {ss : List SV} {l : List T.den} (h : rowOf M false T n ss = some l) (hg : ∀ j, .own j ∈ ss → g j = getM j M) {E' : Env} (hE : ∀ b, still c E b → still c E' b) {a : Addr} (ha : still c E' a.block) (hq : n ≤ q)
    (hc : ∀ i s, ss[i]? = some s → W.cell? (a.add i) = some (den E s)) : SlT (still c E') W (Reps (still c E') W T) T.size (some a) n q l := by
  obtain ⟨h1, h2, h3⟩ := rowOf_rep (ks := []) hM _ _ _ h (by simp) hg
  have h3' : RepsL (still c E') W T l ((denL E ss).take (n * T.size)) := h3.mono (fun b hb => hE b (seen_false hb)) fun _ _ => rfl
  refine SlT.of_cells h3' h1 hq (by simp) (fun a' e _ => by injection e with e; subst e; exact ha) fun a' e j u hu => ?_
  injection e with e
  subst e
  have hlt : j < n * T.size := by
    have := (List.getElem?_eq_some_iff.1 hu).1
    simp only [List.length_take] at this
    omega
  rw [List.getElem?_take_of_lt hlt, denL_eq, List.getElem?_map] at hu
  cases hs : ss[j]? with
  | none => simp [hs] at hu
  | some s =>
    simp only [hs, Option.map_some, Option.some.injEq] at hu
    subst hu
    exact hc j s hs

/-- a[:b] of an array in a box: what it holds is written no more. -/
theorem snd_slice_box {t : Nat} {x y : Operand} (hT : TabOK tab P) (ho : o.op = .slice t x none (some y) none) {i e : TI} (hi : tab t = some i) (hk : i.kind = 2) (he : tab i.elem = some e) {T : Ty} (hTy : e.ty = some T) {j off : Nat} (hx : ev fr x = some (.ptr j off)) {k : IntKind} {b : Int} (hy : ev fr y = some (.v (.int k b)))
    {cs : List SV} {ty : Nat} {bb : Bool} (hj : getM j M = some (.box cs ty bb)) {l : List T.den} (hl : rowOf M false T i.len (dropN off cs) = some l) (h0 : 0 ≤ b) (h1 : b ≤ (i.len : Int)) :
    OpOK P c key o fr M ⟨.own key, [(key, some (.ro T (l.take b.toNat))), (j, some (.box cs ty false))], 1, j :: ownK cs, false⟩ := by
  refine ⟨by simp, fun E p a W g hM hg hkk hop next Q hn => ?_⟩
  obtain ⟨h2, h3⟩ := hop x (by simp [ho, Op.operands]) _ hx
  have h4 := (hop y (by simp [ho, Op.operands]) _ hy).2
  simp only [den] at h3 h4
  obtain ⟨h5, h6⟩ := hT.arr t i hi hk
  obtain ⟨m, rfl⟩ : ∃ m : Nat, b = (m : Int) := ⟨b.toNat, by omega⟩
  rw [Int.toNat_natCast] at hn
  have hm : m ≤ i.len := by omega
  have hgj := getM_of hM (fun k hk' => hg k (by simp at hk'; simp [hk'])) h2 hkk hj
  obtain ⟨_, hok, hat, _, hft⟩ := hM.at_ j _ hgj
  obtain ⟨E1, e1, e2, e3, e4, e5⟩ := hM.frz1 hgj trivial
  have hk0 : ¬ p key := hkk 0 (by omega)
  simp only [AtomAt] at hat
  have hown : ∀ q, .own q ∈ dropN off cs → g q = getM q M := get_own (rds := j :: ownK cs) (fun k hk' => hg k (by simp at hk' ⊢; exact .inl hk')) hkk (by rw [dropN_eq]; exact okL_sub (fun s hs => List.mem_of_mem_drop hs) hok) (fun q hq => by
    rw [dropN_eq] at hq
    exact List.mem_cons_of_mem _ (ownK_drop _ _ _ hq))
  have hs : SlT (still c E1) W (Reps (still c E1) W T) T.size (some ⟨E.blk j, off, none⟩) m i.len (l.take m) := by
    refine (slT_row (M := M) (E' := E1) hM hl hown (fun b hb => ?_) (.inr (e4 _ (by simp [footOf]))) (Nat.le_refl _) (fun n s hs => ?_)).takeN hm
    · rcases hb with hb | hb
      · exact .inl hb
      · exact .inr (e2 b hb)
    · rw [Addr.add_lit, cell_of_heap hat, denL_eq, List.getElem?_map]
      rw [dropN_eq, List.getElem?_drop] at hs
      rw [hs]
      rfl
  have hnew := e5.addRo hk0 hs
  refine wp_val (v := .slice (some ⟨E.blk j, off, none⟩) m i.len) (W' := W) ?_ ?_
  · have : (m : Int) ≤ (i.len : Int) := by omega
    simp [execOp, ho, h3, h4, Instr.sliceAt, run_underlying h5 W, Instr.sureAddr, Instr.sliceBounds, Instr.sliceBound, asIntOf, hm, mapOpt_size h6 W, Addr.add]
  · have ha : Agree p E (E1.setSlv key (some ⟨E.blk j, off, none⟩, m, i.len)) := by
      have q := agree_setSlv (p := p) (E := E1) (x := (some ⟨E.blk j, off, none⟩, m, i.len)) hk0
      intro k hk
      obtain ⟨q1, q2⟩ := q k hk
      exact ⟨by rw [q1, e1.1], by rw [q2, e1.2.1]⟩
    have := hn _ W ha ((hnew.monoP or_key).getter fun k A hA => ?_) (by exact .inr ⟨Nat.le_refl _, Nat.lt_succ_self _⟩)
    · simpa [den, Env.setSlv] using this
    · rw [← hA]
      simp [gUpd, frzA]

/-- a[:b] through a pointer that is read only. -/
theorem snd_slice_rop {t : Nat} {x : Operand} {hi' : Option Operand} (hT : TabOK tab P) (ho : o.op = .slice t x none hi' none) {i e : TI} (hi : tab t = some i) (hk : i.kind = 2) (he : tab i.elem = some e) {T : Ty} (hTy : e.ty = some T) {j off : Nat} {z : Int} (hx : ev fr x = some (.eptr j z 0 off)) {b : Int} (hb : vmOp.optV fr hi' (i.len : Int) = some b)
    {cs : List SV} (hj : getM j M = some (.rop cs)) {l : List T.den} (hl : rowOf M false T i.len (dropN off cs) = some l) (h0 : 0 ≤ b) (h1 : b ≤ (i.len : Int)) :
    OpOK P c key o fr M ⟨.own key, [(key, some (.ro T (l.take b.toNat)))], 1, j :: ownK cs, false⟩ := by
  refine ⟨by simp, fun E p a W g hM hg hkk hop next Q hn => ?_⟩
  obtain ⟨h2, h3⟩ := hop x (by simp [ho, Op.operands]) _ hx
  have hhi := optV_spec (E := E) (p := p) (ρ := a.eval) hi' b hb (fun y hy => hop y (by simp [ho, Op.operands]; exact .inr (by simpa using hy)))
  obtain ⟨h5, h6⟩ := hT.arr t i hi hk
  obtain ⟨m, rfl⟩ : ∃ m : Nat, b = (m : Int) := ⟨b.toNat, by omega⟩
  rw [Int.toNat_natCast] at hn
  have hm : m ≤ i.len := by omega
  have hgj := getM_of hM (fun k hk' => hg k (by simp at hk'; simp [hk'])) h2 hkk hj
  obtain ⟨_, hok, ⟨ad, q1, q2, q3⟩, _⟩ := hM.at_ j _ hgj
  have hk0 : ¬ p key := hkk 0 (by omega)
  simp only [den, q1, Option.getD_some, Nat.mul_zero, Nat.zero_add] at h3
  have hown : ∀ q, .own q ∈ dropN off cs → g q = getM q M := get_own (rds := j :: ownK cs) (fun k hk' => hg k (by simp at hk' ⊢; exact .inl hk')) hkk (by rw [dropN_eq]; exact okL_sub (fun s hs => List.mem_of_mem_drop hs) hok) (fun q hq => by
    rw [dropN_eq] at hq
    exact List.mem_cons_of_mem _ (ownK_drop _ _ _ hq))
  have hs : SlT (still c E) W (Reps (still c E) W T) T.size (some (ad.add off)) m i.len (l.take m) := by
    refine (slT_row (M := M) (E' := E) hM hl hown (fun b hb => hb) (by rw [Addr.add_block]; exact q2) (Nat.le_refl _) (fun n s hs => ?_)).takeN hm
    rw [Addr.add_add]
    rw [dropN_eq, List.getElem?_drop] at hs
    exact q3 _ s hs
  have hnew := hM.addRo hk0 hs
  refine wp_val (v := .slice (some (ad.add off)) m i.len) (W' := W) ?_ ?_
  · have : (m : Int) ≤ (i.len : Int) := by omega
    rcases hhi with ⟨rfl, e⟩ | ⟨y, k, rfl, hy⟩
    · have e : m = i.len := by omega
      subst e
      simp [execOp, ho, h3, Instr.sliceAt, run_underlying h5 W, Instr.sureAddr, Instr.sliceBounds, asIntOf, mapOpt_size h6 W, Addr.add_zero']
    · simp [execOp, ho, h3, hy, Instr.sliceAt, run_underlying h5 W, Instr.sureAddr, Instr.sliceBounds, Instr.sliceBound, asIntOf, hm, mapOpt_size h6 W, Addr.add_zero']
  · have := hn _ W (agree_setSlv hk0) ((hnew.monoP or_key).getter fun k A hA => hA) (by exact .inr ⟨Nat.le_refl _, Nat.lt_succ_self _⟩)
    simpa [den, Env.setSlv] using this

/-- x[lo:hi] of a slice that is read only. -/
theorem snd_slice_ro {t : Nat} {x : Operand} {lo hi' : Option Operand} (hT : TabOK tab P) (ho : o.op = .slice t x lo hi' none) {i : TI} (hi : tab t = some i) (hk : i.kind = 3) {j : Nat} (hx : ev fr x = some (.own j)) {T : Ty} {l : List T.den} (hj : getM j M = some (.ro T l)) (hsz : i.esize = T.size)
    {b1 b2 : Int} (hl : vmOp.optV fr lo 0 = some b1) (hh : vmOp.optV fr hi' (l.length : Int) = some b2) (h0 : 0 ≤ b1) (h1 : b1 ≤ b2) (h2 : b2 ≤ (l.length : Int)) :
    OpOK P c key o fr M ⟨.own key, [(key, some (.ro T ((l.take b2.toNat).drop b1.toNat)))], 1, [j], false⟩ := by
  refine ⟨by simp, fun E p a W g hM hg hkk hop next Q hn => ?_⟩
  obtain ⟨hp, hx'⟩ := hop x (by simp [ho, Op.operands]) _ hx
  simp only [den] at hx'
  obtain ⟨h5, h6⟩ := hT.slice t i hi hk
  have hlo := optV_spec (E := E) (p := p) (ρ := a.eval) lo b1 hl (fun y hy => hop y (by simp [ho, Op.operands]; exact .inr (.inl (by simpa using hy))))
  have hhi := optV_spec (E := E) (p := p) (ρ := a.eval) hi' b2 hh (fun y hy => hop y (by simp [ho, Op.operands]; exact .inr (.inr (by simpa using hy))))
  obtain ⟨m1, rfl⟩ : ∃ m : Nat, b1 = (m : Int) := ⟨b1.toNat, by omega⟩
  obtain ⟨m2, rfl⟩ : ∃ m : Nat, b2 = (m : Int) := ⟨b2.toNat, by omega⟩
  rw [Int.toNat_natCast, Int.toNat_natCast] at hn
  have hgj := getM_of hM (fun k hk' => hg k (by simp at hk'; simp [hk'])) hp hkk hj
  obtain ⟨_, _, h7, _⟩ := hM.at_ j _ hgj
  simp only [AtomAt] at h7
  have hk0 : ¬ p key := hkk 0 (by omega)
  have hlen := h7.len
  have hcap := h7.cap
  have hm12 : m1 ≤ m2 := by omega
  have hm2 : m2 ≤ (E.slv j).2.2 := by omega
  generalize hA' : (if (E.slv j).2.2 = m1 then (E.slv j).1 else (E.slv j).1.map (·.add (m1 * i.esize))) = A' at *
  have hs : SlT (still c E) W (Reps (still c E) W T) T.size A' (m2 - m1) ((E.slv j).2.2 - m1) ((l.take m2).drop m1) := by
    refine ⟨by simp; omega, by omega, fun e => ?_, fun n y hy => ?_⟩
    · rw [← hA'] at e
      split at e
      · have := h7.nil e; omega
      · have := h7.nil (by simpa using e); omega
    · have hlt : m1 + n < m2 := by have := (List.getElem?_eq_some_iff.1 hy).1; simp at this; omega
      rw [List.getElem?_drop, List.getElem?_take_of_lt hlt] at hy
      obtain ⟨ad, vs, q1, q2, q3, q4⟩ := h7.at_ _ _ hy
      have hne : (E.slv j).2.2 ≠ m1 := by omega
      refine ⟨ad.add (m1 * i.esize), vs, by rw [← hA', if_neg hne, q1]; rfl, by rw [Addr.add_block]; exact q2, q3, fun r u hu => ?_⟩
      rw [Addr.add_add, hsz, show m1 * T.size + (n * T.size + r) = (m1 + n) * T.size + r from by rw [Nat.add_mul]; omega]
      exact q4 r u hu
  have hnew := hM.addRo hk0 hs
  refine wp_val (v := .slice A' (m2 - m1) ((E.slv j).2.2 - m1)) (W' := W) ?_ ?_
  · subst hA'
    have hm1c : m1 ≤ (E.slv j).2.2 := by omega
    rcases hlo with ⟨rfl, e⟩ | ⟨y, k, rfl, hy⟩ <;> rcases hhi with ⟨rfl, e'⟩ | ⟨y', k', rfl, hy'⟩
    · obtain rfl : m1 = 0 := by omega
      obtain rfl : m2 = (E.slv j).2.1 := by omega
      simp [execOp, ho, hx', Instr.sliceAt, Instr.slice, run_underlying h5 W, Instr.sliceBounds, asIntOf, mapOpt_size h6 W]
    · obtain rfl : m1 = 0 := by omega
      simp [execOp, ho, hx', hy', Instr.sliceAt, Instr.slice, run_underlying h5 W, Instr.sliceBounds, Instr.sliceBound, asIntOf, mapOpt_size h6 W, hm2]
    · obtain rfl : m2 = (E.slv j).2.1 := by omega
      simp [execOp, ho, hx', hy, Instr.sliceAt, Instr.slice, run_underlying h5 W, Instr.sliceBounds, Instr.sliceBound, asIntOf, mapOpt_size h6 W, hm12]
    · simp [execOp, ho, hx', hy, hy', Instr.sliceAt, Instr.slice, run_underlying h5 W, Instr.sliceBounds, Instr.sliceBound, asIntOf, mapOpt_size h6 W, hm12, hm2]
  · have := hn _ W (agree_setSlv hk0) ((hnew.monoP or_key).getter fun k A hA => hA) (by exact .inr ⟨Nat.le_refl _, Nat.lt_succ_self _⟩)
    simpa [den, Env.setSlv] using this

theorem RepsL.takeN {B : Nat → Prop} {W : World} {t : Ty} : ∀ (n : Nat) {l : List t.den} {vs : List Value}, RepsL B W t l vs → RepsL B W t (l.take n) (vs.take (n * t.size))
  | 0, l, vs, h => by simp [RepsL]
  | n + 1, [], vs, h => by cases h; simp [RepsL]
  | n + 1, x :: r, vs, h => by
    obtain ⟨v1, v2, rfl, h1, h2⟩ := h
    refine ⟨v1, v2.take (n * t.size), ?_, h1, RepsL.takeN n h2⟩
    rw [Nat.succ_mul, Nat.add_comm, List.take_append, h1.length, List.take_of_length_le (by rw [h1.length]; omega), Nat.add_sub_cancel_left]

/-- A row of one's own is cut at its end. -/
theorem snd_slice_own {t : Nat} {x y : Operand} (hT : TabOK tab P) (ho : o.op = .slice t x none (some y) none) {i : TI} (hi : tab t = some i) (hk : i.kind = 3) {j : Nat} (hx : ev fr x = some (.own j)) {k : IntKind} {b : Int} (hy : ev fr y = some (.v (.int k b)))
    {ty : Nat} {T : Ty} {l : List T.den} (hj : getM j M = some (.own ty T l)) (h0 : 0 ≤ b) (h1 : b ≤ (l.length : Int)) :
    OpOK P c key o fr M ⟨.own key, [(key, some (.own ty T (l.take b.toNat))), (j, none)], 1, [j], false⟩ := by
  refine ⟨by simp, fun E p a W g hM hg hkk hop next Q hn => ?_⟩
  obtain ⟨h2, h3⟩ := hop x (by simp [ho, Op.operands]) _ hx
  have h4 := (hop y (by simp [ho, Op.operands]) _ hy).2
  simp only [den] at h3 h4
  obtain ⟨h5, h6⟩ := hT.slice t i hi hk
  have hgj := getM_of hM (fun k hk' => hg k (by simp at hk'; simp [hk'])) h2 hkk hj
  obtain ⟨_, _, h7, hfz, h8⟩ := hM.at_ j _ hgj
  simp only [AtomAt, den] at h7
  obtain ⟨vs, ⟨hvl, h9⟩, hreps⟩ := h7
  have hk0 : ¬ p key := hkk 0 (by omega)
  obtain ⟨q, rfl⟩ : ∃ m : Nat, b = (m : Int) := ⟨b.toNat, by omega⟩
  rw [Int.toNat_natCast] at hn
  have hq : q ≤ l.length := by omega
  have hlen : (E.slv j).2.1 = l.length ∧ q ≤ (E.slv j).2.2 := by
    rcases h9 with ⟨hv, h9⟩ | ⟨b, cap, cur, hv, hlo, hh, hcap, _⟩
    · injection hv with _ e1 e2
      omega
    · injection hv with _ e1 e2
      omega
  refine wp_val (v := .slice (E.slv j).1 q (E.slv j).2.2) (W' := W) ?_ ?_
  · simp [execOp, ho, h3, h4, Instr.sliceAt, Instr.slice, run_underlying h5 W, Instr.sliceBounds, Instr.sliceBound, asIntOf, hlen.2, mapOpt_size h6 W]
    cases (E.slv j).1 <;> simp [Addr.add]
  · have ha : Agree p E (E.setSlv key ((E.slv j).1, q, (E.slv j).2.2)) := agree_setSlv hk0
    have := hn (E.setSlv key ((E.slv j).1, q, (E.slv j).2.2)) W ha ?_ (by exact .inr ⟨Nat.le_refl _, Nat.lt_succ_self _⟩)
    · simpa [den, Env.setSlv] using this
    · have hfoot : footOf (E.setSlv key ((E.slv j).1, q, (E.slv j).2.2)) key (.own ty T (l.take q)) = footOf E j (.own ty T l) := by simp [footOf, Env.setSlv]
      refine hM.one (T := footOf E j (.own ty T l)) ha ⟨rfl, rfl, rfl, rfl⟩ (fun _ h => .inl h) ⟨rfl, rfl, rfl, Nat.le_refl _, fun _ _ _ => rfl⟩ (fun b hb => ⟨(h8 b hb).2.resolve_left (by simp [Atom.isRnd]), ?_⟩) key (.own ty T (l.take q)) (fun k' hne A hA => ?_) (fun A hA => by simpa [gUpd] using hA.symm)
        ⟨.inr ⟨Nat.le_refl _, Nat.lt_succ_self _⟩, trivial, ?_, (by simp [Atom.mine]), fun b hb => ?_⟩
      · cases hA : (E.slv j).1 with
        | none => simp [footOf, hA] at hb
        | some ad =>
          simp only [footOf, hA, List.mem_singleton] at hb
          subst hb
          exact hfz ad hA
      · simp only [gUpd, if_neg hne] at hA
        by_cases e : k' = j
        · simp [e] at hA
        · rw [if_neg e] at hA
          exact ⟨hA, hM.dj k' j A _ hA hgj e⟩
      · simp only [AtomAt, den, Env.setSlv, if_pos]
        have hll : (l.take q).length = q := by simp; omega
        refine ⟨vs.take (q * T.size), ⟨?_, ?_⟩, hreps.takeN q⟩
        · rw [List.length_take, hvl, hll]
          exact Nat.min_eq_left (Nat.mul_le_mul_right _ hq)
        · rw [hll]
          rcases h9 with ⟨hv, h9⟩ | ⟨b, cap, cur, hv, hlo, hh, hcap, hmax, hsize, ht⟩
          · injection hv with e0 e1 e2
            exact .inl ⟨by rw [e0, e2, show q = 0 by omega], by omega⟩
          · injection hv with e0 e1 e2
            refine .inr ⟨b, cap, cur, by rw [e0, e2], hlo, hh, by omega, hmax, hsize, ?_⟩
            rw [← ht, List.take_take, Nat.min_eq_left (Nat.mul_le_mul_right _ hq)]
      · rw [hfoot] at hb
        exact .inr hb
end
end Go.VM

/-
Slices of boxes among the cells of a slice that is built: read only from there on.
-/
set_option linter.unusedVariables false
set_option linter.unusedSimpArgs false
namespace Go.VM
open Go.RowKit
theorem gUpd_inM {g g' : Nat → Option Atom} : ∀ (u : List (Nat × Option Atom)) (k : Nat), k ∈ keysU u → gUpd g u k = gUpd g' u k
  | [], k, h => by simp [keysU] at h
  | (j, A) :: r, k, h => by
    simp only [gUpd]
    by_cases e : k = j
    · simp [e]
    · rw [if_neg e, if_neg e]
      exact gUpd_inM r k (by simpa [keysU, e] using h)
theorem gUpd_outM {g : Nat → Option Atom} : ∀ (u : List (Nat × Option Atom)) (k : Nat), k ∉ keysU u → gUpd g u k = g k
  | [], k, h => rfl
  | (j, A) :: r, k, h => by
    simp only [keysU, List.mem_cons, not_or] at h
    simp only [gUpd, if_neg h.1]
    exact gUpd_outM r k h.2
theorem gUpd_appM {g : Nat → Option Atom} {k : Nat} : ∀ (u u' : List (Nat × Option Atom)), gUpd g (u ++ u') k = gUpd (gUpd g u') u k
  | [], u' => rfl
  | (i, B) :: r, u' => by 
    simp only [List.cons_append, gUpd]
    split
    · rfl
    · exact gUpd_appM r u'
theorem keysU_app : ∀ (u u' : List (Nat × Option Atom)), keysU (u ++ u') = keysU u ++ keysU u'
  | [], _ => rfl
  | (i, B) :: r, u' => by simp [keysU, keysU_app r u']
theorem erM_get (M : List (Nat × Atom)) (i k : Nat) : getM k (erM i M) = if k = i then none else getM k M := by
  induction M with
  | nil => simp [erM, getM]
  | cons y r ih =>
    obtain ⟨j, A⟩ := y
    simp only [erM]
    cases h : Nat.beq j i with
    | true =>
      have := Nat.eq_of_beq_eq_true h
      subst this
      simp only [ih, getM]
      by_cases e : k = j
      · simp [e]
      · have : Nat.beq j k = false := by
          cases hb : Nat.beq j k with
          | false => rfl
          | true => exact absurd (Nat.eq_of_beq_eq_true hb).symm e
        simp [e, this]
    | false =>
      simp only [getM, ih]
      cases hb : Nat.beq j k with
      | false => rfl
      | true =>
        have e2 := Nat.eq_of_beq_eq_true hb
        subst e2
        have : j ≠ i := fun e => by rw [e, Nat.beq_refl] at h; cases h
        simp [this]
theorem updM_getM (M : List (Nat × Atom)) : ∀ (u : List (Nat × Option Atom)) (k : Nat), getM k (updM M u) = gUpd (fun k => getM k M) u k
  | [], k => rfl
  | (i, none) :: r, k => by
    simp only [updM, gUpd, erM_get, updM_getM M r k]
  | (i, some A) :: r, k => by
    simp only [updM, gUpd, getM]
    by_cases e : k = i
    · subst e
      simp
    · have : Nat.beq i k = false := by
        cases hb : Nat.beq i k with
        | false => rfl
        | true => exact absurd (Nat.eq_of_beq_eq_true hb).symm e
      simp only [this, if_neg e, erM_get, updM_getM M r k]
section
variable {c : Ctx}
theorem melt1_sound {M : List (Nat × Atom)} {key : Nat} {t : Option Ty} {s s' : SV} {u : List (Nat × Option Atom)} {rd : List Nat} (h : melt1 M key t s = some (s', u, rd)) {E : Env} {p : Nat → Prop} {g : Nat → Option Atom} {W : World} (hM : SatM c E p g W) (hg : ∀ k, k ∈ rd → p k → g k = getM k M) (hk : ¬ p key) (hs : s.ok p) :
    ∃ E', Agree p E E' ∧ SatM c E' (fun k => p k ∨ k = key) (gUpd g u) W ∧ den E' s' = den E s ∧ s' = .own key ∧ (∀ k, k ∈ keysU u → k = key ∨ p k) ∧ key ∈ keysU u := by
  unfold melt1 at h
  split at h
  · rename_i j off n q a
    split at h
    · rename_i cs ty bb hj hnq
      split at h
      · rename_i l hl
        simp only [Option.some.injEq, Prod.mk.injEq] at h
        obtain ⟨rfl, rfl, rfl⟩ := h
        have hpj : p j := hs
        have hgj : g j = some (.box cs ty bb) := by rw [hg j (by simp) hpj, hj]
        obtain ⟨_, hok, hat, _, hft⟩ := hM.at_ j _ hgj
        obtain ⟨E1, e1, e2, e3, e4, e5⟩ := hM.frz1 hgj trivial
        simp only [AtomAt] at hat
        have hown : ∀ q, .own q ∈ dropN off cs → g q = getM q M := fun q hq => by
          rw [dropN_eq] at hq
          have hp : p q := (okL_iff p cs).1 hok _ (List.mem_of_mem_drop hq)
          exact hg q (List.mem_cons_of_mem _ (ownK_drop _ _ _ (mem_ownK hq))) hp
        have hsl : SlT (still c E1) W (Reps (still c E1) W a) a.size (some ⟨E.blk j, off, none⟩) n q l := by
          refine slT_row (M := M) (E' := E1) hM hl hown (fun b hb => ?_) (.inr (e4 _ (by simp [footOf]))) (Nat.le_of_ble_eq_true hnq) (fun n s hs => ?_)
          · rcases hb with hb | hb
            · exact .inl hb
            · exact .inr (e2 b hb)
          · rw [Addr.add_lit, cell_of_heap hat, denL_eq, List.getElem?_map]
            rw [dropN_eq, List.getElem?_drop] at hs
            rw [hs]
            rfl
        have hnew := e5.addRo hk hsl
        refine ⟨_, ?_, hnew.getter fun k A hA => ?_, by simp [den, Env.setSlv], rfl, ?_, by simp [keysU]⟩
        · intro k hk'
          obtain ⟨q1, q2⟩ := agree_setSlv (p := p) (E := E1) (x := (some ⟨E.blk j, off, none⟩, n, q)) hk k hk'
          exact ⟨by rw [q1, e1.1], by rw [q2, e1.2.1]⟩
        · rw [← hA]
          simp [gUpd, frzA]
        · intro k hk'
          simp only [keysU, List.mem_cons, List.not_mem_nil, or_false] at hk'
          rcases hk' with rfl | rfl
          · exact .inl rfl
          · exact .inr hpj
      · cases h
    · cases h
  · cases h

theorem melt_sound {M : List (Nat × Atom)} {key : Nat} : ∀ (ss : List SV) (ts : List (Option Ty)) (ss' : List SV) (u : List (Nat × Option Atom)) (n : Nat) (rd : List Nat), meltL M key ts ss = (ss', u, n, rd) → ∀ {E : Env} {p : Nat → Prop} {g : Nat → Option Atom} {W : World}, SatM c E p g W → (∀ k, k ∈ rd ∨ k ∈ keysU u → p k → g k = getM k M) → (∀ k, key ≤ k → k < n → ¬ p k) → okL p ss →
    key ≤ n ∧ (∀ k, key ≤ k → k < n → k ∈ keysU u) ∧ (∀ k, k ∈ keysU u → (key ≤ k ∧ k < n) ∨ p k) ∧ ∃ E', Agree p E E' ∧ SatM c E' (fun k => p k ∨ key ≤ k ∧ k < n) (gUpd g u) W ∧ denL E' ss' = denL E ss ∧ okL (fun k => p k ∨ key ≤ k ∧ k < n) ss'
  | [], ts, ss', u, n, rd, h, E, p, g, W, hM, hg, hk, hs => by
    simp only [meltL, Prod.mk.injEq] at h
    obtain ⟨rfl, rfl, rfl, rfl⟩ := h
    exact ⟨Nat.le_refl _, fun k h1 h2 => by omega, by simp [keysU], E, fun _ _ => ⟨rfl, rfl⟩, hM.monoP fun _ h => .inl h, rfl, trivial⟩
  | s :: r, ts, ss', u, n, rd, h, E, p, g, W, hM, hg, hk, hs => by
    rcases hr : meltL M key (tailT ts) r with ⟨r', u1, n1, rd1⟩
    simp only [meltL, hr] at h
    split at h
    · rename_i s' u' rd' h1
      simp only [Prod.mk.injEq] at h
      obtain ⟨rfl, rfl, rfl, rfl⟩ := h
      obtain ⟨i1, i2, i3, E1, i4, i5, i6, i7⟩ := melt_sound r _ _ _ _ _ hr hM (fun k hk' hp => hg k (by
        rcases hk' with hk' | hk'
        · exact .inl (by simp [hk'])
        · exact .inr (by simp [keysU_app, hk'])) hp) (fun k h1 h2 => hk k h1 (by omega)) hs.2
      have hx1 : ∀ k, k ∈ rd' → (p k ∨ key ≤ k ∧ k < n1) → gUpd g u1 k = getM k (updM M u1) := fun k hk' hp => by
        rw [updM_getM]
        by_cases e : k ∈ keysU u1
        · exact gUpd_inM _ _ e
        · rw [gUpd_outM _ _ e, gUpd_outM _ _ e]
          rcases hp with hp | ⟨q1, q2⟩
          · exact hg k (.inl (by simp [hk'])) hp
          · exact absurd (i2 k q1 q2) e
      have hx2 : ¬ (p n1 ∨ key ≤ n1 ∧ n1 < n1) := fun hh => by
        rcases hh with hh | hh
        · exact hk n1 i1 (by omega) hh
        · exact absurd hh.2 (by omega)
      obtain ⟨E2, f1, f2, f3, f4, f5, f6⟩ := melt1_sound h1 i5 hx1 hx2 (ok_mono (fun _ h => .inl h) s hs.1)
      · refine ⟨by omega, fun k h1 h2 => ?_, fun k hk' => ?_, E2, fun k hp => ?_, (f2.monoP fun k hk' => ?_).getter fun k A hA => ?_, ?_, ?_⟩
        · rw [keysU_app, List.mem_append]
          by_cases e : k < n1
          · exact .inr (i2 k h1 e)
          · have : k = n1 := by omega
            subst this
            exact .inl f6
        · rw [keysU_app, List.mem_append] at hk'
          rcases hk' with hk' | hk'
          · rcases f5 k hk' with rfl | hk' | ⟨q1, q2⟩
            · exact .inl ⟨i1, by omega⟩
            · exact .inr hk'
            · exact .inl ⟨q1, by omega⟩
          · rcases i3 k hk' with ⟨q1, q2⟩ | hk'
            · exact .inl ⟨q1, by omega⟩
            · exact .inr hk'
        · obtain ⟨q1, q2⟩ := i4 k hp
          obtain ⟨q3, q4⟩ := f1 k (.inl hp)
          exact ⟨q3.trans q1, q4.trans q2⟩
        · rcases hk' with (hk' | ⟨q1, q2⟩) | rfl
          · exact .inl hk'
          · exact .inr ⟨q1, by omega⟩
          · exact .inr ⟨i1, by omega⟩
        · rw [gUpd_appM] at hA
          exact hA
        · simp only [denL]
          rw [f3, den_agree i4 s hs.1, denL_agree f1 r' i7, i6]
        · refine ⟨by subst f4; exact .inr ⟨i1, by omega⟩, okL_mono (fun k hk' => ?_) r' i7⟩
          rcases hk' with hk' | ⟨q1, q2⟩
          · exact .inl hk'
          · exact .inr ⟨q1, by omega⟩
    · rename_i h1
      simp only [Prod.mk.injEq] at h
      obtain ⟨rfl, rfl, rfl, rfl⟩ := h
      obtain ⟨i1, i2, i3, E1, i4, i5, i6, i7⟩ := melt_sound r _ _ _ _ _ hr hM hg hk hs.2
      exact ⟨i1, i2, i3, E1, i4, i5, by simp only [denL]; rw [den_agree i4 s hs.1, i6], ok_mono (fun _ h => .inl h) s hs.1, i7⟩

theorem melt_keys {M : List (Nat × Atom)} {key : Nat} (hf : ∀ k, key ≤ k → getM k M = none) : ∀ (ss : List SV) (ts : List (Option Ty)) (ss' : List SV) (u : List (Nat × Option Atom)) (n : Nat) (rd : List Nat), meltL M key ts ss = (ss', u, n, rd) → key ≤ n ∧ ∀ k, k ∈ keysU u → k < n
  | [], ts, ss', u, n, rd, h => by
    simp only [meltL, Prod.mk.injEq] at h
    obtain ⟨rfl, rfl, rfl, rfl⟩ := h
    exact ⟨Nat.le_refl _, by simp [keysU]⟩
  | s :: r, ts, ss', u, n, rd, h => by
    rcases hr : meltL M key (tailT ts) r with ⟨r', u1, n1, rd1⟩
    obtain ⟨i1, i2⟩ := melt_keys hf r _ _ _ _ _ hr
    simp only [meltL, hr] at h
    split at h
    · rename_i s' u' rd' h1
      simp only [Prod.mk.injEq] at h
      obtain ⟨rfl, rfl, rfl, rfl⟩ := h
      refine ⟨by omega, fun k hk => ?_⟩
      rw [keysU_app, List.mem_append] at hk
      rcases hk with hk | hk
      · unfold melt1 at h1
        split at h1
        · rename_i j off n q a
          split at h1
          · rename_i cs ty bb hj hnq
            split at h1
            · simp only [Option.some.injEq, Prod.mk.injEq] at h1
              obtain ⟨rfl, rfl, rfl⟩ := h1
              simp only [keysU, List.mem_cons, List.not_mem_nil, or_false] at hk
              rcases hk with rfl | rfl
              · omega
              · rcases Nat.lt_or_ge k n1 with h2 | h2
                · omega
                · rw [updM_getM, gUpd_outM _ _ (fun hh => by have := i2 k hh; omega), hf k (by omega)] at hj
                  cases hj
            · cases h1
          · cases h1
        · cases h1
      · have := i2 k hk
        omega
    · simp only [Prod.mk.injEq] at h
      obtain ⟨rfl, rfl, rfl, rfl⟩ := h
      exact ⟨i1, i2⟩
end

section
variable {tab : Nat → Option TI} {P : Program} {c : Ctx} {key : Nat} {fr : List (Nat × SV)} {M : List (Nat × Atom)} {K : Res → Prop} {o : Oper}
theorem snd_buildSlice {t len : Nat} {parts : Array (Nat × Operand)} (hT : TabOK tab P) (ho : o.op = .buildSlice t len parts) {i e : TI} (hi : tab t = some i) (hk : i.kind = 3) (he : tab i.elem = some e) (hlen : len * i.esize ≤ 1000) {R : Type} {L : List SV → Tree R} {ret : R}
    (h : (vmOp.bldV fr (fun f => some (f * i.esize, i.esize)) (vals (List.replicate len e.zero).flatten) parts.toList L).eval = some ret) : ∃ l, (L l).eval = some ret ∧ ∀ ts l' u n rd, meltL M (key + 1) ts l = (l', u, n, rd) → n - key ≤ 8 → OpOK P c key o fr M ⟨.sl key 0 len len, (key, some (.box l' i.elem true)) :: u, n - key, rd, false⟩ := by
  obtain ⟨l, h1, h2⟩ := bld_fill _ _ _ _ h
  refine ⟨l, h1, fun ts l' u n rd hme hn8 => ⟨hn8, fun E p a W g hM hg hkk hop next Q hn => ?_⟩⟩
  obtain ⟨h3, h4⟩ := h2 E p a.eval (okL_vals p _) (partsOp (t := t) (parts := parts) (by rw [ho]; rfl) hop)
  obtain ⟨h5, h6⟩ := hT.slice t i hi hk
  obtain ⟨I, h7, h8, _, z, hz, hzc⟩ := hT.info _ e he
  have hes : e.size = i.esize := by
    have := info_of hT he
    rw [h6] at this
    simpa using this.symm
  have hk0 : ¬ p key := hkk 0 (by omega)
  rw [denL_vals] at h4
  have hrun : (Instr.buildSlice t len (parts.map fun x => (x.1, a.eval x.2))).run P W = .ok (.slice (some ⟨W.heap.size, 0, none⟩) len len) (W.alloc (.cells (denL E l).toArray i.elem)) := by
    by_cases hz0 : len * i.esize = 0
    · have hfl : (List.replicate len e.zero).flatten = [] := by
        apply List.eq_nil_of_length_eq_zero
        simp [hT.zlen _ _ he, hes, hz0]
      rw [hfl] at h4
      simp [Instr.buildSlice, run_underlying h5 W, mapOpt_size h6 W, hz0, newRow]
      rw [show Array.map (fun x => (default : Value)) (Array.range 0) = #[] from by simp [Array.range], h4]
      simp
    · have hcells := madeCells_eq e.zero len i.esize (by rw [hT.zlen _ _ he, hes])
      rw [← hcells] at h4
      have : ¬ len * i.esize > 16777216 := by omega
      simp [Instr.buildSlice, run_underlying h5 W, mapOpt_size h6 W, hz0, this, zeroValue, run_typeInfo W h7, hz, newRow, hzc]
      simp at h4
      rw [h4]
      simp
  have hfr : ∀ k, p k → ¬ (key ≤ k ∧ k < key + 8) := fun k hp hh => hkk (k - key) (by omega) (by rw [show key + (k - key) = k from by omega]; exact hp)
  obtain ⟨m1, m2, m3, E1, m4, m5, m6, m7⟩ := melt_sound (c := c) l ts l' u n rd hme hM (fun k hk' hp => hg k (by
    rcases hk' with hk' | hk'
    · exact .inr (.inl hk')
    · exact .inr (.inr (by simp [keysU, hk']))) (hfr k hp)) (fun k q1 q2 hp => hfr k hp ⟨by omega, by omega⟩) h3
  have hk1 : ¬ (p key ∨ key + 1 ≤ key ∧ key < n) := fun hh => by
    rcases hh with hh | hh
    · exact hk0 hh
    · omega
  rw [← m6] at hrun
  refine wp_val (v := .slice (some ⟨W.heap.size, 0, none⟩) len len) (W' := W.alloc (.cells (denL E1 l').toArray i.elem)) (by simp only [execOp, ho]; simp [hrun]) ?_
  have := hn _ _ (fun k hp => ?_) (((m5.newBox hk1 l' m7 i.elem).monoP (p' := fun k => p k ∨ key ≤ k ∧ k < key + (n - key)) fun k hk' => ?_).getter fun k A hA => ?_) (by exact .inr ⟨Nat.le_refl _, by simp; omega⟩)
  · simpa [den, Env.setBlk] using this
  · obtain ⟨q1, q2⟩ := agree_setBlk (p := fun k => p k ∨ key + 1 ≤ k ∧ k < n) (E := E1) (b := W.heap.size) hk1 k (.inl hp)
    obtain ⟨q3, q4⟩ := m4 k hp
    exact ⟨q1.trans q3, q2.trans q4⟩
  · rcases hk' with (hk' | hk') | hk'
    · exact .inl hk'
    · exact .inr ⟨by omega, by omega⟩
    · exact .inr ⟨by omega, by omega⟩
  · simpa [gUpd] using hA
end
end Go.VM

/-
The operations, ninth part: append.
-/
set_option linter.unusedVariables false
set_option linter.unusedSimpArgs false
namespace Go.VM
open Go.RowKit

/-- A slice's elements, cell by cell. -/
theorem SlT.toRow {B : Nat → Prop} {W : World} {t : Ty} {A : Option Addr} {n q : Nat} {l : List t.den} (h : SlT B W (Reps B W t) t.size A n q l) : ∃ vs, RepsL B W t l vs ∧ ∀ a, A = some a → ∀ j u, vs[j]? = some u → W.cell? (a.add j) = some u := by
  have key : ∀ (l : List t.den) (k : Nat), (∀ i x, l[i]? = some x → ∃ a vs, A = some a ∧ B a.block ∧ Reps B W t x vs ∧ ∀ j u, vs[j]? = some u → W.cell? (a.add ((k + i) * t.size + j)) = some u) →
      ∃ vs, RepsL B W t l vs ∧ ∀ a, A = some a → ∀ j u, vs[j]? = some u → W.cell? (a.add (k * t.size + j)) = some u := by
    intro l
    induction l with
    | nil => intro k _; exact ⟨[], rfl, by simp⟩
    | cons x r ih =>
      intro k h
      obtain ⟨a, v1, h1, h2, h3, h4⟩ := h 0 x rfl
      obtain ⟨v2, h5, h6⟩ := ih (k + 1) fun i y hy => by
        obtain ⟨a, vs, q1, q2, q3, q4⟩ := h (i + 1) y (by simpa using hy)
        exact ⟨a, vs, q1, q2, q3, fun j u hu => by rw [show k + 1 + i = k + (i + 1) from by omega]; exact q4 j u hu⟩
      have hl := h3.length
      refine ⟨v1 ++ v2, ⟨v1, v2, rfl, h3, h5⟩, fun a' ha' j u hu => ?_⟩
      rcases Nat.lt_or_ge j v1.length with hj | hj
      · rw [List.getElem?_append_left hj] at hu
        rw [h1] at ha'
        injection ha' with ha'
        subst ha'
        exact h4 j u hu
      · rw [List.getElem?_append_right hj] at hu
        have := h6 a' ha' _ u hu
        rw [Nat.succ_mul, hl] at this
        rwa [show k * t.size + t.size + (j - t.size) = k * t.size + j from by omega] at this
  obtain ⟨vs, h1, h2⟩ := key l 0 (fun i x hx => by
    obtain ⟨a, vs, q1, q2, q3, q4⟩ := h.at_ i x hx
    exact ⟨a, vs, q1, q2, q3, fun j u hu => by rw [Nat.zero_add]; exact q4 j u hu⟩)
  exact ⟨vs, h1, fun a ha j u hu => by have := h2 a ha j u hu; rwa [Nat.zero_mul, Nat.zero_add] at this⟩
section
variable {tab : Nat → Option TI} {P : Program} {c : Ctx} {key : Nat} {fr : List (Nat × SV)} {M : List (Nat × Atom)} {K : Res → Prop} {o : Oper}

theorem dst_at {E : Env} {p : Nat → Prop} {g : Nat → Option Atom} {W : World} (hM : SatM c E p g W) {ty : Nat} {t : Ty} {s : SV} {l : List t.den} {ks rds : List Nat} (h : dstOf M ty t s = some (l, ks, rds)) (hg : ∀ k, k ∈ rds → ¬ (key ≤ k ∧ k < key + 8) → g k = getM k M) (hk : ∀ q, q < 8 → ¬ p (key + q)) (hok : s.ok p) (hmax : ∀ j o n q, s = .sl j o n q → l.length ≤ 9223372036854775807) :
    (∀ k, k ∈ ks → p k) ∧ ∃ A0 l0 q0 vs, den E s = .slice A0 l0 q0 ∧ W.ownsRow c.w0.heap.size ty t.size (.slice A0 l0 q0) l.length vs ∧ RepsL (still c E) W t l vs ∧ (∀ b, b ∈ sliceFoot A0 → c.w0.heap.size ≤ b ∧ ¬ E.fz b) ∧ ∀ k A, k ∉ ks → g k = some A → ∀ b, b ∈ footOf E k A → b ∉ sliceFoot A0 := by
  have hfree : ∀ {j}, p j → j ∈ rds → g j = getM j M := fun {j} hp hj => hg j hj fun hh => hk (j - key) (by omega) (by rw [show key + (j - key) = j from by omega]; exact hp)
  cases s with
  | own j =>
    simp only [dstOf] at h
    split at h
    · rename_i ty' t' l' hj
      split at h
      · rename_i q hty hq
        simp only [Option.some.injEq, Prod.mk.injEq] at h
        obtain ⟨rfl, rfl, rfl⟩ := h
        have := Nat.eq_of_beq_eq_true hty
        subst this
        have e := as_slice hq
        injection e with e1 e2
        subst e1
        obtain rfl := eq_of_heq e2
        have hgj : g j = _ := (hfree hok (by simp)).trans hj
        obtain ⟨_, _, h3, h4, h5⟩ := hM.at_ j _ hgj
        simp only [AtomAt, den] at h3
        obtain ⟨vs, h6, h7⟩ := h3
        have hf : footOf E j (.own ty t' l') = sliceFoot (E.slv j).1 := by cases h : (E.slv j).1 <;> simp [footOf, sliceFoot, h]
        refine ⟨fun k hk => by simp at hk; subst hk; exact hok, _, _, _, vs, rfl, h6, h7, fun b hb => ⟨(h5 b (by rw [hf]; exact hb)).2.resolve_left (by simp [Atom.isRnd]), ?_⟩, fun k A hne hA b hb => ?_⟩
        · cases hA : (E.slv j).1 with
          | none => simp [sliceFoot, hA] at hb
          | some ad =>
            simp only [sliceFoot, hA, List.mem_singleton] at hb
            subst hb
            exact h4 ad hA
        · rw [← hf]
          exact hM.dj k j A _ hA hgj (by simpa using hne) b hb
      · simp at h
    · simp at h
  | sl j off n q =>
    cases off with
    | succ off => simp [dstOf] at h
    | zero =>
      simp only [dstOf] at h
      split at h
      · rename_i cs ty' hj hnq
        split at h
        · rename_i l' hty hlen hrow
          simp only [Option.some.injEq, Prod.mk.injEq] at h
          obtain ⟨rfl, rfl, rfl⟩ := h
          have := Nat.eq_of_beq_eq_true hty
          subst this
          have := Nat.eq_of_beq_eq_true hnq
          subst this
          have hlen := Nat.eq_of_beq_eq_true hlen
          rw [lenL_eq] at hlen
          have hgj : g j = _ := (hfree hok (by simp)).trans hj
          obtain ⟨_, hcs, h3, h4, h5⟩ := hM.at_ j _ hgj
          simp only [AtomAt] at h3
          obtain ⟨r1, r2, r3⟩ := rowOf_rep (ks := []) hM _ _ _ hrow (by simp) (get_own (key := key) hg hk hcs fun j hj => by simp [hj])
          rw [List.take_of_length_le (by rw [denL_length, hlen]; exact Nat.le_refl _)] at r3
          refine ⟨fun k hk => by simp at hk; subst hk; exact hok, _, _, _, denL E cs, rfl, ⟨by rw [denL_length, hlen, r1], .inr ⟨E.blk j, n, _, by rw [r1], ?_, h3, by rw [r1]; exact Nat.le_refl _, by have := hmax _ _ _ _ rfl; unfold maxLen; omega, by simp [denL_length, hlen], ?_⟩⟩, r3.mono (fun b hb => seen_false hb) fun _ _ => rfl, fun b hb => ?_, fun k A hne hA b hb => ?_⟩
          · exact (h5 _ (by simp [footOf])).2.resolve_left (by simp [Atom.isRnd])
          · rw [List.toList_toArray, List.take_of_length_le (by rw [denL_length, hlen, r1]; exact Nat.le_refl _)]
          · simp only [sliceFoot, List.mem_singleton] at hb
            subst hb
            exact ⟨(h5 _ (by simp [footOf])).2.resolve_left (by simp [Atom.isRnd]), by simpa [Atom.fzn] using h4⟩
          · have := hM.dj k j A _ hA hgj (by simpa using hne) b hb
            simpa [footOf, sliceFoot] using this
        · simp at h
      · simp at h
  | v x =>
    cases x with
    | slice A n q =>
      cases A with
      | some a => simp [dstOf] at h
      | none =>
        cases n with
        | succ n => simp [dstOf] at h
        | zero =>
          cases q with
          | succ q => simp [dstOf] at h
          | zero =>
            simp only [dstOf, Option.some.injEq, Prod.mk.injEq] at h
            obtain ⟨rfl, rfl, rfl⟩ := h
            exact ⟨by simp, none, 0, 0, [], rfl, ⟨by simp, .inl ⟨rfl, rfl⟩⟩, rfl, by simp [sliceFoot], by simp [sliceFoot]⟩
    | _ => simp [dstOf] at h
  | _ => simp [dstOf] at h

theorem src_at {E : Env} {p : Nat → Prop} {g : Nat → Option Atom} {W : World} (hM : SatM c E p g W) {t : Ty} {s : SV} {xs : List t.den} {rds : List Nat} {fz : List (Nat × Atom)} (h : srcOf' M t s = some (xs, rds, fz)) (hg : ∀ k, k ∈ rds → ¬ (key ≤ k ∧ k < key + 8) → g k = getM k M) (hk : ∀ q, q < 8 → ¬ p (key + q)) (hok : s.ok p) :
    (∀ j A, (j, A) ∈ fz → ∃ B, g j = some B ∧ B.canFz ∧ A = frzA B) ∧ ∀ (E1 : Env), (∀ b, still c E b → still c E1 b) → (∀ j A B, (j, A) ∈ fz → g j = some B → ∀ b, b ∈ footOf E j B → E1.fz b) →
      ∃ A q vs, den E s = .slice A xs.length q ∧ (A = none → xs.length = 0 ∧ q = 0) ∧ RepsL (still c E1) W t xs vs ∧ ∀ a, A = some a → ∀ j u, vs[j]? = some u → W.cell? (a.add j) = some u := by
  have hfree : ∀ {j}, p j → j ∈ rds → g j = getM j M := fun {j} hp hj => hg j hj fun hh => hk (j - key) (by omega) (by rw [show key + (j - key) = j from by omega]; exact hp)
  simp only [srcOf'] at h
  split at h
  · rename_i x hx
    split at h
    · rename_i l hl
      have e := as_slice hl
      subst e
      cases s with
      | own j =>
        simp only [Option.some.injEq, Prod.mk.injEq] at h
        obtain ⟨rfl, rfl, rfl⟩ := h
        have hgj0 : g j = getM j M := hfree hok (by simp)
        refine ⟨by simp, fun E1 hE _ => ?_⟩
        simp only [leafOf, leaf0] at hx
        split at hx
        · rename_i a q hj
          injection hx with hx
          injection hx with h1 h2
          subst h1
          obtain rfl := eq_of_heq h2
          rw [hj] at hgj0
          obtain ⟨_, _, h3, _⟩ := hM.at_ j _ hgj0
          simp only [AtomAt] at h3
          obtain ⟨vs, q1, q2⟩ := h3.toRow
          exact ⟨_, _, vs, by rw [h3.len]; rfl, fun e => by rw [h3.len]; exact h3.nil e, q1.mono hE fun _ _ => rfl, q2⟩
        · rename_i ty a q hj
          simp only [Option.some.injEq] at hx
          injection hx with h1 h2
          subst h1
          obtain rfl := eq_of_heq h2
          rw [hj] at hgj0
          obtain ⟨_, _, h3, _⟩ := hM.at_ j _ hgj0
          simp only [AtomAt, den] at h3
          obtain ⟨vs, ⟨h4, h5⟩, h6⟩ := h3
          rcases h5 with ⟨hv, hn⟩ | ⟨b, cap, cur, hv, hlo, hh, hcap, hmax, hsize, ht⟩
          · injection hv with e1 e2 e3
            refine ⟨none, 0, vs, by simp only [den]; rw [e1, e2, e3, hn], fun _ => ⟨hn, rfl⟩, h6.mono hE fun _ _ => rfl, by simp⟩
          · injection hv with e1 e2 e3
            refine ⟨some ⟨b, 0, none⟩, cap, vs, by simp only [den]; rw [e1, e2, e3], by simp, h6.mono hE fun _ _ => rfl, fun a ha i u hu => ?_⟩
            injection ha with ha
            subst ha
            rw [Addr.add_lit]
            simp only [World.cell?, hh, Nat.zero_add]
            have hlt := (List.getElem?_eq_some_iff.1 hu).1
            rw [h4] at hlt
            rw [← ht, List.getElem?_take_of_lt hlt] at hu
            simpa using hu
        · simp at hx
      | sl j off n q =>
        simp only at h
        split at h
        · rename_i cs ty b hj
          simp only [Option.some.injEq, Prod.mk.injEq] at h
          obtain ⟨rfl, rfl, rfl⟩ := h
          simp only [leafOf, hj] at hx
          cases hnq : Nat.ble n q with
          | false => simp [hnq] at hx
          | true =>
          simp only [hnq] at hx
          split at hx
          · rename_i l' hrow
            injection hx with hx
            injection hx with h1 h2
            subst h2
            have hgj : g j = _ := (hfree hok (by simp)).trans hj
            obtain ⟨_, hcs, h3, _⟩ := hM.at_ j _ hgj
            simp only [AtomAt] at h3
            have hown := get_own (key := key) hg hk hcs (fun j hj => by simp [hj])
            refine ⟨fun i A hi => ?_, fun E1 hE hF => ?_⟩
            · obtain ⟨h1, ty', t', l', h2, h3⟩ := mem_frzK _ _ _ hi
              exact ⟨_, (hown i h1).trans h2, trivial, h3⟩
            · have hown' : ∀ i, .own i ∈ dropN off cs → g i = getM i M := fun i hi => hown i (by rw [dropN_eq] at hi; exact List.mem_of_mem_drop hi)
              obtain ⟨r1, r2, r3⟩ := rowOf_rep (ks := ownK cs) hM _ _ _ hrow (fun _ i hi => mem_ownK (by rw [dropN_eq] at hi; exact List.mem_of_mem_drop hi)) hown'
              refine ⟨some ⟨E.blk j, off, none⟩, q, _, by simp only [den]; rw [r1], by simp, r3.mono (fun b hb => ?_) fun _ _ => rfl, fun a ha i u hu => ?_⟩
              · rcases hb with hb | ⟨k, ty', t', l', a, hk', hgk, hA, hab⟩
                · exact hE b hb
                · have hkm : ∀ (cs : List SV) k, k ∈ ownK cs → .own k ∈ cs := by
                    intro cs
                    induction cs with
                    | nil => intro k hk; simp [ownK] at hk
                    | cons s r ih =>
                      intro k hk
                      cases s with
                      | own i =>
                        simp only [ownK, List.mem_cons] at hk
                        rcases hk with rfl | hk
                        · simp
                        · simp [ih k hk]
                      | _ => simp [ih k (by simpa [ownK] using hk)]
                  have hkc := hkm cs k hk'
                  have hgk' := (hown k hkc).symm.trans hgk
                  exact .inr (hF k _ _ (frzK_mem cs k ty' t' l' hkc hgk') hgk b (by simp [footOf, hA, hab]))
              · injection ha with ha
                subst ha
                rw [Addr.add_lit, cell_of_heap h3]
                have hlt : i < n * t.size := by
                  have := (List.getElem?_eq_some_iff.1 hu).1
                  simp only [List.length_take] at this
                  omega
                rw [List.getElem?_take_of_lt hlt, dropN_eq, denL_drop, List.getElem?_drop] at hu
                exact hu
          · simp at hx
        · simp at h
      | v y =>
        simp only [Option.some.injEq, Prod.mk.injEq] at h
        obtain ⟨rfl, rfl, rfl⟩ := h
        refine ⟨by simp, fun E1 hE _ => ?_⟩
        cases y with
        | slice A n q =>
          cases A with
          | some a => simp [leafOf, leaf0] at hx
          | none =>
            cases n with
            | succ n => simp [leafOf, leaf0] at hx
            | zero =>
              cases q with
              | succ q => simp [leafOf, leaf0] at hx
              | zero =>
                simp only [leafOf, leaf0, Option.some.injEq] at hx
                injection hx with h1 h2
                subst h2
                exact ⟨none, 0, [], rfl, fun _ => ⟨rfl, rfl⟩, rfl, by simp⟩
        | _ => simp [leafOf, leaf0] at hx
      | _ => simp [leafOf, leaf0] at hx
    · simp at h
  · simp at h

theorem hasK_mem {j : Nat} : ∀ {l : List (Nat × Atom)}, hasK j l = false → ∀ A, (j, A) ∉ l
  | [], _, A => by simp
  | (i, B) :: r, h, A => by
    simp only [hasK] at h
    cases hb : Nat.beq i j with
    | true => simp [hb] at h
    | false =>
      simp only [hb] at h
      simp only [List.mem_cons, Prod.mk.injEq, not_or, not_and]
      exact ⟨fun e => (by subst e; rw [Nat.beq_refl] at hb; cases hb), hasK_mem h A⟩
theorem hasKs_mem : ∀ {ks : List Nat} {l : List (Nat × Atom)}, hasKs ks l = false → ∀ j, j ∈ ks → ∀ A, (j, A) ∉ l
  | [], l, _, j, h => by simp at h
  | k :: r, l, h, j, hj => by
    simp only [hasKs] at h
    cases hb : hasK k l with
    | true => simp [hb] at h
    | false =>
      simp only [hb] at h
      simp only [List.mem_cons] at hj
      rcases hj with rfl | hj
      · exact hasK_mem hb
      · exact hasKs_mem h j hj
theorem gFz_out {g : Nat → Option Atom} {k : Nat} : ∀ {l : List (Nat × Atom)}, (∀ A, (k, A) ∉ l) → gFz g l k = g k
  | [], _ => rfl
  | (i, B) :: r, h => by
    simp only [gFz, someU, gUpd]
    rw [if_neg (fun e => h B (by simp [e]))]
    exact gFz_out fun A hA => h A (by simp [hA])
theorem gUpd_app {g : Nat → Option Atom} {k : Nat} : ∀ (u u' : List (Nat × Option Atom)), gUpd g (u ++ u') k = gUpd (gUpd g u') u k
  | [], u' => rfl
  | (i, B) :: r, u' => by 
    simp only [List.cons_append, gUpd]
    split
    · rfl
    · exact gUpd_app r u'
theorem gUpd_undo {g : Nat → Option Atom} {k : Nat} {A : Atom} : ∀ {ks : List Nat}, gUpd g (undoL ks) k = some A → k ∉ ks ∧ g k = some A
  | [], h => ⟨by simp, h⟩
  | i :: r, h => by
    simp only [undoL, gUpd] at h
    split at h
    · simp at h
    · rename_i hne
      obtain ⟨h1, h2⟩ := gUpd_undo h
      exact ⟨by simp [hne, h1], h2⟩

/-- append, all forms. -/
theorem snd_append {cl : Call} (hT : TabOK tab P) (ho : o.op = .call cl) (hb : cl.callee = .builtin .append) {x y : Operand} (ha : cl.args.toList = [x, y]) {t : Nat} (hty : cl.argTypes = #[t, t]) {i e : TI} (hi : tab t = some i) (hk : i.kind = 3) (he : tab i.elem = some e) {T : Ty} (hTy : e.ty = some T)
    {s s' : SV} (hx : ev fr x = some s) (hy : ev fr y = some s') {l xs : List T.den} {ks r1 r2 : List Nat} {fz : List (Nat × Atom)} (h1 : dstOf M i.elem T s = some (l, ks, r1)) (h2 : srcOf' M T s' = some (xs, r2, fz)) (hks : hasKs r1 fz = false) (hroom : room (l ++ xs).length e.bytes = true) :
    OpOK P c key o fr M ⟨.own key, (key, some (.own i.elem T (l ++ xs))) :: (undoL ks ++ someU fz), 1, r1 ++ r2, false⟩ := by
  obtain ⟨hbytes, hmax⟩ : (l ++ xs).length * e.bytes ≤ 140737488355328 ∧ (l ++ xs).length ≤ 9223372036854775807 := by simpa [room] using hroom
  refine ⟨by simp, fun E p a W g hM hg hkk hop next Q hn => ?_⟩
  have hargs : cl.args = #[x, y] := by rw [← Array.toArray_toList (xs := cl.args), ha]
  obtain ⟨h3, h4⟩ := hop x (by rw [ho]; simp [Op.operands, Call.operands, hb, hargs]) _ hx
  obtain ⟨h5, h6⟩ := hop y (by rw [ho]; simp [Op.operands, Call.operands, hb, hargs]) _ hy
  have hg1 : ∀ k, k ∈ r1 → ¬ (key ≤ k ∧ k < key + 8) → g k = getM k M := fun k hk' => hg k (by simp [hk'])
  have hg2 : ∀ k, k ∈ r2 → ¬ (key ≤ k ∧ k < key + 8) → g k = getM k M := fun k hk' => hg k (by simp [hk'])
  obtain ⟨hf1, hf2⟩ := src_at (key := key) hM h2 hg2 hkk h5
  obtain ⟨E1, e1, e2, e3, e4, hM1⟩ := SatM.frz fz E g hM hf1
  have hstill : ∀ b, still c E b → still c E1 b := fun b hb => hb.imp id (e2 b)
  have hd1 : ∀ s, den E1 s = den E s := fun s => den_agree (p := fun _ => True) (fun k _ => by rw [e1.1, e1.2.1]; exact ⟨rfl, rfl⟩) s (okTrue s)
  obtain ⟨A, q, news, d2, hnil, hrn, hcell⟩ := hf2 E1 hstill e4
  obtain ⟨hkp, A0, l0, q0, vs, d1, o1, hrv, w1, dj1⟩ := dst_at (key := key) hM1 h1 (fun k hk' hk'' => by rw [gFz_out (hasKs_mem hks k hk')]; exact hg1 k hk' hk'') hkk h3 (fun _ _ _ _ _ => by simp at hmax; omega)
  rw [hd1] at d1
  have hk0 : ¬ p key := hkk 0 (by omega)
  have hsz : T.size = e.size := (hT.tyz _ e T he hTy).1
  have hes : e.size = i.esize := by
    have := info_of hT he
    rw [(hT.slice t i hi hk).2] at this
    simpa using this.symm
  have hts : T.size = i.esize := hsz.trans hes
  have hnl : news.length = xs.length * i.esize := by rw [hrn.length, hts]
  rw [hts] at o1
  obtain ⟨A', n'', q', W', hrun, hown, hfr, hfoot⟩ := app_core (ty := o.type) hT hi hk he hes (by rw [← hts]; exact T.size_pos) o1 hnil hnl hcell (fun u hu => hrn.one _ _ u hu) (by rw [← List.length_append]; exact hbytes) (by rw [← List.length_append]; exact hmax) hM.fr.size
  refine wp_val (v := .slice A' n'' q') (W' := W') ?_ ?_
  · simp [execOp, ho, resolve, hb, hargs, h4, h6, d1, d2, invoke, builtin, hty, hrun]
  · have ha' : Agree p E1 (E1.setSlv key (A', n'', q')) := agree_setSlv hk0
    have ha'' : Agree p E (E1.setSlv key (A', n'', q')) := fun k hk => by
      obtain ⟨q1, q2⟩ := ha' k hk
      exact ⟨by rw [q1, e1.1], by rw [q2, e1.2.1]⟩
    have := hn (E1.setSlv key (A', n'', q')) W' ha'' ?_ (by exact .inr ⟨Nat.le_refl _, Nat.lt_succ_self _⟩)
    · simpa [den, Env.setSlv] using this
    · have hf : footOf (E1.setSlv key (A', n'', q')) key (.own i.elem T (l ++ xs)) = sliceFoot A' := by cases A' <;> simp [footOf, Env.setSlv, sliceFoot]
      refine hM1.one (T := sliceFoot A0) ha' ⟨rfl, rfl, rfl, rfl⟩ (fun _ h => .inl h) hfr w1 key (.own i.elem T (l ++ xs)) (fun k' hne A hA => ?_) (fun A hA => by simpa [gUpd] using hA.symm) ⟨.inr ⟨Nat.le_refl _, Nat.lt_succ_self _⟩, trivial, ?_, (by simp [Atom.mine]), fun b hb => ?_⟩
      · simp only [gUpd, if_neg hne] at hA
        rw [gUpd_app] at hA
        obtain ⟨q1, q2⟩ := gUpd_undo hA
        exact ⟨q2, dj1 k' A q1 q2⟩
      · simp only [AtomAt, den, Env.setSlv, if_pos]
        refine ⟨vs ++ news, by rw [hts, List.length_append]; exact hown, (hrv.append hrn).mono (fun _ h => h) (still_same hM1 hfr w1)⟩
      · rw [hf] at hb
        rcases hfoot b hb with h | h
        · exact .inr h
        · exact .inl h
end
end Go.VM
